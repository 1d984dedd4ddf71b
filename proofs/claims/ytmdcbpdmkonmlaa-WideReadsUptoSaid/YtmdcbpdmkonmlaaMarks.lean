/-
  The reference's marks of units, its runes, its first lone one: walked. Printed by a program of ours (genmarks.py).
-/
import Derived.Test.YtmdcbpdmkonmlaaREncW
import Derived.Test.YtmdcbpdmkonmlaaRSpots
import Derived.Test.YtmdcbpdmkonmlaaBackW2
namespace Go.Proofs.Ytmdcbpdmkonmlaa
open Go.RowKit

theorem info84 : (Try.prog.info? 84).map (fun i => (i.zero, i.size, i.bytes)) = some (some (.agg #[.int .i64 0, .int .i32 0, .int .i64 0]), 3, 24) := by kernel_rfl

/-- What a lone unit is. -/
def codeW (u : Int) : Int := if highB u then 20 else if lowB u then 21 else 0
/-- What units stand for, where, and what is wrong. -/
def marksC : List Int → Nat → List (Nat × Int × Int)
  | [], _ => []
  | [u], k => [(k, loneR u, codeW u)]
  | u :: v :: r, k => if (joinOf u v).2 then (k, (joinOf u v).1, 0) :: marksC r (k + 2) else (k, loneR u, codeW u) :: marksC (v :: r) (k + 1)

theorem marksC_pair {w : List Int} {k : Nat} {u v : Int} (hu : w[k]? = some u) (hv : w[k + 1]? = some v) (hj : (joinOf u v).2 = true) : marksC (w.drop k) k = (k, (joinOf u v).1, 0) :: marksC (w.drop (k + 2)) (k + 2) := by
  obtain ⟨h1, rfl⟩ := List.getElem?_eq_some_iff.1 hu
  obtain ⟨h2, rfl⟩ := List.getElem?_eq_some_iff.1 hv
  rw [List.drop_eq_getElem_cons h1, List.drop_eq_getElem_cons h2]
  simp [marksC, hj]
theorem marksC_lone {w : List Int} {k : Nat} {u : Int} (hu : w[k]? = some u) (hv : ∀ v, w[k + 1]? = some v → (joinOf u v).2 = false) : marksC (w.drop k) k = (k, loneR u, codeW u) :: marksC (w.drop (k + 1)) (k + 1) := by
  obtain ⟨h1, rfl⟩ := List.getElem?_eq_some_iff.1 hu
  rw [List.drop_eq_getElem_cons h1]
  by_cases h2 : k + 1 < w.length
  · have hj := hv _ (List.getElem?_eq_getElem h2)
    rw [List.drop_eq_getElem_cons h2]
    simp [marksC, hj]
  · rw [List.drop_eq_nil_of_le (show w.length ≤ k + 1 by omega)]
    simp [marksC]

theorem marksC_from (us : List Int) (k : Nat) : (marksC us k).map (fun x => (x.1, x.2.1)) = marksFrom us k := by
  match us with
  | [] => rfl
  | [u] => rfl
  | u :: v :: r =>
    have h1 := marksC_from r (k + 2)
    have h2 := marksC_from (v :: r) (k + 1)
    simp only [marksC, marksFrom]
    split
    · rw [List.map_cons, h1]
    · rw [List.map_cons, h2]

/-- A mark's three cells. -/
def markL (x : Nat × Int × Int) : List Value := [.int .i64 (x.1 : Int), .int .i32 x.2.1, .int .i64 x.2.2]
theorem markL_all (L : List (Nat × Int × Int)) : (L.flatMap markL).length = L.length * 3 := by
  induction L with
  | nil => rfl
  | cons x L ih => simp only [List.flatMap_cons, List.length_append, ih, List.length_cons, markL]; simp; omega
theorem markL_at (L : List (Nat × Int × Int)) (k : Nat) (x : Nat × Int × Int) (h : L[k]? = some x) (j : Nat) (hj : j < 3) : (L.flatMap markL)[k * 3 + j]? = (markL x)[j]? := by
  induction L generalizing k with
  | nil => simp at h
  | cons y L ih =>
    cases k with
    | zero =>
      simp at h
      subst h
      rw [List.flatMap_cons, Nat.zero_mul, Nat.zero_add, List.getElem?_append_left (by simp [markL]; omega)]
    | succ k =>
      rw [List.flatMap_cons, List.getElem?_append_right (by simp [markL]; omega)]
      have := ih k (by simpa using h)
      rw [← this]
      congr 1
      simp [markL]
      omega
theorem mark_cells {w : World} {B n c k : Nat} {a : Option Addr} {L : List (Nat × Int × Int)} {x : Nat × Int × Int} (h : Own w B 3 a n c (L.flatMap markL)) (hx : L[k]? = some x) : ∃ g, a = some ⟨g, 0, none⟩ ∧ w.cell? ⟨g, k * 3, none⟩ = some (.int .i64 (x.1 : Int)) ∧ w.cell? ⟨g, k * 3 + 1, none⟩ = some (.int .i32 x.2.1) ∧ w.cell? ⟨g, k * 3 + 2, none⟩ = some (.int .i64 x.2.2) := by
  have hk : k < L.length := (List.getElem?_eq_some_iff.1 hx).1
  have hl := h.len
  rw [markL_all] at hl
  obtain ⟨g, hg, _, _, q3, _⟩ := h.addr (by have := h.le; omega)
  refine ⟨g, hg, q3 _ _ ?_, q3 _ _ ?_, q3 _ _ ?_⟩
  · have := markL_at L k x hx 0 (by omega)
    rw [Nat.add_zero] at this
    rw [this]
    rfl
  · rw [markL_at L k x hx 1 (by omega)]; rfl
  · rw [markL_at L k x hx 2 (by omega)]; rfl

theorem quiet_rjoin {h l : Int} {r : Int} {b : Bool} (hj : joinOf h l = (r, b)) (w : World) : Calls Try.prog 17 #[.int .u16 h, .int .u16 l] w fun e w' => e = .returned (.tuple #[.int .i32 r, .bool b]) ∧ w' = w := (rjoin_any h l w).mono fun _ _ ⟨h1, h2⟩ => ⟨by rw [h1, hj], h2.symm⟩
theorem rhigh_is {u : Int} {b : Bool} (h : highB u = b) (w : World) : Calls Try.prog 53 #[.int .u16 u] w fun e w' => e = .returned (.bool b) ∧ w = w' := by subst h; exact rhigh_any u w
theorem rlow_is {u : Int} {b : Bool} (h : lowB u = b) (w : World) : Calls Try.prog 54 #[.int .u16 u] w fun e w' => e = .returned (.bool b) ∧ w = w' := by subst h; exact rlow_any u w
theorem own_new_ne {w : World} {B size n c : Nat} {a : Option Addr} {xs : List Value} (h : Own w B size a n c xs) : ∀ g, a = some ⟨g, 0, none⟩ → g ≠ w.heap.size := by
  intro g hg e
  have := own_block_lt h (Nat.le_refl w.heap.size)
  rw [hg] at this
  exact this (by simp [blockOf, e])

theorem marksC_le (us : List Int) (k : Nat) : (marksC us k).length ≤ us.length := by
  have := marksFrom_le us k
  rw [← marksC_from, List.length_map] at this
  exact this

set_option maxRecDepth 20000 in
set_option maxHeartbeats 4000000 in
theorem marks_any (w : World) (a : Option Addr) (c : Nat) (us : List Int) (hn : us.length ≤ 1099511627776) (hr : Cells w a (us.map (Value.int .u16))) (hwf : ∀ u ∈ us, 0 ≤ u ∧ u ≤ 65535) :
    Calls Try.prog 44 #[.slice a us.length c] w fun e w' => ∃ (a' : Option Addr) (c' : Nat), e = .returned (.slice a' (marksC us 0).length c') ∧ Own w' w.heap.size 3 a' (marksC us 0).length c' ((marksC us 0).flatMap markL) ∧ Below w.heap.size w w' := by
  obtain ⟨i0, hi, hz0, hz1, hz2⟩ := info_parts info84
  have HR := Lib.hid hr
  have HWF := Lib.hid hwf
  clear hr hwf
  go_enter Try.func44, Try.ntmps44
  go_wp2
  go_loopw [3, 4] (fun v x wr => ∃ (k : Nat) (L : List (Nat × Int × Int)) (a : Option Addr) (c : Nat), k ≤ us.length ∧ L.length ≤ k ∧ x = .int .i64 k ∧ v = .slice a L.length c ∧ Own wr w.heap.size 3 a L.length c (L.flatMap markL) ∧ Hid (L ++ marksC (us.drop k) k = marksC us 0) ∧ Below w.heap.size w wr) (fun _ x _ => us.length - (intOf x).toNat)
  case atStart => exact ⟨0, [], none, 0, Nat.zero_le _, Nat.le_refl _, rfl, rfl, Own.nil _ _ _, Lib.hid (by simp), Below.refl _ _⟩
  case round =>
    obtain ⟨k, L, a2, c2, hk, hLk, rfl, rfl, hown, HS, hb⟩ := hrel
    have hk0 : (0 : Int) ≤ (k : Int) := by omega
    by_cases hlt : k < us.length
    · obtain ⟨b1, o1, u, rfl, hu, hc1⟩ := (HR.out.below hb).at hlt
      have hlt2 : (k : Int) < (us.length : Int) := by omega
      obtain ⟨hu0, hu1⟩ := HWF.out u (List.mem_of_getElem? hu)
      have hL : L.length + 1 ≤ 1099511627776 := by omega
      have HU := Lib.hid hu
      have HB := Lib.hid hb
      have HO := Lib.hid hown
      have hne := own_block_lt hown (Nat.le_refl wr.heap.size)
      clear hu hown hb
      by_cases hl2 : k + 1 < us.length
      · obtain ⟨b2, o2, v, hp2, hv, hc2⟩ := (HR.out.below HB.out).at hl2
        simp only [Option.some.injEq, Addr.mk.injEq] at hp2
        obtain ⟨rfl, rfl, _⟩ := hp2
        have hl3 : (k : Int) + 1 < (us.length : Int) := by omega
        have hk1 : (0 : Int) ≤ (k : Int) + 1 := by omega
        have HV := Lib.hid hv
        clear hv
        cases hj : (joinOf u v).2
        · have HJ := Lib.hid (Prod.ext rfl hj : joinOf u v = ((joinOf u v).1, false))
          have HST := Lib.hid (marksC_lone HU.out (fun v' hv' => by rw [HV.out] at hv'; cases hv'; exact hj))
          clear hj
          generalize (joinOf u v).1 = r at *
          go_wp2
          go_quiet ((go_at_call 17; exact Calls.quiet_of_same (quiet_rjoin HJ.out _)))
          have hb3 : Below w.heap.size w (wr.drewN nq) := below_drewN HB.out _
          have hown3 := HO.out.below (below_drewN (Below.refl wr.heap.size wr) nq)
          have hc3 : (wr.drewN nq).cell? ⟨b1, o1 + k, none⟩ = some (.int .u16 u) := ((below_drewN (Below.refl wr.heap.size wr) nq).cell (World.block_lt_of_cell? wr _ hc1)).trans hc1
          generalize wr.drewN nq = W3 at *
          have hbl : b1 < W3.heap.size := World.block_lt_of_cell? W3 _ hc3
          have HB3 := Lib.hid hb3
          clear hb3 HO HB hc2 hc1
          cases hh : highB u
          · cases hlo : lowB u
            · have hl1 : loneR u = u := loneR_no hh hlo
              have hl2' : codeW u = 0 := by simp [codeW, hh, hlo]
              have HST2 := Lib.hid (show marksC (us.drop k) k = (k, u, 0) :: marksC (us.drop (k + 1)) (k + 1) by rw [HST.out, hl1, hl2'])
              have HH := Lib.hid (rhigh_is hh)
              have HLO := Lib.hid (rlow_is hlo)
              clear hl1 hl2' hh hlo
              go_wp2_with (first | (go_at_call 53; refine (HH.out _).mono ?_; rintro e w' ⟨rfl, rfl⟩) | (go_at_call 54; refine (HLO.out _).mono ?_; rintro e w' ⟨rfl, rfl⟩) | (at_builtin; refine wpList_app rfl _ _ 62 62 rfl 84 i0 (.agg #[.int .i64 0, .int .i32 0, .int .i64 0]) 3 24 Try.underlying62 hi hz0 hz1 hz2 rfl (by simp [Value.cells, Value.oneCell']) w.heap.size _ _ _ _ rfl ((hown3.alloc _).alloc _) _ 1 [.int .i64 (k : Int), .int .i32 u, .int .i64 0] rfl (Src.ofCells Try.underlying62 _ _ _ _ rfl (Cells.new1 _ _ _ _) (by simp [Value.oneCell']) (by decide)) (by simp [maxLen]; omega) (by omega) (by have := HB3.out.size; simp; omega) ?_; intro a4 c4 w4 hown4 hap4; have hbb := Lib.hid (((HB3.out.alloc HB3.out.size _).alloc (by have := HB3.out.size; simp; omega) _).trans (hap4.below ((hown3.alloc _).alloc _) (by have := HB3.out.size; simp; omega))); have HO4 := Lib.hid hown4; clear hown4 hap4 hown3))
              go_roundw
              case rel => exact ⟨k + 1, L ++ [(k, u, 0)], a4, c4, by omega, by simp; omega, by go_num, by simp, by have := HO4.out; simpa [markL] using this, Lib.hid (by rw [← HS.out, HST2.out]; simp), hbb.out⟩
              case measure => simp [intOf]; omega
            · have hl1 : loneR u = 65533 := loneR_yes2 hlo
              have hl2' : codeW u = 21 := by simp [codeW, hh, hlo]
              have HST2 := Lib.hid (show marksC (us.drop k) k = (k, 65533, 21) :: marksC (us.drop (k + 1)) (k + 1) by rw [HST.out, hl1, hl2'])
              have HH := Lib.hid (rhigh_is hh)
              have HLO := Lib.hid (rlow_is hlo)
              clear hl1 hl2' hh hlo
              go_wp2_with (first | (go_at_call 53; refine (HH.out _).mono ?_; rintro e w' ⟨rfl, rfl⟩) | (go_at_call 54; refine (HLO.out _).mono ?_; rintro e w' ⟨rfl, rfl⟩) | (at_builtin; refine wpList_app rfl _ _ 62 62 rfl 84 i0 (.agg #[.int .i64 0, .int .i32 0, .int .i64 0]) 3 24 Try.underlying62 hi hz0 hz1 hz2 rfl (by simp [Value.cells, Value.oneCell']) w.heap.size _ _ _ _ rfl ((hown3.alloc _).alloc _) _ 1 [.int .i64 (k : Int), .int .i32 65533, .int .i64 21] rfl (Src.ofCells Try.underlying62 _ _ _ _ rfl (Cells.new1 _ _ _ _) (by simp [Value.oneCell']) (by decide)) (by simp [maxLen]; omega) (by omega) (by have := HB3.out.size; simp; omega) ?_; intro a4 c4 w4 hown4 hap4; have hbb := Lib.hid (((HB3.out.alloc HB3.out.size _).alloc (by have := HB3.out.size; simp; omega) _).trans (hap4.below ((hown3.alloc _).alloc _) (by have := HB3.out.size; simp; omega))); have HO4 := Lib.hid hown4; clear hown4 hap4 hown3))
              go_roundw
              case rel => exact ⟨k + 1, L ++ [(k, 65533, 21)], a4, c4, by omega, by simp; omega, by go_num, by simp, by have := HO4.out; simpa [markL] using this, Lib.hid (by rw [← HS.out, HST2.out]; simp), hbb.out⟩
              case measure => simp [intOf]; omega
          · have hl1 : loneR u = 65533 := loneR_yes1 hh
            have hl2' : codeW u = 20 := by simp [codeW, hh]
            have HST2 := Lib.hid (show marksC (us.drop k) k = (k, 65533, 20) :: marksC (us.drop (k + 1)) (k + 1) by rw [HST.out, hl1, hl2'])
            have HH := Lib.hid (rhigh_is hh)
            clear hl1 hl2' hh
            go_wp2_with (first | (go_at_call 53; refine (HH.out _).mono ?_; rintro e w' ⟨rfl, rfl⟩) | (at_builtin; refine wpList_app rfl _ _ 62 62 rfl 84 i0 (.agg #[.int .i64 0, .int .i32 0, .int .i64 0]) 3 24 Try.underlying62 hi hz0 hz1 hz2 rfl (by simp [Value.cells, Value.oneCell']) w.heap.size _ _ _ _ rfl ((hown3.alloc _).alloc _) _ 1 [.int .i64 (k : Int), .int .i32 65533, .int .i64 20] rfl (Src.ofCells Try.underlying62 _ _ _ _ rfl (Cells.new1 _ _ _ _) (by simp [Value.oneCell']) (by decide)) (by simp [maxLen]; omega) (by omega) (by have := HB3.out.size; simp; omega) ?_; intro a4 c4 w4 hown4 hap4; have hbb := Lib.hid (((HB3.out.alloc HB3.out.size _).alloc (by have := HB3.out.size; simp; omega) _).trans (hap4.below ((hown3.alloc _).alloc _) (by have := HB3.out.size; simp; omega))); have HO4 := Lib.hid hown4; clear hown4 hap4 hown3))
            go_roundw
            case rel => exact ⟨k + 1, L ++ [(k, 65533, 20)], a4, c4, by omega, by simp; omega, by go_num, by simp, by have := HO4.out; simpa [markL] using this, Lib.hid (by rw [← HS.out, HST2.out]; simp), hbb.out⟩
            case measure => simp [intOf]; omega
        · have HJ := Lib.hid (Prod.ext rfl hj : joinOf u v = ((joinOf u v).1, true))
          have HST := Lib.hid (marksC_pair HU.out HV.out hj)
          clear hj
          generalize (joinOf u v).1 = r at *
          go_wp2
          go_quiet ((go_at_call 17; exact Calls.quiet_of_same (quiet_rjoin HJ.out _)))
          have hb3 : Below w.heap.size w (wr.drewN nq) := below_drewN HB.out _
          have hown3 := HO.out.below (below_drewN (Below.refl wr.heap.size wr) nq)
          generalize wr.drewN nq = W3 at *
          have HB3 := Lib.hid hb3
          clear hb3 HO HB
          go_wp2_with (at_builtin; refine wpList_app rfl _ _ 62 62 rfl 84 i0 (.agg #[.int .i64 0, .int .i32 0, .int .i64 0]) 3 24 Try.underlying62 hi hz0 hz1 hz2 rfl (by simp [Value.cells, Value.oneCell']) w.heap.size _ _ _ _ rfl (hown3.alloc _) _ 1 [.int .i64 (k : Int), .int .i32 r, .int .i64 0] rfl (Src.ofCells Try.underlying62 _ _ _ _ rfl (Cells.new _ _ _) (by simp [Value.oneCell']) (by decide)) (by simp [maxLen]; omega) (by omega) (by have := HB3.out.size; simp; omega) ?_; intro a4 c4 w4 hown4 hap4; have hbb := Lib.hid ((HB3.out.alloc HB3.out.size _).trans (hap4.below (hown3.alloc _) (by have := HB3.out.size; simp; omega))); have HO4 := Lib.hid hown4; clear hown4 hap4 hown3)
          go_roundw
          case rel => exact ⟨k + 2, L ++ [(k, r, 0)], a4, c4, by omega, by simp; omega, by go_num, by simp, by have := HO4.out; simpa [markL] using this, Lib.hid (by rw [← HS.out, HST.out]; simp), hbb.out⟩
          case measure => simp [intOf]; omega
      · have HST := Lib.hid (marksC_lone HU.out (fun v' hv' => absurd (List.getElem?_eq_some_iff.1 hv').1 hl2))
        have hl3 : (us.length : Int) ≤ (k : Int) + 1 := by omega
        have hown3 := HO.out
        have HB3 := HB
        obtain ⟨W3, hW3⟩ : ∃ W3, W3 = wr := ⟨_, rfl⟩
        subst hW3
        have hbl : b1 < W3.heap.size := World.block_lt_of_cell? W3 _ hc1
        clear HO HB
        cases hh : highB u
        · cases hlo : lowB u
          · have hl1 : loneR u = u := loneR_no hh hlo
            have hl2' : codeW u = 0 := by simp [codeW, hh, hlo]
            have HST2 := Lib.hid (show marksC (us.drop k) k = (k, u, 0) :: marksC (us.drop (k + 1)) (k + 1) by rw [HST.out, hl1, hl2'])
            have HH := Lib.hid (rhigh_is hh)
            have HLO := Lib.hid (rlow_is hlo)
            clear hl1 hl2' hh hlo
            go_wp2_with (first | (go_at_call 53; refine (HH.out _).mono ?_; rintro e w' ⟨rfl, rfl⟩) | (go_at_call 54; refine (HLO.out _).mono ?_; rintro e w' ⟨rfl, rfl⟩) | (at_builtin; refine wpList_app rfl _ _ 62 62 rfl 84 i0 (.agg #[.int .i64 0, .int .i32 0, .int .i64 0]) 3 24 Try.underlying62 hi hz0 hz1 hz2 rfl (by simp [Value.cells, Value.oneCell']) w.heap.size _ _ _ _ rfl ((hown3.alloc _).alloc _) _ 1 [.int .i64 (k : Int), .int .i32 u, .int .i64 0] rfl (Src.ofCells Try.underlying62 _ _ _ _ rfl (Cells.new1 _ _ _ _) (by simp [Value.oneCell']) (by decide)) (by simp [maxLen]; omega) (by omega) (by have := HB3.out.size; simp; omega) ?_; intro a4 c4 w4 hown4 hap4; have hbb := Lib.hid (((HB3.out.alloc HB3.out.size _).alloc (by have := HB3.out.size; simp; omega) _).trans (hap4.below ((hown3.alloc _).alloc _) (by have := HB3.out.size; simp; omega))); have HO4 := Lib.hid hown4; clear hown4 hap4 hown3))
            go_roundw
            case rel => exact ⟨k + 1, L ++ [(k, u, 0)], a4, c4, by omega, by simp; omega, by go_num, by simp, by have := HO4.out; simpa [markL] using this, Lib.hid (by rw [← HS.out, HST2.out]; simp), hbb.out⟩
            case measure => simp [intOf]; omega
          · have hl1 : loneR u = 65533 := loneR_yes2 hlo
            have hl2' : codeW u = 21 := by simp [codeW, hh, hlo]
            have HST2 := Lib.hid (show marksC (us.drop k) k = (k, 65533, 21) :: marksC (us.drop (k + 1)) (k + 1) by rw [HST.out, hl1, hl2'])
            have HH := Lib.hid (rhigh_is hh)
            have HLO := Lib.hid (rlow_is hlo)
            clear hl1 hl2' hh hlo
            go_wp2_with (first | (go_at_call 53; refine (HH.out _).mono ?_; rintro e w' ⟨rfl, rfl⟩) | (go_at_call 54; refine (HLO.out _).mono ?_; rintro e w' ⟨rfl, rfl⟩) | (at_builtin; refine wpList_app rfl _ _ 62 62 rfl 84 i0 (.agg #[.int .i64 0, .int .i32 0, .int .i64 0]) 3 24 Try.underlying62 hi hz0 hz1 hz2 rfl (by simp [Value.cells, Value.oneCell']) w.heap.size _ _ _ _ rfl ((hown3.alloc _).alloc _) _ 1 [.int .i64 (k : Int), .int .i32 65533, .int .i64 21] rfl (Src.ofCells Try.underlying62 _ _ _ _ rfl (Cells.new1 _ _ _ _) (by simp [Value.oneCell']) (by decide)) (by simp [maxLen]; omega) (by omega) (by have := HB3.out.size; simp; omega) ?_; intro a4 c4 w4 hown4 hap4; have hbb := Lib.hid (((HB3.out.alloc HB3.out.size _).alloc (by have := HB3.out.size; simp; omega) _).trans (hap4.below ((hown3.alloc _).alloc _) (by have := HB3.out.size; simp; omega))); have HO4 := Lib.hid hown4; clear hown4 hap4 hown3))
            go_roundw
            case rel => exact ⟨k + 1, L ++ [(k, 65533, 21)], a4, c4, by omega, by simp; omega, by go_num, by simp, by have := HO4.out; simpa [markL] using this, Lib.hid (by rw [← HS.out, HST2.out]; simp), hbb.out⟩
            case measure => simp [intOf]; omega
        · have hl1 : loneR u = 65533 := loneR_yes1 hh
          have hl2' : codeW u = 20 := by simp [codeW, hh]
          have HST2 := Lib.hid (show marksC (us.drop k) k = (k, 65533, 20) :: marksC (us.drop (k + 1)) (k + 1) by rw [HST.out, hl1, hl2'])
          have HH := Lib.hid (rhigh_is hh)
          clear hl1 hl2' hh
          go_wp2_with (first | (go_at_call 53; refine (HH.out _).mono ?_; rintro e w' ⟨rfl, rfl⟩) | (at_builtin; refine wpList_app rfl _ _ 62 62 rfl 84 i0 (.agg #[.int .i64 0, .int .i32 0, .int .i64 0]) 3 24 Try.underlying62 hi hz0 hz1 hz2 rfl (by simp [Value.cells, Value.oneCell']) w.heap.size _ _ _ _ rfl ((hown3.alloc _).alloc _) _ 1 [.int .i64 (k : Int), .int .i32 65533, .int .i64 20] rfl (Src.ofCells Try.underlying62 _ _ _ _ rfl (Cells.new1 _ _ _ _) (by simp [Value.oneCell']) (by decide)) (by simp [maxLen]; omega) (by omega) (by have := HB3.out.size; simp; omega) ?_; intro a4 c4 w4 hown4 hap4; have hbb := Lib.hid (((HB3.out.alloc HB3.out.size _).alloc (by have := HB3.out.size; simp; omega) _).trans (hap4.below ((hown3.alloc _).alloc _) (by have := HB3.out.size; simp; omega))); have HO4 := Lib.hid hown4; clear hown4 hap4 hown3))
          go_roundw
          case rel => exact ⟨k + 1, L ++ [(k, 65533, 20)], a4, c4, by omega, by simp; omega, by go_num, by simp, by have := HO4.out; simpa [markL] using this, Lib.hid (by rw [← HS.out, HST2.out]; simp), hbb.out⟩
          case measure => simp [intOf]; omega
    · obtain rfl : us.length = k := by omega
      have hS := HS.out
      rw [List.drop_eq_nil_of_le (Nat.le_refl _)] at hS
      simp only [marksC, List.append_nil] at hS
      subst hS
      have HO := Lib.hid hown
      have HB := Lib.hid hb
      clear hown hb
      go_wp2
      go_ret
      exact ⟨a2, c2, rfl, HO.out, HB.out⟩

end Go.Proofs.Ytmdcbpdmkonmlaa
