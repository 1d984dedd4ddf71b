/-
  Two answers that are the wanted runes, and memory of their own: walked.
-/
import Derived.Test.YthkehgmeaedflaaDoorRSame
import Derived.Test.YthkehgmeaedflaaDoorUBack
namespace Go.Proofs.YthkehgmeaedflaaDoor
open Go.RowKit

theorem Apped.apart {w w' : World} {a a' b : Option Addr} {B size n c : Nat} {xs : List Value} (h : Apped w w' a a') (ho : Own w B size b n c xs) (hne : b = none ∨ blockOf b ≠ blockOf a) : b = none ∨ blockOf b ≠ blockOf a' := by
  rcases hne with h0 | h0
  · exact .inl h0
  · rcases h.place with e | ⟨g, e, hg⟩
    · right; rw [e]; exact h0
    · rcases ho.row with ⟨h1, _⟩ | ⟨g', ha, _, h2, _⟩
      · exact .inl h1
      · right
        rw [e, ha]
        simp [blockOf]
        omega
theorem apart_symm {a b : Option Addr} {w : World} {B size n c : Nat} {xs : List Value} (_ha : Own w B size a n c xs) (h : b = none ∨ blockOf b ≠ blockOf a) : a = none ∨ blockOf a ≠ blockOf b := by
  rcases h with rfl | h
  · cases a with
    | none => exact .inl rfl
    | some p => right; simp [blockOf]
  · exact .inr (Ne.symm h)
theorem apart_block {b : Option Addr} {g o : Nat} (hne : b = none ∨ blockOf b ≠ blockOf (some ⟨g, o, none⟩)) : ∀ g', b = some ⟨g', 0, none⟩ → g' ≠ g := by
  intro g' hb
  rcases hne with h0 | h0
  · rw [h0] at hb; cases hb
  · rw [hb] at h0
    simpa [blockOf] using h0
/-- Where a row is the later one it isn't in the earlier one's block. -/
theorem later_apart {w1 w : World} {B B' size size' n c n' c' : Nat} {a b : Option Addr} {xs ys : List Value} (ha : Own w1 B size a n c xs) (hb : Own w B' size' b n' c' ys) (hB : w1.heap.size ≤ B') : b = none ∨ blockOf b ≠ blockOf a := by
  rcases hb.row with ⟨h1, _⟩ | ⟨g', hb1, h2, _⟩
  · exact .inl h1
  · right
    rcases ha.row with ⟨h3, _⟩ | ⟨g, ha1, _, h4, _⟩
    · rw [h3, hb1]; simp [blockOf]
    · rw [ha1, hb1]; simp [blockOf]; omega

/-- So many times the same cell, at the front. -/
def Lead (k : Nat) (v : Value) (l : List Value) : Prop := ∀ j, j < k → l[j]? = some v
theorem Lead.next {k : Nat} {v : Value} {l : List Value} (h : Lead k v l) (hk : k < l.length) : Lead (k + 1) v (l.set k v) := by
  intro j hj
  rw [List.getElem?_set]
  by_cases e : k = j
  · subst e
    simp [hk]
  · rw [if_neg e]
    exact h j (by omega)
/-- .. and so many times another, behind. -/
def Tail (n k : Nat) (v : Value) (l : List Value) : Prop := ∀ j, n ≤ j → j < n + k → l[j]? = some v

theorem lead_app {n : Nat} {v : Value} {l r : List Value} (h : Lead n v l) : Lead n v (l ++ r) := fun j hj => by
  have := h j hj
  rw [List.getElem?_append_left (List.getElem?_eq_some_iff.1 this).1]
  exact this
theorem tail_app {n k : Nat} {v : Value} {l : List Value} (h : Tail n k v l) (hl : l.length = n + k) : Tail n (k + 1) v (l ++ [v]) := fun j h1 h2 => by
  by_cases hj : j < n + k
  · have := h j h1 hj
    rw [List.getElem?_append_left (List.getElem?_eq_some_iff.1 this).1]
    exact this
  · rw [List.getElem?_append_right (by omega), show j - l.length = 0 by omega]
    rfl

set_option maxRecDepth 100000 in
set_option maxHeartbeats 8000000 in
theorem fresh_any (w : World) (B0 Bw : Nat) (a b aw : Option Addr) (ca cb cw : Nat) (l : List Int) (hn : l.length ≤ 17592186044416) (hB0 : B0 ≤ w.heap.size) (hA : Own w B0 1 a l.length ca (l.map (Value.int .i32))) (hB : Own w B0 1 b l.length cb (l.map (Value.int .i32))) (hW : Own w Bw 1 aw l.length cw (l.map (Value.int .i32)))
    (pab : b = none ∨ blockOf b ≠ blockOf a) (pwa : aw = none ∨ blockOf aw ≠ blockOf a) (pwb : aw = none ∨ blockOf aw ≠ blockOf b) :
    Calls Tryd.prog 28 #[.slice a l.length ca, .slice b l.length cb, .slice aw l.length cw] w fun e w' => e = .returned (.bool true) ∧ Below B0 w w' := by
  obtain ⟨i0, hi, hz0, hz1, hz2⟩ := info_parts info21
  have S1 := rsame_any w a ca l aw cw l (by omega) hA.toCells hW.toCells
  rw [decide_eq_true rfl] at S1
  have HS1 := Lib.hid S1
  have HA := Lib.hid hA
  have HB := Lib.hid hB
  have HW := Lib.hid hW
  have PAB := Lib.hid pab
  have PWA := Lib.hid pwa
  have PWB := Lib.hid pwb
  clear S1 hA hB hW pab pwa pwb
  go_enter Tryd.func28, Tryd.ntmps28
  go_wp2_with fail
  refine HS1.out.mono ?_
  rintro e w1 ⟨rfl, hb1⟩
  have HA1 := Lib.hid (HA.out.below hb1)
  have HB1 := Lib.hid (HB.out.below hb1)
  have HW1 := Lib.hid (HW.out.below hb1)
  have HX1 := Lib.hid (hb1.mono hB0)
  clear hb1 HS1 HA HB HW
  have S2 := rsame_any w1 b cb l aw cw l (by omega) HB1.out.toCells HW1.out.toCells
  rw [decide_eq_true rfl] at S2
  have HS2 := Lib.hid S2
  clear S2
  go_wp2_with fail
  refine HS2.out.mono ?_
  rintro e w2 ⟨rfl, hb2⟩
  have HA2 := Lib.hid (HA1.out.below hb2)
  have HB2 := Lib.hid (HB1.out.below hb2)
  have HW2 := Lib.hid (HW1.out.below hb2)
  have HX2 := Lib.hid (HX1.out.trans (hb2.mono (Nat.le_trans hB0 HX1.out.size)))
  clear hb2 HS2 HA1 HB1 HW1 HX1
  go_wp2_with fail
  go_loopw [7] (fun i wr => ∃ (k : Nat) (la : List Value), k ≤ l.length ∧ i = .int .i64 k ∧ Own wr B0 1 a l.length ca la ∧ Hid (Lead k (.int .i32 (-7)) la) ∧ Own wr B0 1 b l.length cb (l.map (Value.int .i32)) ∧ Own wr Bw 1 aw l.length cw (l.map (Value.int .i32)) ∧ Below B0 w wr) (fun i _ => l.length - (intOf i).toNat)
  case atStart => exact ⟨0, _, Nat.zero_le _, rfl, HA2.out, Lib.hid (fun j hj => by omega), HB2.out, HW2.out, HX2.out⟩
  case round =>
    obtain ⟨k, la, hk, rfl, hA, HL, hB, hW, hX⟩ := hrel
    by_cases hlt : k < l.length
    · obtain ⟨ga, hga, q1, q2, q3, q4⟩ := hA.addr (by have := hA.le; omega)
      obtain ⟨u, hu⟩ := Option.isSome_iff_exists.1 (q4 k (by have := hA.le; omega)).1
      have hf := (q4 k (by have := hA.le; omega)).2
      have hll : k < la.length := by have := hA.len; omega
      subst hga
      have K1 := Lib.hid hA
      have K2 := Lib.hid hB
      have K3 := Lib.hid hW
      have K4 := Lib.hid hX
      clear hA hB hW hX q3 q4
      have h0 : (0 : Int) ≤ (k : Int) := by omega
      have h1 : (k : Int) < (l.length : Int) := by omega
      go_wp2
      go_roundw
      case rel => exact ⟨k + 1, _, by omega, by go_num, K1.out.stored k hlt _, Lib.hid (HL.out.next hll), K2.out.stored_other _ _ (apart_block PAB.out), K3.out.stored_other _ _ (apart_block PWA.out), K4.out.setCell (p := ⟨ga, k, none⟩) q1 _⟩
      case measure => simp [intOf]; omega
    · obtain rfl : k = l.length := by omega
      have K1 := Lib.hid hA
      have K2 := Lib.hid hB
      have K3 := Lib.hid hW
      have K4 := Lib.hid hX
      clear hA hB hW hX hlt hk HA2 HB2 HW2 HX2
      go_wp2_with fail
      go_loopw [8] (fun i wr => ∃ (k : Nat) (lb : List Value), k ≤ l.length ∧ i = .int .i64 k ∧ Own wr B0 1 a l.length ca la ∧ Own wr B0 1 b l.length cb lb ∧ Hid (Lead k (.int .i32 (-8)) lb) ∧ Hid (lb.drop k = (l.map (Value.int .i32)).drop k) ∧ Own wr Bw 1 aw l.length cw (l.map (Value.int .i32)) ∧ Below B0 w wr) (fun i _ => l.length - (intOf i).toNat)
      case atStart => exact ⟨0, _, Nat.zero_le _, rfl, K1.out, K2.out, Lib.hid (fun j hj => by omega), Lib.hid rfl, K3.out, K4.out⟩
      case round =>
        obtain ⟨k, lb, hk, rfl, hA, hB, HM, HD, hW, hX⟩ := hrel
        by_cases hlt : k < l.length
        · obtain ⟨gb, hgb, q1, q2, q3, q4⟩ := hB.addr (by have := hB.le; omega)
          obtain ⟨x, hx⟩ : ∃ x, l[k]? = some x := ⟨_, List.getElem?_eq_getElem hlt⟩
          have hlb : lb[k]? = some (.int .i32 x) := by
            have := congrArg (fun z => z[0]?) HD.out
            simp only [List.getElem?_drop, Nat.add_zero] at this
            rw [this, List.getElem?_map, hx]
            rfl
          have hu := q3 k _ hlb
          have hf := (q4 k (by have := hB.le; omega)).2
          obtain ⟨gw, ow, x', hgw, hx', hw'⟩ := hW.toCells.at hlt
          rw [hx] at hx'
          simp only [Option.some.injEq] at hx'
          subst hx'
          subst hgb
          have hll : k < lb.length := by have := hB.len; omega
          have K1 := Lib.hid hA
          have K2 := Lib.hid hB
          have K3 := Lib.hid hW
          have K4 := Lib.hid hX
          have KW := Lib.hid hgw
          have hxx : (x != x) = false := by simp
          have h0 : (0 : Int) ≤ (k : Int) := by omega
          have h1 : (k : Int) < (l.length : Int) := by omega
          subst hgw
          have HLB := Lib.hid hlb
          clear hA hB hW hX q3 q4 hx hlb KW
          go_wp2
          go_quiet (fail)
          have bd := below_drewN (Below.refl wr.heap.size wr) nq
          have K1' := Lib.hid (K1.out.below bd)
          have K2' := Lib.hid (K2.out.below bd)
          have K3' := Lib.hid (K3.out.below bd)
          have K4' := Lib.hid (below_drewN K4.out nq)
          have hu3 : (wr.drewN nq).cell? ⟨gb, k, none⟩ = some (.int .i32 x) := (bd.cell (p := ⟨gb, k, none⟩) q2).trans hu
          have hf3 : (wr.drewN nq).frozen? ⟨gb, k, none⟩ = false := (bd.frozen (p := ⟨gb, k, none⟩) q2).trans hf
          clear K1 K2 K3 K4 bd hu hf
          generalize wr.drewN nq = W3 at *
          go_wp2
          go_roundw
          case rel => exact ⟨k + 1, _, by omega, by go_num, K1'.out.stored_other _ _ (apart_block (apart_symm K1'.out PAB.out)), K2'.out.stored k hlt _, Lib.hid (HM.out.next hll), Lib.hid (by rw [List.drop_set_of_lt (by omega)]; have := congrArg (List.drop 1) HD.out; simpa [List.drop_drop, Nat.add_comm] using this), K3'.out.stored_other _ _ (apart_block PWB.out), K4'.out.setCell (p := ⟨gb, k, none⟩) q1 _⟩
          case measure => simp [intOf]; omega
        · obtain rfl : k = l.length := by omega
          have K1 := Lib.hid hA
          have K2 := Lib.hid hB
          have K4 := Lib.hid hX
          clear hA hB hW hX hlt hk HD K3
          have lla : la.length = l.length := by have := K1.out.len; omega
          have llb : lb.length = l.length := by have := K2.out.len; omega
          have HLA := Lib.hid lla
          have HLB := Lib.hid llb
          clear lla llb
          go_wp2_with fail
          go_loopw [9, 10, 11] (fun x y i wr => ∃ (k : Nat) (ax ay : Option Addr) (cx cy : Nat) (lx ly : List Value), k ≤ 40 ∧ i = .int .i64 k ∧ x = .slice ax (l.length + k) cx ∧ y = .slice ay (l.length + k) cy ∧ Own wr B0 1 ax (l.length + k) cx lx ∧ Own wr B0 1 ay (l.length + k) cy ly ∧ Hid (Lead l.length (.int .i32 (-7)) lx ∧ Tail l.length k (.int .i32 1) lx) ∧ Hid (Lead l.length (.int .i32 (-8)) ly ∧ Tail l.length k (.int .i32 2) ly) ∧ Hid (ay = none ∨ blockOf ay ≠ blockOf ax) ∧ Below B0 w wr) (fun _ _ i _ => 40 - (intOf i).toNat)
          case atStart => exact ⟨0, a, b, ca, cb, la, lb, Nat.zero_le _, rfl, rfl, rfl, K1.out, K2.out, Lib.hid ⟨HL.out, fun j h1 h2 => by omega⟩, Lib.hid ⟨HM.out, fun j h1 h2 => by omega⟩, PAB, K4.out⟩
          case round =>
            obtain ⟨k, ax, ay, cx, cy, lx, ly, hk, rfl, rfl, rfl, hX, hY, PX, PY, PXY, hb⟩ := hrel
            by_cases hlt : k < 40
            · have hki : (k : Int) < 40 := by omega
              have HBB := Lib.hid hb
              have HYY := Lib.hid hY
              have llx := Lib.hid hX.len
              have lly := Lib.hid hY.len
              clear hb hY
              have hBz := HBB.out.size
              go_wp2_with (at_builtin; first | (refine wpList_app rfl _ _ 26 26 rfl 21 i0 (.int .i32 0) 1 4 Tryd.underlying26 hi hz0 hz1 hz2 rfl (by simp [Value.cells, Value.oneCell']) B0 _ _ _ _ rfl (hX.alloc _) _ 1 [.int .i32 1] rfl (Src.ofCells Tryd.underlying26 _ _ _ _ rfl (Cells.new _ _ _) (by simp [Value.oneCell']) (by decide)) (by simp [maxLen]; omega) (by omega) (by simp; omega) ?_; intro a4 c4 w4 hown4 hap4; have hbb := Lib.hid ((HBB.out.alloc (by omega) _).trans (hap4.below (hX.alloc _) (by simp; omega))); have HO4 := Lib.hid hown4; have hY4 := (hap4.other (HYY.out.alloc _) PXY.out); have P4 := Lib.hid (hap4.apart (HYY.out.alloc _) PXY.out); have hz4 : B0 ≤ w4.heap.size := (by have := hbb.out.size; omega); clear hown4 hap4 hX) | (refine wpList_app rfl _ _ 26 26 rfl 21 i0 (.int .i32 0) 1 4 Tryd.underlying26 hi hz0 hz1 hz2 rfl (by simp [Value.cells, Value.oneCell']) B0 _ _ _ _ rfl (hY4.alloc _) _ 1 [.int .i32 2] rfl (Src.ofCells Tryd.underlying26 _ _ _ _ rfl (Cells.new _ _ _) (by simp [Value.oneCell']) (by decide)) (by simp [maxLen]; omega) (by omega) (by simp; omega) ?_; intro a5 c5 w5 hown5 hap5; have hbc := Lib.hid ((hbb.out.alloc hz4 _).trans (hap5.below (hY4.alloc _) (by simp; omega))); have HO5 := Lib.hid hown5; have HX5 := Lib.hid (hap5.other (HO4.out.alloc _) (apart_symm HO4.out P4.out)); have P5 := Lib.hid (apart_symm hown5 (hap5.apart (HO4.out.alloc _) (apart_symm HO4.out P4.out))); clear hown5 hap5 hY4))
              go_roundw
              case rel => exact ⟨k + 1, a4, a5, c4, c5, _, _, by omega, by first | rfl | go_num, rfl, rfl, HX5.out, HO5.out, Lib.hid ⟨lead_app PX.out.1, tail_app PX.out.2 (by have := llx.out; omega)⟩, Lib.hid ⟨lead_app PY.out.1, tail_app PY.out.2 (by have := lly.out; omega)⟩, P5, hbc.out⟩
              case measure => simp [intOf]; omega
            · obtain rfl : k = 40 := by omega
              have J1 := Lib.hid hX
              have J2 := Lib.hid hY
              have J3 := Lib.hid hb
              obtain ⟨W9, hW9⟩ : ∃ W9, W9 = wr := ⟨_, rfl⟩
              subst hW9
              clear hX hY hb hlt hk K1 K2 K4 HLA HLB PXY
              rw [show ((40 : Nat) : Int) = 40 from rfl]
              go_wp2_with fail
              go_loopw [12] (fun i wr2 => W9 = wr2 ∧ ∃ (k : Nat), k ≤ l.length + 40 ∧ i = .int .i64 k) (fun i _ => l.length + 40 - (intOf i).toNat)
              case atStart => exact ⟨rfl, 0, Nat.zero_le _, rfl⟩
              case round =>
                obtain ⟨rfl, k, hk, rfl⟩ := hrel
                have h0 : (0 : Int) ≤ (k : Int) := by omega
                by_cases hlt : k < l.length + 40
                · have hlt2 : (k : Int) < (l.length : Int) + 40 := by omega
                  obtain ⟨gx, rfl, _, _, x3, _⟩ := J1.out.addr (by have := J1.out.le; omega)
                  obtain ⟨gy, rfl, _, _, y3, _⟩ := J2.out.addr (by have := J2.out.le; omega)
                  by_cases hf : k < l.length
                  · have hx := x3 k _ (PX.out.1 k hf)
                    have hy := y3 k _ (PY.out.1 k hf)
                    have hf2 : (k : Int) < (l.length : Int) := by omega
                    clear x3 y3
                    go_wp2
                    go_roundw
                    case rel => exact ⟨trivial, k + 1, by omega, by go_num⟩
                    case measure => simp [intOf]; omega
                  · have hx := x3 k _ (PX.out.2 k (by omega) (by omega))
                    have hy := y3 k _ (PY.out.2 k (by omega) (by omega))
                    have hf2 : (l.length : Int) ≤ (k : Int) := by omega
                    clear x3 y3 hf
                    go_wp2
                    go_roundw
                    case rel => exact ⟨trivial, k + 1, by omega, by go_num⟩
                    case measure => simp [intOf]; omega
                · have hlt2 : (l.length : Int) + 40 ≤ (k : Int) := by omega
                  clear hlt
                  go_wp2
                  go_ret
                  exact ⟨rfl, J3.out⟩

end Go.Proofs.YthkehgmeaedflaaDoor
