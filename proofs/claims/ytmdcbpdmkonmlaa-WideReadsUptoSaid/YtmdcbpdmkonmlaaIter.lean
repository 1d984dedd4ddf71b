/-
  The iterator over units: its contract.
-/
import Derived.Test.YtmdcbpdmkonmlaaFirst
import Derived.RangeFuncNested
import Derived.RangeFuncBound
import Derived.RangeFuncCalls
import Derived.RangeFuncLeaves
import Derived.RangeFuncBox
import Derived.Shelf.Abstract
import Derived.Shelf.RegionOpen
import Derived.OwnWalkIn
import Derived.TacticsInMore
import Derived.LoopNIn
import Derived.LoopIn
import Derived.Maps.AppendAt
namespace Go.Proofs.Ytmdcbpdmkonmlaa
open Go.RowKit Go.Shelf

attribute [local go_sem] Oper.semAt_some

/-- Every row of a type stands as it stood. -/
structure KeepsT (e : TypeId) (W W' : World) : Prop where
  size : W.heap.size ≤ W'.heap.size
  row : ∀ (k : Nat) (C : Array Value) (fr : Nat × Nat), W.heap[k]? = some (.cells C e fr) → W'.heap[k]? = some (.cells C e fr)

theorem KeepsT.refl (e : TypeId) (W : World) : KeepsT e W W := ⟨Nat.le_refl _, fun _ _ _ h => h⟩
theorem KeepsT.trans {e : TypeId} {A B C : World} (h : KeepsT e A B) (k : KeepsT e B C) : KeepsT e A C := ⟨Nat.le_trans h.size k.size, fun i c f hi => k.row i c f (h.row i c f hi)⟩
theorem KeepsT.below {e : TypeId} {A B C : World} (h : KeepsT e A B) (k : Below B.heap.size B C) : KeepsT e A C :=
  h.trans ⟨k.size, fun i _ _ hi => (k.block i (Array.getElem?_eq_some_iff.1 hi).1).trans hi⟩
theorem KeepsT.alloc {e : TypeId} {A B : World} (h : KeepsT e A B) (o : Obj) : KeepsT e A (B.alloc o) := h.below ((Below.refl _ _).alloc (Nat.le_refl _) o)
theorem KeepsT.grown {e : TypeId} {A B C : World} {row : Option Nat} (h : KeepsT e A B) (k : B.grownBy C row) (hr : ∀ j, row = some j → ∀ (D : Array Value) (f : Nat × Nat), B.heap[j]? ≠ some (.cells D e f)) : KeepsT e A C :=
  h.trans ⟨k.size, fun i c f hi => (k.block i (Array.getElem?_eq_some_iff.1 hi).1 (fun e' => hr i e'.symm c f hi)).trans hi⟩
theorem KeepsT.setCell {e t : TypeId} {A B : World} {k : Nat} {v : Value} (h : KeepsT e A B) (hb : Boxed B k t v) (ht : t ≠ e) (u : Value) : KeepsT e A (B.setCell ⟨k, 0, none⟩ u) :=
  h.grown (grownBy_setCell' B k u) fun j ej D f hj => by
    cases ej
    have := (show B.heap[k]? = _ from hb).symm.trans hj
    simp at this
    exact ht this.2.1
theorem keepsT_b {e : TypeId} {w : World} (W : World) (l : Nat) (o o' : Obj) (_ : w.heap.size ≤ l) (h : W.heap[l]? = some o) (hc : o.isCells = false) (_ : o.isWalk = false) : KeepsT e W (W.putObj l o') :=
  (KeepsT.refl e W).grown (grownBy_putObj' W l o') fun j ej D f hj => by
    cases ej
    rw [h] at hj
    cases hj
    cases hc

theorem eq_nil31 (w : World) (a : Option Addr) (n c : Nat) : (binOp .eql 31 (.slice a n c) (.slice none 0 0)).run Try.prog w = .ok (.bool a.isNone) w := Lib.run_eql_slice_nil w 31 22 a n c 0 0 Try.underlying31
attribute [local go_sem] eq_nil31

set_option maxHeartbeats 1000000 in
/-- slices.Clone of units: nil of nil; else a row of its own. -/
theorem clone_any (w : World) (a : Option Addr) (c : Nat) (us : List Int) (hn : us.length ≤ 70368744177664) (hr : Cells w a (us.map (Value.int .u16))) :
    Calls Try.prog 65 #[.slice a us.length c] w fun e w' => ∃ v, e = .returned v ∧ w'.ownsRow w.heap.size 22 1 v us.length (us.map (Value.int .u16)) ∧ Below w.heap.size w w' := by
  obtain ⟨i0, hi, hz0, hz1, hz2⟩ := info_parts info22
  cases a with
  | none =>
    have h0 : us = [] := by
      by_cases h : us = []
      · exact h
      · obtain ⟨b, off, he, _⟩ := hr (by simpa using h)
        cases he
    subst h0
    go_enter Try.func65, Try.ntmps65
    go_wp2
    go_ret
    exact ⟨_, rfl, World.ownsRow_nil _ _ _ _, Below.refl _ _⟩
  | some p =>
    have hsrc : ∀ j u, (us.map (Value.int .u16))[j]? = some u → (w.alloc (.cells #[] 22)).cell? (p.add j) = some u := by
      intro j u hu
      obtain ⟨b, off, he, hc⟩ := hr (by rintro h; rw [h] at hu; simp at hu)
      cases he
      rw [Addr.add_lit]
      exact (((Below.refl _ w).alloc (Nat.le_refl _) _).cell (World.block_lt_of_cell? w _ (hc j u hu))).trans (hc j u hu)
    have HS := Lib.hid hsrc
    clear hr hsrc
    go_enter Try.func65, Try.ntmps65
    go_wp2_with (at_builtin; refine wpList_append_own _ rfl _ _ 31 rfl w.heap.size 22 i0 (.int .u16 0) 1 2 Try.underlying31 hi hz0 hz1 hz2 rfl (by decide) _ _ _ rfl (World.ownsRow_made w #[] 0 (Nat.le_refl _) (by simp [maxLen]) rfl) p us.length c (us.map (Value.int .u16)) rfl (by simp) HS.out (ints_one _ _) (by simp [maxLen]; omega) (by omega) (by simp) ?_; intro v' w1 hown' hgrow _)
    go_ret
    rw [Nat.zero_add, List.nil_append] at hown'
    exact ⟨_, rfl, hown', ((Below.refl _ w).alloc (Nat.le_refl _) _).grown hgrow (by simp) (by rintro k hk; cases hk; exact Nat.le_refl _)⟩

/-- What units stand for, and where. -/
def marksFrom : List Int → Nat → List (Nat × Int)
  | [], _ => []
  | [u], k => [(k, loneR u)]
  | u :: v :: r, k => if (joinOf u v).2 then (k, (joinOf u v).1) :: marksFrom r (k + 2) else (k, loneR u) :: marksFrom (v :: r) (k + 1)

theorem marksFrom_step (us : List Int) (k : Nat) (h : us ≠ []) : marksFrom us k = (k, (firstOf us).1) :: marksFrom (us.drop (firstOf us).2) (k + (firstOf us).2) := by
  match us, h with
  | [u], _ => rfl
  | u :: v :: r, _ =>
    cases hj : (joinOf u v).2
    · rw [firstOf_no hj]; simp [marksFrom, hj]
    · rw [firstOf_yes hj]; simp [marksFrom, hj]

theorem firstOf_le (us : List Int) : 1 ≤ (firstOf us).2 ∧ ((firstOf us).2 ≤ us.length ∨ us = []) := by
  match us with
  | [] => exact ⟨Nat.le_refl _, .inr rfl⟩
  | [u] => exact ⟨Nat.le_refl _, .inl (Nat.le_refl _)⟩
  | u :: v :: r =>
    cases hj : (joinOf u v).2
    · rw [firstOf_no hj]; simp
    · rw [firstOf_yes hj]; simp

theorem first_len (w : World) (b off c L : Nat) (us : List Int) (hL : us.length = L) (hne : us ≠ []) (hn : L ≤ 140737488355328) (hr : Cells w (some ⟨b, off, none⟩) (us.map (Value.int .u16))) (hwf : ∀ u ∈ us, 0 ≤ u ∧ u ≤ 65535) :
    Calls Try.prog 66 #[.slice (some ⟨b, off, none⟩) L c] w fun e w' => e = .returned (.tuple #[.int .i32 (firstOf us).1, .int .i64 (firstOf us).2]) ∧ Below w.heap.size w w' := by
  subst hL
  exact first_any w b off c us hne hn hr hwf

/-- A row of a type: its cells. -/
theorem row_cells {W : World} {g : Nat} {cur : Array Value} {e : TypeId} {fr : Nat × Nat} (h : W.heap[g]? = some (.cells cur e fr)) (k : Nat) (xs : List Value) (hx : ∀ j u, xs[j]? = some u → cur[k + j]? = some u) : Cells W (some ⟨g, k, none⟩) xs := by
  intro _
  refine ⟨g, k, rfl, fun j u hu => ?_⟩
  unfold World.cell?
  rw [h]
  simpa using hx j u hu

theorem below_grown {w w' : World} (h : Below w.heap.size w w') : w.grownBy w' none := ⟨h.os, h.tape, h.output, h.size, fun k hk _ => h.block k hk⟩

theorem drop_cells {cur : Array Value} {us : List Int} (h : cur.toList.take (us.length * 1) = us.map (Value.int .u16)) (k : Nat) : ∀ j u, ((us.drop k).map (Value.int .u16))[j]? = some u → cur[k + j]? = some u := by
  intro j u hu
  have h1 : (us.map (Value.int .u16))[k + j]? = some u := by
    rw [List.map_drop, List.getElem?_drop] at hu
    exact hu
  rw [← h, List.getElem?_take] at h1
  split at h1
  · simpa using h1
  · cases h1

set_option maxRecDepth 100000 in
set_option maxHeartbeats 4000000 in
/-- **The closure of Each: it tells what the units stand for.** -/
theorem each_stops (n : Nat) (hn1 : 1 ≤ n) (Bu : Nat) (a : Option Addr) (c : Nat) (us : List Int) (w : World) (hn : us.length ≤ 70368744177664) (hB : Bu < w.heap.size) (hc : w.cell? ⟨Bu, 0, none⟩ = some (.slice a us.length c)) (hr : Cells w a (us.map (Value.int .u16))) (hwf : ∀ u ∈ us, 0 ≤ u ∧ u ≤ 65535) :
    SeqStopsK Fence.wide n Try.prog 64 #[.pointer (some ⟨Bu, 0, none⟩)] (fun x : Nat × Int => #[Value.int .i64 (x.1 : Int), Value.int .i32 x.2]) (KeepsT 22) (fun ys => ys = marksFrom us 0) (fun pre => pre <+: marksFrom us 0) (marksFrom us 0).length w := fun l J Jx W hW hJ hJx hY h0 => by
  have hf65 : Fence.wide.fn 65 := trivial
  have hf66 : Fence.wide.fn 66 := trivial
  have hcW : W.cell? ⟨Bu, 0, none⟩ = some (.slice a us.length c) := (hW.cell (p := ⟨Bu, 0, none⟩) hB).trans hc
  have HR := Lib.hid (hr.below hW)
  have HWF := Lib.hid hwf
  have HJ := Lib.hid hJ
  have HY := Lib.hid hY
  clear hr hwf hJ hY
  refine callsIn_of_wp Try.func64 rfl trivial ?_ rfl
  simp only [Try.ntmps64, List.size_toArray, List.length_cons, List.length_nil, Nat.reduceAdd, Nat.reduceSub, Array.replicate_succ, Array.replicate_zero, List.push_toArray, List.append_toArray, List.nil_append, List.cons_append]
  gi_wp2_with (gi_at_call 65; refine (callsIn_wide.2 (clone_any _ a c us hn HR.out)).mono ?_; rintro e W1 ⟨v, rfl, hown, hb1⟩)
  have hJ1 := HJ.out [] W W1 none h0 (below_grown hb1) (by rintro r h; cases h)
  rcases hown.2 with ⟨rfl, hz⟩ | ⟨g, cap, cur, rfl, hg1, hgb, hle, hcm, hcs, htk⟩
  · have hus : us = [] := by
      have := hown.1
      rw [hz] at this
      simpa using this
    subst hus
    gi_wp2
    gi_loopw [4] (fun i wr => i = .int .i64 0 ∧ J [] wr) (fun _ _ => 0)
    case atStart => exact ⟨rfl, hJ1⟩
    case round =>
      obtain ⟨rfl, hJs⟩ := hrel
      gi_wp2
      go_end0
      exact ⟨⟨_, rfl⟩, .inl ⟨_, rfl, hJs⟩⟩
  · have HD := Lib.hid (drop_cells htk)
    clear htk hown hcs
    gi_wp2
    gi_loopw [4] (fun i wr => ∃ (k : Nat) (pre : List (Nat × Int)), k ≤ us.length ∧ i = .int .i64 k ∧ pre ++ marksFrom (us.drop k) k = marksFrom us 0 ∧ J pre wr ∧ wr.heap[g]? = some (.cells cur 22 (0, 0)) ∧ W.heap.size ≤ wr.heap.size) (fun i _ => us.length - (intOf i).toNat)
    case atStart => exact ⟨0, [], Nat.zero_le _, rfl, by simp, hJ1, hgb, hb1.size⟩
    case round =>
      obtain ⟨k, pre, hk, rfl, hpre, hJs, hrow, hsz⟩ := hrel
      by_cases hlt : k < us.length
      · have hne : us.drop k ≠ [] := by simp; omega
        have hstep := marksFrom_step (us.drop k) k hne
        have hfl := firstOf_le (us.drop k)
        have HCE := Lib.hid (row_cells hrow k _ (HD.out k))
        have hwf2 : ∀ u ∈ us.drop k, 0 ≤ u ∧ u ≤ 65535 := fun u hu => HWF.out u (List.mem_of_mem_drop hu)
        have hlen2 : (us.drop k).length = us.length - k := by simp
        have hbnd : (firstOf (us.drop k)).2 ≤ us.length - k := by
          rcases hfl.2 with h | h
          · omega
          · exact (hne h).elim
        have hpos := hfl.1
        have hpl : pre.length < (marksFrom us 0).length := by
          rw [← hpre, hstep]
          simp
        have hdd : (us.drop k).drop (firstOf (us.drop k)).2 = us.drop (k + (firstOf (us.drop k)).2) := by rw [List.drop_drop]
        rw [hdd] at hstep
        have H1 := Lib.hid hne
        have H2 := Lib.hid hwf2
        have H3 := Lib.hid hlen2
        have H4 := Lib.hid hpre
        have H5 := Lib.hid hrow
        have H6 := Lib.hid hstep
        clear hne hwf2 hlen2 hpre hrow hstep hfl hdd hgb
        generalize hF : firstOf (us.drop k) = F at *
        obtain ⟨r, m⟩ := F
        simp only at hbnd hpos H6
        have H7 := Lib.hid hF
        clear hF
        have h0 : (0 : Int) ≤ (k : Int) := by omega
        have h1 : (k : Int) < (us.length : Int) := by omega
        gi_wp2_with (gi_at_call 66; refine (callsIn_wide.2 (first_len _ g k _ (us.length - k) (us.drop k) H3.out H1.out (by omega) HCE.out H2.out)).mono ?_; rw [H7.out]; rintro e W3 ⟨rfl, hb3⟩; obtain ⟨fn, tmps, assign, body, hy, hR⟩ := HY.out pre (k, r) W3 (HJ.out pre _ W3 none hJs (below_grown hb3) (by rintro r h; cases h)) hpl; dsimp only at hy)
        have H8 := Lib.hid hb3
        clear hb3
        refine hR.mono ?_
        rintro e W4 (⟨rfl, hJ4, hk4⟩ | ⟨rfl, hJx4⟩)
        · have H9 := Lib.hid hJ4
          have H10 := Lib.hid hk4
          clear hJ4 hk4 hy hR hJs
          gi_wp2
          go_roundw
          case rel => exact ⟨k + m, pre ++ [(k, r)], by omega, by go_num, by rw [List.append_assoc, ← H4.out, H6.out]; rfl, H9.out, H10.out.row _ _ _ (((H8.out.block g (Array.getElem?_eq_some_iff.1 H5.out).1)).trans H5.out), Nat.le_trans hsz (Nat.le_trans H8.out.size H10.out.size)⟩
          case measure => simp [intOf]; omega
        · clear hy hR hJs
          gi_wp2
          refine bodyPost_ret (results_none rfl _ _ _) rfl ?_
          exact ⟨⟨_, rfl⟩, .inr ⟨pre ++ [(k, r)], ⟨marksFrom (us.drop (k + m)) (k + m), by rw [List.append_assoc, ← H4.out, H6.out]; rfl⟩, hJx4⟩⟩
      · obtain rfl : us.length = k := by omega
        have hd : us.drop us.length = [] := by simp
        rw [hd] at hpre
        simp [marksFrom] at hpre
        have H4 := Lib.hid hpre
        clear hpre hd
        gi_wp2
        go_end0
        exact ⟨⟨_, rfl⟩, .inl ⟨_, H4.out, hJs⟩⟩

end Go.Proofs.Ytmdcbpdmkonmlaa
