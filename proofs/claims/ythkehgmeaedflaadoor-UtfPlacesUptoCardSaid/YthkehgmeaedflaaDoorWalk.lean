/-
  The walk over places: its contract, of some places and of none.
-/
import Derived.Test.YthkehgmeaedflaaDoorMeth
namespace Go.Proofs.YthkehgmeaedflaaDoor
open Go.RowKit Go.Shelf

attribute [local go_sem] Oper.semAt_some

/-- Characters and their places, from a place on. -/
def walkF : List Int → Nat → List (Nat × Int)
  | [], _ => []
  | x :: l, k => (k, x) :: walkF l (k + 1)
/-- .. of a whole text's. -/
def walkL (l : List Int) (k : Nat) : List (Nat × Int) := walkF (l.drop k) k
theorem walkL_more {l : List Int} {k : Nat} {x : Int} (h : l[k]? = some x) : walkL l k = (k, x) :: walkL l (k + 1) := by
  obtain ⟨hk, rfl⟩ := List.getElem?_eq_some_iff.1 h
  unfold walkL
  rw [List.drop_eq_getElem_cons hk]
  rfl
theorem walkL_end {l : List Int} {k : Nat} (h : l.length ≤ k) : walkL l k = [] := by
  unfold walkL
  rw [List.drop_eq_nil_of_le h]
  rfl

/-- What a round of a walk over places keeps: what lay below a bound, two cells. -/
structure KeepsP (n₀ b1 b2 : Nat) (W W' : World) : Prop where
  below : Below n₀ W W'
  box1 : ∀ v, W.cell? ⟨b1, 0, none⟩ = some v → W'.cell? ⟨b1, 0, none⟩ = some v
  box2 : ∀ v, W.cell? ⟨b2, 0, none⟩ = some v → W'.cell? ⟨b2, 0, none⟩ = some v
theorem KeepsP.trans {n₀ b1 b2 : Nat} {A B C : World} (h : KeepsP n₀ b1 b2 A B) (k : KeepsP n₀ b1 b2 B C) : KeepsP n₀ b1 b2 A C := ⟨h.below.trans k.below, fun v hv => k.box1 v (h.box1 v hv), fun v hv => k.box2 v (h.box2 v hv)⟩
theorem keepsP_b {w : World} (n₀ b1 b2 : Nat) (hn : n₀ ≤ w.heap.size) (h1 : b1 < w.heap.size) (h2 : b2 < w.heap.size) (W : World) (l : Nat) (o o' : Obj) (hl : w.heap.size ≤ l) (h : W.heap[l]? = some o) (hc : o.isCells = false) (hw : o.isWalk = false) : KeepsP n₀ b1 b2 W (W.putObj l o') :=
  ⟨belowK_b hn W l o o' hl h hc hw,
   fun v hv => (World.cell?_of_block ((grownBy_putObj' W l o').block b1 (World.block_lt_of_cell? W _ hv) (fun e => by cases e; omega))).trans hv,
   fun v hv => (World.cell?_of_block ((grownBy_putObj' W l o').block b2 (World.block_lt_of_cell? W _ hv) (fun e => by cases e; omega))).trans hv⟩

set_option maxHeartbeats 1000000 in
theorem walk_any (p : Option Addr) (q : Int) (w : World) :
    Calls Tryd.prog 48 #[.pointer p, .int .i64 q] w fun e w' => e = .returned (.func (.func 69) #[] #[.pointer (some ⟨w.heap.size, 0, none⟩), .pointer (some ⟨w.heap.size + 1, 0, none⟩)]) ∧ w' = (w.alloc (.cells #[.pointer p] 66)).alloc (.cells #[.int .i64 q] 3) := by
  refine (callsIn_wide (n := 3)).1 ?_
  refine callsIn_of_wp Tryd.func48 rfl trivial ?_ rfl
  simp only [Tryd.ntmps48, List.size_toArray, List.length_cons, List.length_nil, Nat.reduceAdd, Nat.reduceSub, Array.replicate_succ, Array.replicate_zero, List.push_toArray, List.append_toArray, List.nil_append, List.cons_append]
  gi_wp2
  go_ret
  exact ⟨rfl, rfl⟩

set_option maxRecDepth 100000 in
set_option maxHeartbeats 4000000 in
/-- **The closure of Walk, of no places: it tells nothing.** -/
theorem walkN_stops (Kp : World → World → Prop) (n : Nat) (hn1 : 1 ≤ n) (b1 b2 : Nat) (w : World) (hB : b1 < w.heap.size) (hc : w.cell? ⟨b1, 0, none⟩ = some (.pointer none)) :
    SeqStopsK Fence.wide n Tryd.prog 69 #[.pointer (some ⟨b1, 0, none⟩), .pointer (some ⟨b2, 0, none⟩)] (fun x : Nat × Int => #[Value.int .i64 (x.1 : Int), Value.int .i32 x.2]) Kp (fun ys => ys = []) (fun pre => pre = []) 0 w := fun l J Jx W hW hJ hJx hY h0 => by
  have hf67 : Fence.wide.fn 67 := trivial
  have hcW : W.cell? ⟨b1, 0, none⟩ = some (.pointer none) := (hW.cell (p := ⟨b1, 0, none⟩) hB).trans hc
  clear hJ hY
  refine callsIn_of_wp Tryd.func69 rfl trivial ?_ rfl
  simp only [Tryd.ntmps69, List.size_toArray, List.length_cons, List.length_nil, Nat.reduceAdd, Nat.reduceSub, Array.replicate_succ, Array.replicate_zero, List.push_toArray, List.append_toArray, List.nil_append, List.cons_append]
  gi_wp2_with (gi_at_call 67; refine (callsIn_wide.2 (none_nil _)).mono ?_; rintro e W1 ⟨rfl, rfl⟩)
  refine bodyPost_ret (results_none rfl _ _ _) rfl ?_
  exact ⟨⟨_, rfl⟩, .inl ⟨[], rfl, h0⟩⟩

set_option maxRecDepth 100000 in
set_option maxHeartbeats 4000000 in
/-- **The closure of Walk: it tells each character and its place.** -/
theorem walk_stops (n : Nat) (hn1 : 1 ≤ n) (b1 b2 B : Nat) (s : ByteArray) (q : Int) (k0 : Nat) (hmax : max 0 q = (k0 : Int)) (w0 w : World) (hs : s.size ≤ 140737488355328) (hp : PlacesAt w0 B s) (hb0 : Below w0.heap.size w0 w) (h1 : b1 < w.heap.size) (h2 : b2 < w.heap.size) (hc1 : w.cell? ⟨b1, 0, none⟩ = some (.pointer (some ⟨B, 0, none⟩))) (hc2 : w.cell? ⟨b2, 0, none⟩ = some (.int .i64 q)) :
    SeqStopsK Fence.wide n Tryd.prog 69 #[.pointer (some ⟨b1, 0, none⟩), .pointer (some ⟨b2, 0, none⟩)] (fun x : Nat × Int => #[Value.int .i64 (x.1 : Int), Value.int .i32 x.2]) (KeepsP w0.heap.size b1 b2) (fun ys => ys = walkL (textRunes s) k0) (fun pre => pre <+: walkL (textRunes s) k0) (walkL (textRunes s) k0).length w := fun l J Jx W hW hJ hJx hY hJ0 => by
  have hf67 : Fence.wide.fn 67 := trivial
  have hcW1 : W.cell? ⟨b1, 0, none⟩ = some (.pointer (some ⟨B, 0, none⟩)) := (hW.cell (p := ⟨b1, 0, none⟩) h1).trans hc1
  have hcW2 : W.cell? ⟨b2, 0, none⟩ = some (.int .i64 q) := (hW.cell (p := ⟨b2, 0, none⟩) h2).trans hc2
  have hbW : Below w0.heap.size w0 W := hb0.trans (hW.mono hb0.size)
  have hl := places_runes s
  have hpl := places_le s
  have HP := Lib.hid hp
  have HJ := Lib.hid hJ
  have HY := Lib.hid hY
  have HJ0 := Lib.hid hJ0
  have HBW := Lib.hid hbW
  have HN := Lib.hid (none_any W B s (hp.below hbW))
  clear hJ hY hJ0 hbW
  obtain ⟨N, hN⟩ : ∃ N, N = (textRunes s).length := ⟨_, rfl⟩
  have HNE := Lib.hid hN
  have hNs : N ≤ s.size := by rw [hN, hl]; exact hpl
  clear hN hl hpl
  refine callsIn_of_wp Tryd.func69 rfl trivial ?_ rfl
  simp only [Tryd.ntmps69, List.size_toArray, List.length_cons, List.length_nil, Nat.reduceAdd, Nat.reduceSub, Array.replicate_succ, Array.replicate_zero, List.push_toArray, List.append_toArray, List.nil_append, List.cons_append]
  gi_wp2_with (gi_at_call 67; refine (callsIn_wide.2 HN.out).mono ?_; rintro e W1 ⟨rfl, rfl⟩)
  gi_loopw [4] (fun i wr => ∃ (k : Nat) (pre : List (Nat × Int)), i = .int .i64 k ∧ pre ++ walkL (textRunes s) k = walkL (textRunes s) k0 ∧ (k ≤ k0 ∨ k ≤ N) ∧ J pre wr ∧ Below w0.heap.size w0 wr ∧ wr.cell? ⟨b1, 0, none⟩ = some (.pointer (some ⟨B, 0, none⟩))) (fun i _ => N - (intOf i).toNat)
  case atStart => exact ⟨k0, [], rfl, rfl, .inl (Nat.le_refl _), HJ0.out, HBW.out, hcW1⟩
  case round =>
    obtain ⟨k, pre, rfl, hpre, hkk, hJs, hbr, hcr⟩ := hrel
    obtain ⟨g, nn, c, r, m, d, e0, e1, e2, hn, hc, hcs, hm, hrs⟩ := (HP.out.below hbr).cells
    rw [← places_runes s, ← HNE.out] at hm
    subst hm
    clear e0 e1 hn hc hcs
    have hk0 : (0 : Int) ≤ (k : Int) := by omega
    by_cases hlt : k < m
    · obtain ⟨b, o, x, rfl, hx, hcx⟩ := hrs.at (k := k) (by rw [← HNE.out]; exact hlt)
      have hmore := walkL_more hx
      have hpl : pre.length < (walkL (textRunes s) k0).length := by
        rw [← hpre, hmore]
        simp
      have hlt2 : (k : Int) < (m : Int) := by omega
      obtain ⟨fn, tmps, assign, body, hy, hR⟩ := HY.out pre (k, x) wr hJs hpl
      dsimp only at hy
      have H1 := Lib.hid hpre
      have H2 := Lib.hid hmore
      have H3 := Lib.hid hbr
      clear hpre hmore hpl hx hrs hbr hJs
      gi_wp2
      refine hR.mono ?_
      rintro e W4 (⟨rfl, hJ4, hk4⟩ | ⟨rfl, hJx4⟩)
      · have H10 := Lib.hid hJ4
        have H11 := Lib.hid hk4
        have H12 := Lib.hid hcr
        clear hJ4 hk4 hy hR hcr
        gi_wp2
        go_roundw
        case rel => exact ⟨k + 1, pre ++ [(k, x)], by go_num, by rw [List.append_assoc, ← H1.out, H2.out]; rfl, .inr (by omega), H10.out, H3.out.trans H11.out.below, H11.out.box1 _ H12.out⟩
        case measure => simp [intOf]; omega
      · clear hy hR hcr
        gi_wp2
        refine bodyPost_ret (results_none rfl _ _ _) rfl ?_
        exact ⟨⟨_, rfl⟩, .inr ⟨pre ++ [(k, x)], ⟨walkL (textRunes s) (k + 1), by rw [List.append_assoc, ← H1.out, H2.out]; rfl⟩, hJx4⟩⟩
    · have hlt2 : (m : Int) ≤ (k : Int) := by omega
      rw [walkL_end (by rw [← HNE.out]; omega), List.append_nil] at hpre
      have H1 := Lib.hid hpre
      clear hpre hrs
      gi_wp2
      go_end0
      exact ⟨⟨_, rfl⟩, .inl ⟨_, H1.out, hJs⟩⟩

end Go.Proofs.YthkehgmeaedflaaDoor
