/-
  The first wrong byte: Check, walked.
-/
import Derived.Test.YthkehgmeaedflaaDoorIter
namespace Go.Proofs.YthkehgmeaedflaaDoor
open Go.RowKit Go.Shelf

attribute [local go_sem] Oper.semAt_some

set_option maxHeartbeats 1000000 in
theorem spots_any (s : ByteArray) (w : World) :
    Calls Tryd.prog 25 #[.string s] w fun e w' => e = .returned (.func (.func 56) #[] #[.pointer (some ⟨w.heap.size, 0, none⟩)]) ∧ w' = w.alloc (.cells #[.string s] 9) := by
  refine (callsIn_wide (n := 3)).1 ?_
  refine callsIn_of_wp Tryd.func25 rfl trivial ?_ rfl
  simp only [Tryd.ntmps25, List.size_toArray, List.length_cons, List.length_nil, Nat.reduceAdd, Nat.reduceSub, Array.replicate_succ, Array.replicate_zero, List.push_toArray, List.append_toArray, List.nil_append, List.cons_append]
  gi_wp2
  go_ret
  exact ⟨rfl, rfl⟩

/-- A character's box. -/
def SpotBox (W : World) (B : Nat) (s : ByteArray) (x : Nat) : Prop := W.heap[B]? = some (.cells (spotV x (Utf8.decode s x).2 (Utf8.decode s x).1 (codeOf s x)) 41 (0, 0))
theorem SpotBox.cell {W : World} {B : Nat} {s : ByteArray} {x : Nat} (h : SpotBox W B s x) : W.cell? ⟨B, 0, none⟩ = some (.int .i64 x) ∧ W.cell? ⟨B, 1, none⟩ = some (.int .i64 (Utf8.decode s x).2) ∧ W.cell? ⟨B, 2, none⟩ = some (.int .i32 (Utf8.decode s x).1) ∧ W.cell? ⟨B, 3, none⟩ = some (.int .i64 (codeOf s x)) := by
  refine ⟨?_, ?_, ?_, ?_⟩ <;> simp [World.cell?, show W.heap[B]? = _ from h, spotV]
theorem SpotBox.kept {W W' : World} {row : Option Nat} {B : Nat} {s : ByteArray} {x : Nat} (h : SpotBox W B s x) (hg : W.grownBy W' row) (hne : some B ≠ row) : SpotBox W' B s x := (hg.block B (Array.getElem?_eq_some_iff.1 h).1 hne).trans h
theorem spotBox_own (B : Nat) (s : ByteArray) (x : Nat) : _root_.Go.Own (fun (_ : Unit) W => SpotBox W B s x) := by
  rintro _ X Y row h hg hrow
  refine h.kept hg (fun e => ?_)
  obtain ⟨o, ho, hc⟩ := hrow B e.symm
  rw [show X.heap[B]? = _ from h] at ho; cases ho; cases hc
theorem heap_set1 {W : World} {g : Nat} {t : TypeId} {C : Array Value} {fr : Nat × Nat} (j : Nat) (x : Value) (h : W.heap[g]? = some (.cells C t fr)) :
    (W.setCell ⟨g, j, none⟩ x).heap[g]? = some (.cells (C.setIfInBounds j x) t fr) := by
  obtain ⟨hlt, hk⟩ := Array.getElem?_eq_some_iff.1 h
  show (W.heap.modify g _)[g]? = _
  rw [Array.getElem?_eq_getElem (by rw [Array.size_modify]; exact hlt), Array.getElem_modify_self, hk]
  rfl
theorem heap_set4 {W : World} {g : Nat} {t : TypeId} {a b c d x y z u : Value} (h : W.heap[g]? = some (.cells #[a, b, c, d] t (0, 0))) :
    ((((W.setCell ⟨g, 0, none⟩ x).setCell ⟨g, 1, none⟩ y).setCell ⟨g, 2, none⟩ z).setCell ⟨g, 3, none⟩ u).heap[g]? = some (.cells #[x, y, z, u] t (0, 0)) :=
  heap_set1 3 u (heap_set1 2 z (heap_set1 1 y (heap_set1 0 x h)))

/-- The first wrong byte, and why. -/
def checkOf (s : ByteArray) : Nat × Nat := match (placesFrom s 0).find? (fun x => codeOf s x != 0) with
  | some x => (x, codeOf s x)
  | none => (s.size, 0)

theorem check_none {s : ByteArray} {ys : List Nat} (h : ys = placesFrom s 0) (hg : ∀ y ∈ ys, codeOf s y = 0) : checkOf s = (s.size, 0) := by
  have : (placesFrom s 0).find? (fun x => codeOf s x != 0) = none := by
    rw [List.find?_eq_none, ← h]
    intro x hx
    simp [hg x hx]
  unfold checkOf
  rw [this]
theorem check_some {s : ByteArray} {pre : List Nat} {x : Nat} (h : (pre ++ [x]) <+: placesFrom s 0) (hg : ∀ y ∈ pre, codeOf s y = 0) (hb : codeOf s x ≠ 0) : checkOf s = (x, codeOf s x) := by
  obtain ⟨t, ht⟩ := h
  have : (placesFrom s 0).find? (fun x => codeOf s x != 0) = some x := by
    rw [← ht, List.append_assoc, List.find?_append]
    have hn : pre.find? (fun x => codeOf s x != 0) = none := by
      rw [List.find?_eq_none]
      intro z hz
      simp [hg z hz]
    rw [hn]
    simp [hb]
  unfold checkOf
  rw [this]

/-- Between two rounds: nothing wrong has come. -/
def ChI (s : ByteArray) (w : World) (pre : List Nat) (W : World) : Prop :=
  (Boxed W w.heap.size 3 (.int .i64 0) ∧ Boxed W (w.heap.size + 1) 22 (.int .i64 0) ∧ ∀ x ∈ pre, codeOf s x = 0) ∧ Below w.heap.size w W
/-- A round has left: at the first wrong one. -/
def ChX (s : ByteArray) (w : World) (k : Code) (pre : List Nat) (W : World) : Prop :=
  (k = .ret ∧ ∃ pre' x, pre = pre' ++ [x] ∧ (∀ y ∈ pre', codeOf s y = 0) ∧ codeOf s x ≠ 0 ∧ Boxed W w.heap.size 3 (.int .i64 (x : Int)) ∧ Boxed W (w.heap.size + 1) 22 (.int .i64 (codeOf s x : Int))) ∧ Below w.heap.size w W
theorem chI_own (s : ByteArray) (w : World) (B : Nat) (h : w.heap.size ≤ B) : OwnFrom B (ChI s w) :=
  OwnFrom.and (Own.from (fun _ A B row hs hg hr => ⟨boxed_own _ _ (fun _ : Unit => _) () A B row hs.1 hg hr, boxed_own _ _ (fun _ : Unit => _) () A B row hs.2.1 hg hr, hs.2.2⟩) _) (ownFrom_below (Nat.le_refl _) h)
theorem chX_own (s : ByteArray) (w : World) (B : Nat) (h : w.heap.size ≤ B) (k : Code) : OwnFrom B (ChX s w k) :=
  OwnFrom.and (Own.from (fun s A B row hs hg hr => by obtain ⟨h1, p, x, h2, h3, h4, h5, h6⟩ := hs; exact ⟨h1, p, x, h2, h3, h4, boxed_own _ _ (fun _ : Unit => _) () A B row h5 hg hr, boxed_own _ _ (fun _ : Unit => _) () A B row h6 hg hr⟩) _) (ownFrom_below (Nat.le_refl _) h)

set_option maxRecDepth 100000 in
set_option maxHeartbeats 4000000 in
theorem check_in (w : World) (s : ByteArray) (hs : s.size ≤ 140737488355328) (hT : Lib.Utf8Tabs 0 1 w) :
    CallsIn Fence.wide 5 Tryd.prog 15 #[.string s] w fun e W' => e = .returned (.tuple #[.int .i64 (checkOf s).1, .int .i64 (checkOf s).2]) ∧ Below w.heap.size w W' := by
  have hf25 : Fence.wide.fn 25 := trivial
  have h2w := tabs_at hT
  have hmix : Tryd.prog.follows Departure.mixedOrders = true := by kernel_rfl
  refine callsIn_of_wp_marks Tryd.func15 rfl trivial ?_ rfl
  simp only [Tryd.ntmps15, List.size_toArray, List.length_cons, List.length_nil, Nat.reduceAdd, Nat.reduceSub, Array.replicate_succ, Array.replicate_zero, List.push_toArray, List.append_toArray, List.nil_append, List.cons_append]
  gi_wp2_with (gi_at_call 25; refine (callsIn_wide.2 (spots_any _ _)).mono ?_; rintro e w' ⟨rfl, rfl⟩)
  have b0 := Boxed.new w 3 (.int .i64 0)
  have b1 := Boxed.new (w.alloc (.cells #[.int .i64 0] 3)) 22 (.int .i64 0)
  have b2 := Boxed.new ((w.alloc (.cells #[.int .i64 0] 3)).alloc (.cells #[.int .i64 0] 22)) 9 (.string s)
  simp only [World.size_alloc] at b1 b2
  have hB0 : Below w.heap.size w (((w.alloc (.cells #[.int .i64 0] 3)).alloc (.cells #[.int .i64 0] 22)).alloc (.cells #[.string s] 9)) := (((Below.refl _ w).alloc (Nat.le_refl _) _).alloc (by simp) _).alloc (by simp; omega) _
  refine wpIn_rangeFunc_ownH rfl (by omega) (gf := 56) (lb := #[.pointer (some ⟨w.heap.size + 1 + 1, 0, none⟩)]) rfl trivial (enters_of Tryd.func56 (by kernel_rfl) rfl)
    (spots_stops (5 - 1) (by omega) (w.heap.size + 1 + 1) s _ hs (by simp) b2.cell (tabs_below hT hB0)) (fun h k => h.trans k) (keepsS_b _ (by simp) (by simp <;> omega)) (Below.refl _ _) (fun _ => rfl)
    (ChI s w) (ChX s w) (chI_own s w _ (by simp; omega)) (chX_own s w _ (by simp; omega))
    ⟨⟨(b0.alloc _).alloc _, b1.alloc _, by simp⟩, hB0⟩
    (fun x a' W => ∃ Bx, w.heap.size + 1 < Bx ∧ SpotBox W Bx s x ∧ a' = { tmps := #[.string s, undef, .pointer (some ⟨w.heap.size, 0, none⟩), .pointer (some ⟨w.heap.size + 1, 0, none⟩), .pointer (some ⟨Bx, 0, none⟩), .string s, .func (.func 56) #[] #[.pointer (some ⟨w.heap.size + 1 + 1, 0, none⟩)], spotE s x, undef, undef, undef, undef, undef, undef, undef, undef, undef], defers := [] })
    (fun x a' _ X Y row hs hg hr => by obtain ⟨Bx, h1, h2, h3⟩ := hs; exact ⟨Bx, h1, spotBox_own Bx s x () X Y row h2 hg (fun r e => (hr r e).2), h3⟩)
    ?assign ?body ?done ?stop
  case assign =>
    rintro l pre x W K ⟨⟨v0, v1, hg⟩, hB⟩ hK
    have hsz := hB.size
    have hE : spotE s x = .agg #[.int .i64 x, .int .i64 (Utf8.decode s x).2, .int .i32 (Utf8.decode s x).1, .int .i64 (codeOf s x)] := rfl
    gi_wp2
    exact hK _ _ ((KeepsOthers.alloc _ _).from _) (KeepsS.below ((Below.refl _ _).alloc (Nat.le_refl _) _)) ⟨⟨v0.alloc _, v1.alloc _, hg⟩, hB.alloc hB.size _⟩ ⟨W.heap.size, v1.lt, World.alloc_heap_new W _, rfl⟩
  case body =>
    rintro l pre x a' W hl ⟨r, hr⟩ ⟨⟨v0, v1, hg⟩, hB⟩ ⟨Bx, hBx, bX, rfl⟩ hlt
    obtain ⟨c0, c1, c2, c3⟩ := bX.cell
    by_cases hz : codeOf s x = 0
    · have hz2 : ((codeOf s x : Int) != 0) = false := by simp [hz]
      have HG := Lib.hid hg
      have HZ := Lib.hid hz
      have HB := Lib.hid hB
      clear hg hz hB hlt hr hT
      gi_wp2
      exact ⟨KeepsFrom.refl _ _, KeepsS.refl _ _, ⟨v0, v1, fun y hy => (List.mem_append.1 hy).elim (HG.out y) (fun e => by simp at e; subst e; exact HZ.out)⟩, HB.out⟩
    · have hz2 : ((codeOf s x : Int) != 0) = true := by simp [hz]
      have HG := Lib.hid hg
      have HZ := Lib.hid hz
      have HB := Lib.hid hB
      clear hg hz hB hlt hr hT
      have e0 := v0.cell
      have f0 := v0.frozen
      have e1 := v1.cell
      have f1 := v1.frozen
      gi_wp2
      gi_region_elder_o
      all_goals
        gi_wp2
        exact ⟨(((KeepsOthers.setCell _ _ _).trans (KeepsOthers.setCell _ _ _)).trans (KeepsOthers.drew _)).from _, ⟨rfl, pre, x, rfl, HG.out, HZ.out, (v0.set _).other (by omega) _, (v1.other (by omega) _).set _⟩, ((HB.out.setCell (p := ⟨w.heap.size, 0, none⟩) (Nat.le_refl _) _).setCell (p := ⟨w.heap.size + 1, 0, none⟩) (by simp) _).drew⟩
  case done =>
    rintro D ys W hD hall ⟨⟨v0, v1, hg⟩, hB⟩ hK
    have hc2 := v0.cell
    have hf2 := v0.frozen
    have hc3 := (v1.other (B' := w.heap.size) (by omega) (.int .i64 s.size)).cell
    have hf3 := (v1.other (B' := w.heap.size) (by omega) (.int .i64 s.size)).frozen
    have HC := Lib.hid (check_none hall hg)
    clear hB0 b0 b1 b2 hall hg
    have x1 := (v0.set (.int .i64 s.size)).other (B' := w.heap.size + 1) (by omega) (.int .i64 0)
    have x2 := (v1.other (B' := w.heap.size) (by omega) (.int .i64 s.size)).set (.int .i64 0)
    have hBW := (hB.setCell (p := ⟨w.heap.size, 0, none⟩) (Nat.le_refl _) (.int .i64 s.size)).setCell (p := ⟨w.heap.size + 1, 0, none⟩) (by simp) (.int .i64 0)
    have X1 := Lib.hid x1
    have X2 := Lib.hid x2
    have HBW := Lib.hid hBW
    clear x1 x2 hBW
    gi_wp2
    have hK' := ((KeepsOthers.setCell W ⟨w.heap.size, 0, none⟩ (.int .i64 s.size)).trans (KeepsOthers.setCell _ ⟨w.heap.size + 1, 0, none⟩ (.int .i64 0))).same D _ hK rfl
    refine ⟨by simp, .inl ⟨_, _, rfl, run_takeDeferred hK', ?_⟩⟩
    have hk5 := cell_kept X1.out.cell (grownBy_putObj' _ D (.deferred none)) (fun r e => by cases e; exact ⟨_, hK', rfl⟩)
    have hb5 := cell_kept X2.out.cell (grownBy_putObj' _ D (.deferred none)) (fun r e => by cases e; exact ⟨_, hK', rfl⟩)
    refine ⟨.tuple #[.int .i64 s.size, .int .i64 0], ?_, by rw [HC.out]; rfl, HBW.out.trans (belowK_b (w := w) (Nat.le_refl _) _ D _ _ (by simp at hD; omega) hK' rfl rfl)⟩
    simp [results, Tryd.f15, go_sem, hk5, hb5]
  case stop =>
    rintro D k pre W hD hpre ⟨⟨rfl, pre', x, rfl, hg, hb, v1, v2⟩, hB⟩ hK
    gi_wp2
    refine ⟨by simp, .inl ⟨_, _, rfl, run_takeDeferred hK, ?_⟩⟩
    have hk5 := cell_kept v1.cell (grownBy_putObj' _ D (.deferred none)) (fun r e => by cases e; exact ⟨_, hK, rfl⟩)
    have hb5 := cell_kept v2.cell (grownBy_putObj' _ D (.deferred none)) (fun r e => by cases e; exact ⟨_, hK, rfl⟩)
    refine ⟨.tuple #[.int .i64 (x : Int), .int .i64 (codeOf s x : Int)], ?_, by rw [check_some hpre hg hb], hB.trans (belowK_b (w := w) (Nat.le_refl _) W D _ _ (by simp at hD; omega) hK rfl rfl)⟩
    simp [results, Tryd.f15, go_sem, hk5, hb5]

theorem check_any (w : World) (s : ByteArray) (hs : s.size ≤ 140737488355328) (hT : Lib.Utf8Tabs 0 1 w) :
    Calls Tryd.prog 15 #[.string s] w fun e w' => e = .returned (.tuple #[.int .i64 (checkOf s).1, .int .i64 (checkOf s).2]) ∧ Below w.heap.size w w' :=
  callsIn_wide.1 (check_in w s hs hT)

end Go.Proofs.YthkehgmeaedflaaDoor
