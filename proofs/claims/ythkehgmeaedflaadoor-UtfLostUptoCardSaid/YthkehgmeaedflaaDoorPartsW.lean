/-
  What the parts of a text stand for: Parts, walked.
-/
import Derived.Test.YthkehgmeaedflaaDoorPiece
import Derived.Test.YthkehgmeaedflaaDoorAll
namespace Go.Proofs.YthkehgmeaedflaaDoor
open Go.RowKit Go.Shelf
set_option linter.unusedVariables false

attribute [local go_sem] Oper.semAt_some

set_option maxHeartbeats 1000000 in
theorem piecesF_any (s : ByteArray) (w : World) :
    Calls Tryd.prog 36 #[.string s] w fun e w' => e = .returned (.func (.func 61) #[] #[.pointer (some ⟨w.heap.size, 0, none⟩)]) ∧ w' = w.alloc (.cells #[.string s] 9) := by
  refine (callsIn_wide (n := 3)).1 ?_
  refine callsIn_of_wp Tryd.func36 rfl trivial ?_ rfl
  simp only [Tryd.ntmps36, List.size_toArray, List.length_cons, List.length_nil, Nat.reduceAdd, Nat.reduceSub, Array.replicate_succ, Array.replicate_zero, List.push_toArray, List.append_toArray, List.nil_append, List.cons_append]
  gi_wp2
  go_ret
  exact ⟨rfl, rfl⟩

/-- Between two rounds of Parts. -/
def PaI (s : ByteArray) (w : World) (pre : List Nat) (W : World) : Prop :=
  ((∃ v, Boxed W w.heap.size 26 v ∧ W.ownsRow w.heap.size 21 1 v pre.length ((pre.map (runeAt s)).map (Value.int .i32)) ∧ True) ∧ Boxed W (w.heap.size + 1) 9 (.string s)) ∧ Below w.heap.size w W
theorem paI_own (s : ByteArray) (w : World) (B : Nat) (h : w.heap.size ≤ B) : OwnFrom B (PaI s w) :=
  OwnFrom.and (Own.from (fun _ A B row hs hg hr => ⟨holdsRow_own w.heap.size w.heap.size 26 21 1 (fun pre : List Nat => pre.length) (fun pre => (pre.map (runeAt s)).map (Value.int .i32)) (fun _ _ => True) _ A B row hs.1 hg hr, boxed_own _ _ (fun _ : Unit => _) () A B row hs.2 hg hr⟩) _) (ownFrom_below (Nat.le_refl _) h)

/-- What an append to what was collected and its store keep. -/
theorem qa_keeps {E T size : Nat} {W w1 : World} {n₀ B Bu : Nat} {v v' : Value} {k : Nat} {xs : List Value} {s : ByteArray} {tmp : Obj} (hE : E ≠ 41) (hE9 : 9 ≠ E) (hT : T ≠ 41) (hn : 2 ≤ n₀) (hrow : W.ownsRow n₀ E size v k xs) (hbu : Boxed W Bu 9 (.string s)) (hgrow : (W.alloc tmp).grownBy w1 v.ownBlock) (hne : Bu ≠ B)
    (hv1 : Boxed w1 B T v) (hk : KeepsOthers W (w1.setCell ⟨B, 0, none⟩ v')) (hb : Below n₀ W (w1.setCell ⟨B, 0, none⟩ v')) : KeepsQ Bu W (w1.setCell ⟨B, 0, none⟩ v') ∧ Boxed (w1.setCell ⟨B, 0, none⟩ v') Bu 9 (.string s) := by
  have h1 : Boxed w1 Bu 9 (.string s) := (hbu.alloc tmp).kept hgrow (hbu.not_row hE9 hrow)
  have h2 := h1.other hne v'
  refine ⟨⟨⟨hk.walks, fun u hu => by rw [hbu.cell] at hu; cases hu; exact h2.cell, fun t => tabs_low t hn hb⟩, fun i cs fr hi => ?_⟩, h2⟩
  have hil := (Array.getElem?_eq_some_iff.1 hi).1
  have e1 : (W.alloc tmp).heap[i]? = some (.cells cs 41 fr) := (Below.heap_alloc _ _ _ hil).trans hi
  have e2 : w1.heap[i]? = some (.cells cs 41 fr) := (hgrow.block i (by simp; omega) (fun e => by
    rcases hrow.2 with ⟨rfl, _⟩ | ⟨g, cap, cur, rfl, _, hgb, _⟩
    · simp [Value.ownBlock] at e
    · obtain rfl : i = g := by simpa [Value.ownBlock] using e
      rw [hi] at hgb
      cases hgb
      exact hE rfl)).trans e1
  exact (Below.heap_setCell w1 ⟨B, 0, none⟩ v' i (fun e => by
    simp only at e
    subst e
    rw [show w1.heap[i]? = _ from hv1] at e2
    cases e2
    exact hT rfl)).trans e2

set_option maxRecDepth 100000 in
set_option maxHeartbeats 4000000 in
theorem parts_in (w : World) (s : ByteArray) (hs : s.size ≤ 1099511627776) (hT : Lib.Utf8Tabs 0 1 w) :
    CallsIn Fence.wide 5 Tryd.prog 35 #[.string s] w fun e W' => ∃ v, e = .returned v ∧ W'.ownsRow w.heap.size 21 1 v (partsOf s).length ((partsOf s).map (Value.int .i32)) ∧ Below w.heap.size w W' := by
  have hf36 : Fence.wide.fn 36 := trivial
  obtain ⟨i0, hi, hz0, hz1, hz2⟩ := info_parts info21
  have h2w := tabs_at hT
  have hsl := pieces_le s
  refine callsIn_of_wp_marks Tryd.func35 rfl trivial ?_ rfl
  simp only [Tryd.ntmps35, List.size_toArray, List.length_cons, List.length_nil, Nat.reduceAdd, Nat.reduceSub, Array.replicate_succ, Array.replicate_zero, List.push_toArray, List.append_toArray, List.nil_append, List.cons_append]
  gi_wp2_with (gi_at_call 36; refine (callsIn_wide.2 (piecesF_any _ _)).mono ?_; rintro e w' ⟨rfl, rfl⟩)
  have b0 := Boxed.new w 26 (.slice none 0 0)
  have b1 := Boxed.new (w.alloc (.cells #[.slice none 0 0] 26)) 9 (.string s)
  simp only [World.size_alloc] at b1
  have hB0 : Below w.heap.size w ((w.alloc (.cells #[.slice none 0 0] 26)).alloc (.cells #[.string s] 9)) := ((Below.refl _ w).alloc (Nat.le_refl _) _).alloc (by simp) _
  refine wpIn_rangeFunc_ownG rfl (by omega) (gf := 61) (lb := #[.pointer (some ⟨w.heap.size + 1, 0, none⟩)]) rfl trivial (enters_of Tryd.func61 (by kernel_rfl) rfl)
    (pieces_stops (5 - 1) (by omega) (w.heap.size + 1) s _ (by omega) (by simp) b1.cell (tabs_below hT hB0)) (fun h k => h.trans k) (keepsQ_b _ (by simp) (by simp <;> omega)) (Below.refl _ _) (fun _ => rfl)
    (PaI s w) (fun _ _ _ => False) (paI_own s w _ (by simp; omega)) (fun _ _ _ _ _ hs _ _ => hs)
    ⟨⟨⟨_, b0.alloc _, World.ownsRow_nil _ _ _ _, trivial⟩, b1⟩, hB0⟩
    (fun x => { tmps := #[.string s, undef, .slice none 0 0, .pointer (some ⟨w.heap.size, 0, none⟩), undef, .int .i32 (runeAt s x), .string s, .func (.func 61) #[] #[.pointer (some ⟨w.heap.size + 1, 0, none⟩)], .string (partS s x), .int .i32 (runeAt s x), undef, undef, undef, undef, undef], defers := [] }) ?assign ?body ?done ?stop
  case assign =>
    intro l x W K hK
    gi_wp2
    exact hK
  case body =>
    rintro l pre x W ⟨⟨⟨v, hv, hrow, _⟩, hbu⟩, hB⟩ hlt
    have hc := hv.cell
    have hpl2 : pre.length + 1 ≤ 1099511627776 := by omega
    have HM := Lib.hid (show ((pre ++ [x]).map (runeAt s)).map (Value.int .i32) = (pre.map (runeAt s)).map (Value.int .i32) ++ [.int .i32 (runeAt s x)] by simp)
    clear hlt
    generalize runeAt s x = r at *
    gi_wp2_with (gi_at_builtin; refine wpListIn_append_own _ rfl _ _ 26 rfl w.heap.size 21 i0 (.int .i32 0) 1 4 Tryd.underlying26 hi hz0 hz1 hz2 rfl (by decide) _ _ _ rfl (hrow.alloc _) ⟨W.heap.size, 0, none⟩ 1 1 [.int .i32 r] rfl rfl (cell_one_new _ _ _) (by simp [Value.oneCell']) (by simp only [maxLen]; omega) (by omega) (by have := hB.size; simp; omega) ?_; intro v' w1 hown' hgrow _; obtain ⟨g', cap', rfl⟩ := ownsRow_succ hown'; obtain ⟨hv1, hv2, hr2, hk2, hb2⟩ := hv.appended (by decide) hrow hB.size (by omega) hown' hgrow; have hks := qa_keeps (by decide) (by decide) (by decide) (by omega) hrow hbu hgrow (by omega) hv1 hk2 hb2; have hc1 := hv1.cell; have hf1 := hv1.frozen; have hc2 := hv2.cell)
    exact ⟨hk2.from _, hks.1, ⟨⟨_, hv2, by rw [HM.out]; simpa using hr2, trivial⟩, hks.2⟩, hB.trans hb2⟩
  case done =>
    rintro D ys W hD rfl ⟨⟨⟨v, hv, hrow, _⟩, hbu⟩, hB⟩ hK
    have hc := hv.cell
    clear hB0 b0 b1
    gi_wp2
    refine ⟨by simp, .inl ⟨_, _, rfl, run_takeDeferred hK, ?_⟩⟩
    refine ⟨_, results_tmp rfl _ _ _, v, rfl, ?_, hB.trans (belowK_b (w := w) (Nat.le_refl _) _ D _ _ (by simp at hD; omega) hK rfl rfl)⟩
    have := ownsRow_putObj hrow (.deferred none) hK rfl
    unfold partsOf
    rwa [List.length_map]
  case stop =>
    rintro D c pre W _ _ h _
    exact h.elim

theorem parts_any (w : World) (s : ByteArray) (hs : s.size ≤ 1099511627776) (hT : Lib.Utf8Tabs 0 1 w) :
    Calls Tryd.prog 35 #[.string s] w fun e w' => ∃ a c, e = .returned (.slice a (partsOf s).length c) ∧ Own w' w.heap.size 1 a (partsOf s).length c ((partsOf s).map (Value.int .i32)) ∧ Below w.heap.size w w' := by
  refine (callsIn_wide.1 (parts_in w s hs hT)).mono ?_
  rintro e w' ⟨v, rfl, hrow, hb⟩
  obtain ⟨a', c', rfl, hown⟩ := own_of_row hrow
  exact ⟨a', c', rfl, hown, hb⟩

end Go.Proofs.YthkehgmeaedflaaDoor
