/-
  What the iterators tell, collected: all, walked, from the front and from behind. Printed by a program of ours (genall.py).
-/
import Derived.Test.YthkehgmeaedflaaDoorAllB
namespace Go.Proofs.YthkehgmeaedflaaDoor
open Go.RowKit Go.Shelf

attribute [local go_sem] Oper.semAt_some

theorem info37 : (Tryd.prog.info? 37).map (fun i => (i.zero, i.size, i.bytes)) = some (some (.agg #[.int .i64 0, .int .i32 0]), 2, 16) := by kernel_rfl

/-- A character and where it begins: its two cells. -/
def pairL (x : Nat × Nat) : List Value := [.int .i64 (x.1 : Int), .int .i32 (x.2 : Int)]
theorem pairL_len (L : List (Nat × Nat)) : (L.flatMap pairL).length = L.length * 2 := by
  induction L with
  | nil => rfl
  | cons x L ih => simp only [List.flatMap_cons, List.length_append, ih, List.length_cons, pairL]; simp; omega

/-- So many at most, where a bound is told. -/
def fewOf (L : List (Nat × Nat)) (few : Int) : List (Nat × Nat) := if few < 0 then L else L.take (few.toNat + 1)

/-- Where a row is owned by the library's word it is owned by ours. -/
theorem own_of_row {w : World} {B size : Nat} {e : TypeId} {v : Value} {n : Nat} {xs : List Value} (h : w.ownsRow B e size v n xs) : ∃ a c, v = .slice a n c ∧ Own w B size a n c xs := by
  rcases h.2 with ⟨rfl, rfl⟩ | ⟨g, cap, cur, rfl, hB, hg, hle, hm, hs, ht⟩
  · have : xs = [] := by have := h.1; simpa using this
    subst this
    exact ⟨none, 0, rfl, Own.nil _ _ _⟩
  · refine ⟨_, cap, rfl, h.1, hle, hm, .inr ⟨g, rfl, hB, (Array.getElem?_eq_some_iff.1 hg).1, fun j u hu => ?_, fun j hj => ?_⟩⟩
    · rw [← ht, List.getElem?_take] at hu
      split at hu
      · unfold World.cell?
        rw [hg]
        simpa using hu
      · cases hu
    · unfold World.cell? World.frozen?
      rw [hg]
      have : j < cur.size := by omega
      simp [this]

theorem cell_two_new (w : World) (x y : Value) (t : TypeId) : ∀ j u, [x, y][j]? = some u → (w.alloc (.cells #[x, y] t)).cell? ((⟨w.heap.size, 0, none⟩ : Addr).add j) = some u := by
  intro j u hj
  match j, hj with
  | 0, hj => simp at hj; subst hj; simp [Addr.add]
  | 1, hj => simp at hj; subst hj; simp [Addr.add]

theorem tabs_low {n : Nat} {w w' : World} (h : Lib.Utf8Tabs 0 1 w) (h2 : 2 ≤ n) (hb : Below n w w') : Lib.Utf8Tabs 0 1 w' :=
  ⟨fun c hc => (hb.cell (p := ⟨0, c, none⟩) (by show 0 < n; omega)).trans (h.1 c hc), fun i hi => ⟨(hb.cell (p := ⟨1, _, none⟩) (by show 1 < n; omega)).trans (h.2 i hi).1, (hb.cell (p := ⟨1, _, none⟩) (by show 1 < n; omega)).trans (h.2 i hi).2⟩⟩

theorem eqIn_fn (w : World) (d : Nat) (f : Fn) (ts bs : Array Value) (t : TypeId) (ps rs : Array TypeId) (v : Bool) (h : Tryd.prog.underlying t = some (.func ps rs v)) : (Op.equalIn (d + 1) t (.func f ts bs) .nilFunc).run Tryd.prog w = .ok false w := by
  simp [Op.equalIn, run_underlying h]
theorem eq_fn (w : World) (f : Fn) (ts bs : Array Value) (t : TypeId) (ps rs : Array TypeId) (v : Bool) (h : Tryd.prog.underlying t = some (.func ps rs v)) : (binOp .eql t (.func f ts bs) .nilFunc).run Tryd.prog w = .ok (.bool false) w := by
  simp only [binOp]
  simp [Op.equal, Op.maxDepth, eqIn_fn w 9999 f ts bs t ps rs v h]
theorem eq_fn78 (w : World) (f : Fn) (ts bs : Array Value) : (binOp .eql 78 (.func f ts bs) .nilFunc).run Tryd.prog w = .ok (.bool false) w := eq_fn w f ts bs 78 _ _ _ Tryd.underlying78
attribute [local go_sem] eq_fn78

set_option maxHeartbeats 1000000 in
theorem allF_any (s : ByteArray) (w : World) :
    Calls Tryd.prog 54 #[.string s] w fun e w' => e = .returned (.func (.func 70) #[] #[.pointer (some ⟨w.heap.size, 0, none⟩)]) ∧ w' = w.alloc (.cells #[.string s] 9) := by
  refine (callsIn_wide (n := 3)).1 ?_
  refine callsIn_of_wp Tryd.func54 rfl trivial ?_ rfl
  simp only [Tryd.ntmps54, List.size_toArray, List.length_cons, List.length_nil, Nat.reduceAdd, Nat.reduceSub, Array.replicate_succ, Array.replicate_zero, List.push_toArray, List.append_toArray, List.nil_append, List.cons_append]
  gi_wp2
  go_ret
  exact ⟨rfl, rfl⟩
set_option maxHeartbeats 1000000 in
theorem backF_any (s : ByteArray) (w : World) :
    Calls Tryd.prog 55 #[.string s] w fun e w' => e = .returned (.func (.func 71) #[] #[.pointer (some ⟨w.heap.size, 0, none⟩)]) ∧ w' = w.alloc (.cells #[.string s] 9) := by
  refine (callsIn_wide (n := 3)).1 ?_
  refine callsIn_of_wp Tryd.func55 rfl trivial ?_ rfl
  simp only [Tryd.ntmps55, List.size_toArray, List.length_cons, List.length_nil, Nat.reduceAdd, Nat.reduceSub, Array.replicate_succ, Array.replicate_zero, List.push_toArray, List.append_toArray, List.nil_append, List.cons_append]
  gi_wp2
  go_ret
  exact ⟨rfl, rfl⟩

/-- Between two rounds of 'all'. -/
def AlI (s : ByteArray) (few : Int) (w : World) (Bu : Nat) (pre : List (Nat × Nat)) (W : World) : Prop :=
  ((∃ v, Boxed W (w.heap.size + 1 + 1) 34 v ∧ W.ownsRow w.heap.size 37 2 v pre.length (pre.flatMap pairL) ∧ True) ∧ Boxed W w.heap.size 3 (.int .i64 few) ∧ Boxed W (w.heap.size + 1) 34 (.slice none 0 0) ∧ Boxed W Bu 9 (.string s) ∧ (0 ≤ few → (pre.length : Int) ≤ few)) ∧ Below w.heap.size w W
/-- A round of 'all' has left. -/
def AlX (few : Int) (w : World) (k : Code) (pre : List (Nat × Nat)) (W : World) : Prop :=
  (k = .ret ∧ 0 ≤ few ∧ (pre.length : Int) = few + 1 ∧ ∃ v, Boxed W (w.heap.size + 1) 34 v ∧ W.ownsRow w.heap.size 37 2 v pre.length (pre.flatMap pairL) ∧ True) ∧ Below w.heap.size w W
theorem alI_own (s : ByteArray) (few : Int) (w : World) (Bu B : Nat) (h : w.heap.size ≤ B) : OwnFrom B (AlI s few w Bu) :=
  OwnFrom.and (Own.from (fun _ A B row hs hg hr => ⟨holdsRow_own w.heap.size (w.heap.size + 1 + 1) 34 37 2 (fun pre : List (Nat × Nat) => pre.length) (fun pre => pre.flatMap pairL) (fun _ _ => True) _ A B row hs.1 hg hr, boxed_own _ _ (fun _ : Unit => _) () A B row hs.2.1 hg hr, boxed_own _ _ (fun _ : Unit => _) () A B row hs.2.2.1 hg hr, boxed_own _ _ (fun _ : Unit => _) () A B row hs.2.2.2.1 hg hr, hs.2.2.2.2⟩) _) (ownFrom_below (Nat.le_refl _) h)
theorem alX_own (few : Int) (w : World) (B : Nat) (h : w.heap.size ≤ B) (k : Code) : OwnFrom B (AlX few w k) :=
  OwnFrom.and (Own.from (fun _ A B row hs hg hr => ⟨hs.1, hs.2.1, hs.2.2.1, holdsRow_own w.heap.size (w.heap.size + 1) 34 37 2 (fun pre : List (Nat × Nat) => pre.length) (fun pre => pre.flatMap pairL) (fun _ _ => True) _ A B row hs.2.2.2 hg hr⟩) _) (ownFrom_below (Nat.le_refl _) h)

theorem few_all {L : List (Nat × Nat)} {few : Int} (h : 0 ≤ few → (L.length : Int) ≤ few) : fewOf L few = L := by
  unfold fewOf
  split
  · rfl
  · exact List.take_of_length_le (by have := h (by omega); omega)
theorem few_some {L pre : List (Nat × Nat)} {few : Int} (hp : pre <+: L) (h0 : 0 ≤ few) (hl : (pre.length : Int) = few + 1) : fewOf L few = pre := by
  obtain ⟨r, rfl⟩ := hp
  unfold fewOf
  rw [if_neg (by omega), List.take_left' (by omega)]

/-- What an append to the collected pairs and its store keep. -/
theorem al_keeps {W w1 : World} {n₀ B Bu : Nat} {v v' : Value} {k : Nat} {xs : List Value} {s : ByteArray} {tmp : Obj} (hn : 2 ≤ n₀) (hrow : W.ownsRow n₀ 37 2 v k xs) (hn₀ : n₀ ≤ W.heap.size) (hbu : Boxed W Bu 9 (.string s)) (hgrow : (W.alloc tmp).grownBy w1 v.ownBlock) (hne : Bu ≠ B)
    (hk : KeepsOthers W (w1.setCell ⟨B, 0, none⟩ v')) (hb : Below n₀ W (w1.setCell ⟨B, 0, none⟩ v')) : KeepsS Bu W (w1.setCell ⟨B, 0, none⟩ v') ∧ Boxed (w1.setCell ⟨B, 0, none⟩ v') Bu 9 (.string s) := by
  have h1 : Boxed w1 Bu 9 (.string s) := (hbu.alloc tmp).kept hgrow (hbu.not_row (by decide) hrow)
  have h2 := h1.other hne v'
  exact ⟨⟨hk.walks, fun u hu => by rw [hbu.cell] at hu; cases hu; exact h2.cell, fun t => tabs_low t hn hb⟩, h2⟩
theorem al_box {W w1 : World} {n₀ B B' : Nat} {t : TypeId} {v v' u : Value} {k : Nat} {xs : List Value} {tmp : Obj} (ht : t ≠ 37) (hrow : W.ownsRow n₀ 37 2 v k xs) (hb : Boxed W B' t u) (hgrow : (W.alloc tmp).grownBy w1 v.ownBlock) (hne : B' ≠ B) : Boxed (w1.setCell ⟨B, 0, none⟩ v') B' t u :=
  ((hb.alloc tmp).kept hgrow (hb.not_row ht hrow)).other hne v'

set_option maxRecDepth 100000 in
set_option maxHeartbeats 4000000 in
theorem all_on_in (w : World) (s : ByteArray) (few : Int) (hs : s.size ≤ 1099511627776) (hT : Lib.Utf8Tabs 0 1 w) :
    CallsIn Fence.wide 5 Tryd.prog 22 #[.string s, .bool false, .int .i64 few] w fun e W' => ∃ v, e = .returned v ∧ W'.ownsRow w.heap.size 37 2 v (fewOf (spotsFrom s 0) few).length ((fewOf (spotsFrom s 0) few).flatMap pairL) ∧ Below w.heap.size w W' := by
  have hf54 : Fence.wide.fn 54 := trivial
  have hf55 : Fence.wide.fn 55 := trivial
  obtain ⟨i0, hi, hz0, hz1, hz2⟩ := info_parts info37
  have h2w := tabs_at hT
  have hsl : (spotsFrom s 0).length ≤ s.size := spotsN_le s s.size 0
  refine callsIn_of_wp_marks Tryd.func22 rfl trivial ?_ rfl
  simp only [Tryd.ntmps22, List.size_toArray, List.length_cons, List.length_nil, Nat.reduceAdd, Nat.reduceSub, Array.replicate_succ, Array.replicate_zero, List.push_toArray, List.append_toArray, List.nil_append, List.cons_append]
  gi_wp2_with (first | (gi_at_call 54; refine (callsIn_wide.2 (allF_any _ _)).mono ?_; rintro e w' ⟨rfl, rfl⟩) | (gi_at_call 55; refine (callsIn_wide.2 (backF_any _ _)).mono ?_; rintro e w' ⟨rfl, rfl⟩))
  have b0 := Boxed.new w 3 (.int .i64 few)
  have b1 := Boxed.new (w.alloc (.cells #[.int .i64 few] 3)) 34 (.slice none 0 0)
  have b2 := Boxed.new ((w.alloc (.cells #[.int .i64 few] 3)).alloc (.cells #[.slice none 0 0] 34)) 34 (.slice none 0 0)
  have b3 := Boxed.new (((w.alloc (.cells #[.int .i64 few] 3)).alloc (.cells #[.slice none 0 0] 34)).alloc (.cells #[.slice none 0 0] 34)) 9 (.string s)
  simp only [World.size_alloc] at b1 b2 b3
  have hB0 : Below w.heap.size w ((((w.alloc (.cells #[.int .i64 few] 3)).alloc (.cells #[.slice none 0 0] 34)).alloc (.cells #[.slice none 0 0] 34)).alloc (.cells #[.string s] 9)) := ((((Below.refl _ w).alloc (Nat.le_refl _) _).alloc (by simp) _).alloc (by simp; omega) _).alloc (by simp; omega) _
  refine wpIn_rangeFunc_ownG rfl (by omega) (gf := 70) (lb := #[.pointer (some ⟨w.heap.size + 1 + 1 + 1, 0, none⟩)]) rfl trivial (enters_of Tryd.func70 (by kernel_rfl) rfl)
    (all_stops (5 - 1) (by omega) (w.heap.size + 1 + 1 + 1) s _ (by omega) (by simp) b3.cell (tabs_below hT hB0)) (fun h k => h.trans k) (keepsS_b _ (by simp) (by simp <;> omega)) (Below.refl _ _) (fun _ => rfl)
    (AlI s few w (w.heap.size + 1 + 1 + 1)) (AlX few w) (alI_own s few w _ _ (by simp; omega)) (alX_own few w _ (by simp; omega))
    ⟨⟨⟨_, b2.alloc _, World.ownsRow_nil _ _ _ _, trivial⟩, ((b0.alloc _).alloc _).alloc _, (b1.alloc _).alloc _, b3, fun h => h⟩, hB0⟩
    (fun x => { tmps := #[.string s, .bool false, .int .i64 few, undef, undef, .pointer (some ⟨w.heap.size, 0, none⟩), .pointer (some ⟨w.heap.size + 1, 0, none⟩), .pointer (some ⟨w.heap.size + 1 + 1, 0, none⟩), .func (.func 70) #[] #[.pointer (some ⟨w.heap.size + 1 + 1 + 1, 0, none⟩)], .int .i64 (x.1 : Int), .int .i32 (x.2 : Int), .string s, .func (.func 70) #[] #[.pointer (some ⟨w.heap.size + 1 + 1 + 1, 0, none⟩)], .bool false, undef, undef, .func (.func 70) #[] #[.pointer (some ⟨w.heap.size + 1 + 1 + 1, 0, none⟩)], .bool false, undef, undef, .func (.func 70) #[] #[.pointer (some ⟨w.heap.size + 1 + 1 + 1, 0, none⟩)], .int .i64 (x.1 : Int), .int .i32 (x.2 : Int), undef, undef, undef, undef, undef, undef, undef, undef, undef, undef, undef, undef, undef, undef, undef, undef], defers := [] }) ?assign ?body ?done ?stop
  case assign =>
    intro l x W K hK
    gi_wp2
    exact hK
  case body =>
    rintro l pre x W ⟨⟨⟨v, hv, hrow, _⟩, hf, hr, hbu, hlen⟩, hB⟩ hlt
    have hc := hv.cell
    have hpl2 : pre.length + 1 ≤ 1099511627776 := by omega
    have HLEN := Lib.hid hlen
    clear hlen hlt
    by_cases hneg : few < 0
    · gi_wp2_with (gi_at_builtin; refine wpListIn_append_own _ rfl _ _ 34 rfl w.heap.size 37 i0 (.agg #[.int .i64 0, .int .i32 0]) 2 16 Tryd.underlying34 hi hz0 hz1 hz2 rfl (by decide) _ _ _ rfl (hrow.alloc _) ⟨W.heap.size, 0, none⟩ 1 1 [.int .i64 (x.1 : Int), .int .i32 (x.2 : Int)] rfl rfl (cell_two_new _ _ _ _) (by simp [Value.oneCell']) (by simp only [maxLen]; omega) (by omega) (by have := hB.size; simp; omega) ?_; intro v' w1 hown' hgrow _; obtain ⟨g', cap', rfl⟩ := ownsRow_succ hown'; obtain ⟨hv1, hv2, hr2, hk2, hb2⟩ := hv.appended (by decide) hrow hB.size (by omega) hown' hgrow; have hks := al_keeps (by omega) hrow hB.size hbu hgrow (by omega) hk2 hb2; have hf2 := al_box (v' := .slice (some ⟨g', 0, none⟩) (pre.length + 1) cap') (by decide) hrow hf hgrow (show w.heap.size ≠ w.heap.size + 1 + 1 by omega); have hrr2 := al_box (v' := .slice (some ⟨g', 0, none⟩) (pre.length + 1) cap') (by decide) hrow hr hgrow (show w.heap.size + 1 ≠ w.heap.size + 1 + 1 by omega); have hc1 := hv1.cell; have hf1 := hv1.frozen; have hc2 := hv2.cell; have hc3 := hf2.cell; have hc4 := hrr2.cell; have hc5 := hrr2.frozen)
      exact ⟨hk2.from _, hks.1, ⟨⟨_, hv2, by simpa [pairL] using hr2, trivial⟩, hf2, hrr2, hks.2, fun h => by omega⟩, hB.trans hb2⟩
    · have hpos : (0 : Int) ≤ few := by omega
      have hle := HLEN.out hpos
      by_cases hend : (pre.length : Int) = few
      · have hgt : decide (few < ((pre.length + 1 : Nat) : Int)) = true := by simp; omega
        have hgt2 : few < (pre.length : Int) + 1 := by omega
        have HEND := Lib.hid hend
        clear hend
        gi_wp2_with (gi_at_builtin; refine wpListIn_append_own _ rfl _ _ 34 rfl w.heap.size 37 i0 (.agg #[.int .i64 0, .int .i32 0]) 2 16 Tryd.underlying34 hi hz0 hz1 hz2 rfl (by decide) _ _ _ rfl (hrow.alloc _) ⟨W.heap.size, 0, none⟩ 1 1 [.int .i64 (x.1 : Int), .int .i32 (x.2 : Int)] rfl rfl (cell_two_new _ _ _ _) (by simp [Value.oneCell']) (by simp only [maxLen]; omega) (by omega) (by have := hB.size; simp; omega) ?_; intro v' w1 hown' hgrow _; obtain ⟨g', cap', rfl⟩ := ownsRow_succ hown'; obtain ⟨hv1, hv2, hr2, hk2, hb2⟩ := hv.appended (by decide) hrow hB.size (by omega) hown' hgrow; have hks := al_keeps (by omega) hrow hB.size hbu hgrow (by omega) hk2 hb2; have hf2 := al_box (v' := .slice (some ⟨g', 0, none⟩) (pre.length + 1) cap') (by decide) hrow hf hgrow (show w.heap.size ≠ w.heap.size + 1 + 1 by omega); have hrr2 := al_box (v' := .slice (some ⟨g', 0, none⟩) (pre.length + 1) cap') (by decide) hrow hr hgrow (show w.heap.size + 1 ≠ w.heap.size + 1 + 1 by omega); have hc1 := hv1.cell; have hf1 := hv1.frozen; have hc2 := hv2.cell; have hc3 := hf2.cell; have hc4 := hrr2.cell; have hc5 := hrr2.frozen)
        exact ⟨(hk2.trans (KeepsOthers.setCell _ _ _)).from _, ⟨rfl, hpos, by have := HEND.out; simp; omega, _, hrr2.set _, by simpa [pairL] using hr2.kept (grownBy_setCell' _ _ _) (.inr (hrr2.not_row (by decide) hr2).symm), trivial⟩, (hB.trans hb2).setCell (p := ⟨w.heap.size + 1, 0, none⟩) (by simp) _⟩
      · have hgt : decide (few < ((pre.length + 1 : Nat) : Int)) = false := by simp; omega
        have hgt2 : (pre.length : Int) + 1 ≤ few := by omega
        clear hend
        gi_wp2_with (gi_at_builtin; refine wpListIn_append_own _ rfl _ _ 34 rfl w.heap.size 37 i0 (.agg #[.int .i64 0, .int .i32 0]) 2 16 Tryd.underlying34 hi hz0 hz1 hz2 rfl (by decide) _ _ _ rfl (hrow.alloc _) ⟨W.heap.size, 0, none⟩ 1 1 [.int .i64 (x.1 : Int), .int .i32 (x.2 : Int)] rfl rfl (cell_two_new _ _ _ _) (by simp [Value.oneCell']) (by simp only [maxLen]; omega) (by omega) (by have := hB.size; simp; omega) ?_; intro v' w1 hown' hgrow _; obtain ⟨g', cap', rfl⟩ := ownsRow_succ hown'; obtain ⟨hv1, hv2, hr2, hk2, hb2⟩ := hv.appended (by decide) hrow hB.size (by omega) hown' hgrow; have hks := al_keeps (by omega) hrow hB.size hbu hgrow (by omega) hk2 hb2; have hf2 := al_box (v' := .slice (some ⟨g', 0, none⟩) (pre.length + 1) cap') (by decide) hrow hf hgrow (show w.heap.size ≠ w.heap.size + 1 + 1 by omega); have hrr2 := al_box (v' := .slice (some ⟨g', 0, none⟩) (pre.length + 1) cap') (by decide) hrow hr hgrow (show w.heap.size + 1 ≠ w.heap.size + 1 + 1 by omega); have hc1 := hv1.cell; have hf1 := hv1.frozen; have hc2 := hv2.cell; have hc3 := hf2.cell; have hc4 := hrr2.cell; have hc5 := hrr2.frozen)
        exact ⟨hk2.from _, hks.1, ⟨⟨_, hv2, by simpa [pairL] using hr2, trivial⟩, hf2, hrr2, hks.2, fun h => by simp; omega⟩, hB.trans hb2⟩
  case done =>
    rintro D ys W hD hall ⟨⟨⟨v, hv, hrow, _⟩, hf, hr, hbu, hlen⟩, hB⟩ hK
    have hc := hv.cell
    have hc2 := hr.cell
    have hfz := hr.frozen
    have hL := few_all hlen
    rw [hall] at hL
    have HL := Lib.hid hL
    have HA := Lib.hid hall
    clear hB0 b0 b1 b2 b3 hall hL hlen
    have x1 := hr.set v
    have x2 := hrow.kept (grownBy_setCell' W (w.heap.size + 1) v) (.inr (hr.not_row (by decide) hrow).symm)
    have hBW := hB.setCell (p := ⟨w.heap.size + 1, 0, none⟩) (by simp) v
    have X1 := Lib.hid x1
    have X2 := Lib.hid x2
    have HBW := Lib.hid hBW
    have hsl1 : Value.oneCell' v = true := by
      obtain ⟨a0, c0, rfl, _⟩ := own_of_row hrow
      rfl
    obtain ⟨a0, c0, rfl, _⟩ := own_of_row hrow
    clear x1 x2 hBW hsl1
    gi_wp2
    have hK' := (KeepsOthers.setCell W ⟨w.heap.size + 1, 0, none⟩ (.slice a0 ys.length c0)).same D _ hK rfl
    refine ⟨by simp, .inl ⟨_, _, rfl, run_takeDeferred hK', ?_⟩⟩
    have hk5 := cell_kept X1.out.cell (grownBy_putObj' _ D (.deferred none)) (fun r e => by cases e; exact ⟨_, hK', rfl⟩)
    refine ⟨.slice a0 ys.length c0, ?_, _, rfl, ?_, HBW.out.trans (belowK_b (w := w) (Nat.le_refl _) _ D _ _ (by simp at hD; omega) hK' rfl rfl)⟩
    · simp [results, Tryd.f22, go_sem, hk5]
    · rw [HL.out, ← HA.out]
      exact ownsRow_putObj X2.out _ hK' rfl
  case stop =>
    rintro D k pre W hD hpre ⟨⟨rfl, hpos, hlen, v, hv, hrow, _⟩, hB⟩ hK
    gi_wp2
    refine ⟨by simp, .inl ⟨_, _, rfl, run_takeDeferred hK, ?_⟩⟩
    have hk5 := cell_kept hv.cell (grownBy_putObj' _ D (.deferred none)) (fun r e => by cases e; exact ⟨_, hK, rfl⟩)
    refine ⟨v, ?_, _, rfl, ?_, hB.trans (belowK_b (w := w) (Nat.le_refl _) W D _ _ (by simp at hD; omega) hK rfl rfl)⟩
    · simp [results, Tryd.f22, go_sem, hk5]
    · rw [few_some hpre hpos hlen]
      exact ownsRow_putObj hrow _ hK rfl

theorem all_on (w : World) (s : ByteArray) (few : Int) (hs : s.size ≤ 1099511627776) (hT : Lib.Utf8Tabs 0 1 w) :
    Calls Tryd.prog 22 #[.string s, .bool false, .int .i64 few] w fun e w' => ∃ a c, e = .returned (.slice a (fewOf (spotsFrom s 0) few).length c) ∧ Own w' w.heap.size 2 a (fewOf (spotsFrom s 0) few).length c ((fewOf (spotsFrom s 0) few).flatMap pairL) ∧ Below w.heap.size w w' := by
  refine (callsIn_wide.1 (all_on_in w s few hs hT)).mono ?_
  rintro e w' ⟨v, rfl, hrow, hb⟩
  obtain ⟨a', c', rfl, hown⟩ := own_of_row hrow
  exact ⟨a', c', rfl, hown, hb⟩

set_option maxRecDepth 100000 in
set_option maxHeartbeats 4000000 in
theorem all_back_in (w : World) (s : ByteArray) (few : Int) (hs : s.size ≤ 1099511627776) (hT : Lib.Utf8Tabs 0 1 w) :
    CallsIn Fence.wide 5 Tryd.prog 22 #[.string s, .bool true, .int .i64 few] w fun e W' => ∃ v, e = .returned v ∧ W'.ownsRow w.heap.size 37 2 v (fewOf (spotsFrom s 0).reverse few).length ((fewOf (spotsFrom s 0).reverse few).flatMap pairL) ∧ Below w.heap.size w W' := by
  have hf54 : Fence.wide.fn 54 := trivial
  have hf55 : Fence.wide.fn 55 := trivial
  obtain ⟨i0, hi, hz0, hz1, hz2⟩ := info_parts info37
  have h2w := tabs_at hT
  have hsl : (spotsFrom s 0).length ≤ s.size := spotsN_le s s.size 0
  refine callsIn_of_wp_marks Tryd.func22 rfl trivial ?_ rfl
  simp only [Tryd.ntmps22, List.size_toArray, List.length_cons, List.length_nil, Nat.reduceAdd, Nat.reduceSub, Array.replicate_succ, Array.replicate_zero, List.push_toArray, List.append_toArray, List.nil_append, List.cons_append]
  gi_wp2_with (first | (gi_at_call 54; refine (callsIn_wide.2 (allF_any _ _)).mono ?_; rintro e w' ⟨rfl, rfl⟩) | (gi_at_call 55; refine (callsIn_wide.2 (backF_any _ _)).mono ?_; rintro e w' ⟨rfl, rfl⟩))
  have b0 := Boxed.new w 3 (.int .i64 few)
  have b1 := Boxed.new (w.alloc (.cells #[.int .i64 few] 3)) 34 (.slice none 0 0)
  have b2 := Boxed.new ((w.alloc (.cells #[.int .i64 few] 3)).alloc (.cells #[.slice none 0 0] 34)) 34 (.slice none 0 0)
  have b3 := Boxed.new ((((w.alloc (.cells #[.int .i64 few] 3)).alloc (.cells #[.slice none 0 0] 34)).alloc (.cells #[.slice none 0 0] 34)).alloc (.cells #[.string s] 9)) 9 (.string s)
  simp only [World.size_alloc] at b1 b2 b3
  have hB0 : Below w.heap.size w (((((w.alloc (.cells #[.int .i64 few] 3)).alloc (.cells #[.slice none 0 0] 34)).alloc (.cells #[.slice none 0 0] 34)).alloc (.cells #[.string s] 9)).alloc (.cells #[.string s] 9)) := (((((Below.refl _ w).alloc (Nat.le_refl _) _).alloc (by simp) _).alloc (by simp; omega) _).alloc (by simp; omega) _).alloc (by simp; omega) _
  refine wpIn_rangeFunc_ownG rfl (by omega) (gf := 71) (lb := #[.pointer (some ⟨w.heap.size + 1 + 1 + 1 + 1, 0, none⟩)]) rfl trivial (enters_of Tryd.func71 (by kernel_rfl) rfl)
    (back_stops (5 - 1) (by omega) (w.heap.size + 1 + 1 + 1 + 1) s _ (by omega) (by simp) b3.cell (tabs_below hT hB0)) (fun h k => h.trans k) (keepsS_b _ (by simp) (by simp <;> omega)) (Below.refl _ _) (fun _ => rfl)
    (AlI s few w (w.heap.size + 1 + 1 + 1 + 1)) (AlX few w) (alI_own s few w _ _ (by simp; omega)) (alX_own few w _ (by simp; omega))
    ⟨⟨⟨_, (b2.alloc _).alloc _, World.ownsRow_nil _ _ _ _, trivial⟩, (((b0.alloc _).alloc _).alloc _).alloc _, ((b1.alloc _).alloc _).alloc _, b3, fun h => h⟩, hB0⟩
    (fun x => { tmps := #[.string s, .bool true, .int .i64 few, undef, undef, .pointer (some ⟨w.heap.size, 0, none⟩), .pointer (some ⟨w.heap.size + 1, 0, none⟩), .pointer (some ⟨w.heap.size + 1 + 1, 0, none⟩), .func (.func 71) #[] #[.pointer (some ⟨w.heap.size + 1 + 1 + 1 + 1, 0, none⟩)], .int .i64 (x.1 : Int), .int .i32 (x.2 : Int), .string s, .func (.func 70) #[] #[.pointer (some ⟨w.heap.size + 1 + 1 + 1, 0, none⟩)], .bool true, .string s, .func (.func 71) #[] #[.pointer (some ⟨w.heap.size + 1 + 1 + 1 + 1, 0, none⟩)], .func (.func 71) #[] #[.pointer (some ⟨w.heap.size + 1 + 1 + 1 + 1, 0, none⟩)], .bool false, undef, undef, .func (.func 71) #[] #[.pointer (some ⟨w.heap.size + 1 + 1 + 1 + 1, 0, none⟩)], .int .i64 (x.1 : Int), .int .i32 (x.2 : Int), undef, undef, undef, undef, undef, undef, undef, undef, undef, undef, undef, undef, undef, undef, undef, undef], defers := [] }) ?assign ?body ?done ?stop
  case assign =>
    intro l x W K hK
    gi_wp2
    exact hK
  case body =>
    rintro l pre x W ⟨⟨⟨v, hv, hrow, _⟩, hf, hr, hbu, hlen⟩, hB⟩ hlt
    have hc := hv.cell
    have hpl2 : pre.length + 1 ≤ 1099511627776 := by omega
    have HLEN := Lib.hid hlen
    clear hlen hlt
    by_cases hneg : few < 0
    · gi_wp2_with (gi_at_builtin; refine wpListIn_append_own _ rfl _ _ 34 rfl w.heap.size 37 i0 (.agg #[.int .i64 0, .int .i32 0]) 2 16 Tryd.underlying34 hi hz0 hz1 hz2 rfl (by decide) _ _ _ rfl (hrow.alloc _) ⟨W.heap.size, 0, none⟩ 1 1 [.int .i64 (x.1 : Int), .int .i32 (x.2 : Int)] rfl rfl (cell_two_new _ _ _ _) (by simp [Value.oneCell']) (by simp only [maxLen]; omega) (by omega) (by have := hB.size; simp; omega) ?_; intro v' w1 hown' hgrow _; obtain ⟨g', cap', rfl⟩ := ownsRow_succ hown'; obtain ⟨hv1, hv2, hr2, hk2, hb2⟩ := hv.appended (by decide) hrow hB.size (by omega) hown' hgrow; have hks := al_keeps (by omega) hrow hB.size hbu hgrow (by omega) hk2 hb2; have hf2 := al_box (v' := .slice (some ⟨g', 0, none⟩) (pre.length + 1) cap') (by decide) hrow hf hgrow (show w.heap.size ≠ w.heap.size + 1 + 1 by omega); have hrr2 := al_box (v' := .slice (some ⟨g', 0, none⟩) (pre.length + 1) cap') (by decide) hrow hr hgrow (show w.heap.size + 1 ≠ w.heap.size + 1 + 1 by omega); have hc1 := hv1.cell; have hf1 := hv1.frozen; have hc2 := hv2.cell; have hc3 := hf2.cell; have hc4 := hrr2.cell; have hc5 := hrr2.frozen)
      exact ⟨hk2.from _, hks.1, ⟨⟨_, hv2, by simpa [pairL] using hr2, trivial⟩, hf2, hrr2, hks.2, fun h => by omega⟩, hB.trans hb2⟩
    · have hpos : (0 : Int) ≤ few := by omega
      have hle := HLEN.out hpos
      by_cases hend : (pre.length : Int) = few
      · have hgt : decide (few < ((pre.length + 1 : Nat) : Int)) = true := by simp; omega
        have hgt2 : few < (pre.length : Int) + 1 := by omega
        have HEND := Lib.hid hend
        clear hend
        gi_wp2_with (gi_at_builtin; refine wpListIn_append_own _ rfl _ _ 34 rfl w.heap.size 37 i0 (.agg #[.int .i64 0, .int .i32 0]) 2 16 Tryd.underlying34 hi hz0 hz1 hz2 rfl (by decide) _ _ _ rfl (hrow.alloc _) ⟨W.heap.size, 0, none⟩ 1 1 [.int .i64 (x.1 : Int), .int .i32 (x.2 : Int)] rfl rfl (cell_two_new _ _ _ _) (by simp [Value.oneCell']) (by simp only [maxLen]; omega) (by omega) (by have := hB.size; simp; omega) ?_; intro v' w1 hown' hgrow _; obtain ⟨g', cap', rfl⟩ := ownsRow_succ hown'; obtain ⟨hv1, hv2, hr2, hk2, hb2⟩ := hv.appended (by decide) hrow hB.size (by omega) hown' hgrow; have hks := al_keeps (by omega) hrow hB.size hbu hgrow (by omega) hk2 hb2; have hf2 := al_box (v' := .slice (some ⟨g', 0, none⟩) (pre.length + 1) cap') (by decide) hrow hf hgrow (show w.heap.size ≠ w.heap.size + 1 + 1 by omega); have hrr2 := al_box (v' := .slice (some ⟨g', 0, none⟩) (pre.length + 1) cap') (by decide) hrow hr hgrow (show w.heap.size + 1 ≠ w.heap.size + 1 + 1 by omega); have hc1 := hv1.cell; have hf1 := hv1.frozen; have hc2 := hv2.cell; have hc3 := hf2.cell; have hc4 := hrr2.cell; have hc5 := hrr2.frozen)
        exact ⟨(hk2.trans (KeepsOthers.setCell _ _ _)).from _, ⟨rfl, hpos, by have := HEND.out; simp; omega, _, hrr2.set _, by simpa [pairL] using hr2.kept (grownBy_setCell' _ _ _) (.inr (hrr2.not_row (by decide) hr2).symm), trivial⟩, (hB.trans hb2).setCell (p := ⟨w.heap.size + 1, 0, none⟩) (by simp) _⟩
      · have hgt : decide (few < ((pre.length + 1 : Nat) : Int)) = false := by simp; omega
        have hgt2 : (pre.length : Int) + 1 ≤ few := by omega
        clear hend
        gi_wp2_with (gi_at_builtin; refine wpListIn_append_own _ rfl _ _ 34 rfl w.heap.size 37 i0 (.agg #[.int .i64 0, .int .i32 0]) 2 16 Tryd.underlying34 hi hz0 hz1 hz2 rfl (by decide) _ _ _ rfl (hrow.alloc _) ⟨W.heap.size, 0, none⟩ 1 1 [.int .i64 (x.1 : Int), .int .i32 (x.2 : Int)] rfl rfl (cell_two_new _ _ _ _) (by simp [Value.oneCell']) (by simp only [maxLen]; omega) (by omega) (by have := hB.size; simp; omega) ?_; intro v' w1 hown' hgrow _; obtain ⟨g', cap', rfl⟩ := ownsRow_succ hown'; obtain ⟨hv1, hv2, hr2, hk2, hb2⟩ := hv.appended (by decide) hrow hB.size (by omega) hown' hgrow; have hks := al_keeps (by omega) hrow hB.size hbu hgrow (by omega) hk2 hb2; have hf2 := al_box (v' := .slice (some ⟨g', 0, none⟩) (pre.length + 1) cap') (by decide) hrow hf hgrow (show w.heap.size ≠ w.heap.size + 1 + 1 by omega); have hrr2 := al_box (v' := .slice (some ⟨g', 0, none⟩) (pre.length + 1) cap') (by decide) hrow hr hgrow (show w.heap.size + 1 ≠ w.heap.size + 1 + 1 by omega); have hc1 := hv1.cell; have hf1 := hv1.frozen; have hc2 := hv2.cell; have hc3 := hf2.cell; have hc4 := hrr2.cell; have hc5 := hrr2.frozen)
        exact ⟨hk2.from _, hks.1, ⟨⟨_, hv2, by simpa [pairL] using hr2, trivial⟩, hf2, hrr2, hks.2, fun h => by simp; omega⟩, hB.trans hb2⟩
  case done =>
    rintro D ys W hD hall ⟨⟨⟨v, hv, hrow, _⟩, hf, hr, hbu, hlen⟩, hB⟩ hK
    have hc := hv.cell
    have hc2 := hr.cell
    have hfz := hr.frozen
    have hL := few_all hlen
    rw [hall] at hL
    have HL := Lib.hid hL
    have HA := Lib.hid hall
    clear hB0 b0 b1 b2 b3 hall hL hlen
    have x1 := hr.set v
    have x2 := hrow.kept (grownBy_setCell' W (w.heap.size + 1) v) (.inr (hr.not_row (by decide) hrow).symm)
    have hBW := hB.setCell (p := ⟨w.heap.size + 1, 0, none⟩) (by simp) v
    have X1 := Lib.hid x1
    have X2 := Lib.hid x2
    have HBW := Lib.hid hBW
    have hsl1 : Value.oneCell' v = true := by
      obtain ⟨a0, c0, rfl, _⟩ := own_of_row hrow
      rfl
    obtain ⟨a0, c0, rfl, _⟩ := own_of_row hrow
    clear x1 x2 hBW hsl1
    gi_wp2
    have hK' := (KeepsOthers.setCell W ⟨w.heap.size + 1, 0, none⟩ (.slice a0 ys.length c0)).same D _ hK rfl
    refine ⟨by simp, .inl ⟨_, _, rfl, run_takeDeferred hK', ?_⟩⟩
    have hk5 := cell_kept X1.out.cell (grownBy_putObj' _ D (.deferred none)) (fun r e => by cases e; exact ⟨_, hK', rfl⟩)
    refine ⟨.slice a0 ys.length c0, ?_, _, rfl, ?_, HBW.out.trans (belowK_b (w := w) (Nat.le_refl _) _ D _ _ (by simp at hD; omega) hK' rfl rfl)⟩
    · simp [results, Tryd.f22, go_sem, hk5]
    · rw [HL.out, ← HA.out]
      exact ownsRow_putObj X2.out _ hK' rfl
  case stop =>
    rintro D k pre W hD hpre ⟨⟨rfl, hpos, hlen, v, hv, hrow, _⟩, hB⟩ hK
    gi_wp2
    refine ⟨by simp, .inl ⟨_, _, rfl, run_takeDeferred hK, ?_⟩⟩
    have hk5 := cell_kept hv.cell (grownBy_putObj' _ D (.deferred none)) (fun r e => by cases e; exact ⟨_, hK, rfl⟩)
    refine ⟨v, ?_, _, rfl, ?_, hB.trans (belowK_b (w := w) (Nat.le_refl _) W D _ _ (by simp at hD; omega) hK rfl rfl)⟩
    · simp [results, Tryd.f22, go_sem, hk5]
    · rw [few_some hpre hpos hlen]
      exact ownsRow_putObj hrow _ hK rfl

theorem all_back (w : World) (s : ByteArray) (few : Int) (hs : s.size ≤ 1099511627776) (hT : Lib.Utf8Tabs 0 1 w) :
    Calls Tryd.prog 22 #[.string s, .bool true, .int .i64 few] w fun e w' => ∃ a c, e = .returned (.slice a (fewOf (spotsFrom s 0).reverse few).length c) ∧ Own w' w.heap.size 2 a (fewOf (spotsFrom s 0).reverse few).length c ((fewOf (spotsFrom s 0).reverse few).flatMap pairL) ∧ Below w.heap.size w w' := by
  refine (callsIn_wide.1 (all_back_in w s few hs hT)).mono ?_
  rintro e w' ⟨v, rfl, hrow, hb⟩
  obtain ⟨a', c', rfl, hown⟩ := own_of_row hrow
  exact ⟨a', c', rfl, hown, hb⟩

end Go.Proofs.YthkehgmeaedflaaDoor
