/-
  What units stand for, collected; their text: walked.
-/
import Derived.Test.YtmdcbpdmkonmlaaIter
namespace Go.Proofs.Ytmdcbpdmkonmlaa
open Go.RowKit Go.Shelf

attribute [local go_sem] Oper.semAt_some

theorem info21 : (Try.prog.info? 21).map (fun i => (i.zero, i.size, i.bytes)) = some (some (.int .i32 0), 1, 4) := by kernel_rfl

set_option maxHeartbeats 1000000 in
theorem each_any (a : Option Addr) (n c : Nat) (w : World) :
    Calls Try.prog 48 #[.slice a n c] w fun e w' => e = .returned (.func (.func 64) #[] #[.pointer (some ⟨w.heap.size, 0, none⟩)]) ∧ w' = w.alloc (.cells #[.slice a n c] 31) := by
  refine (callsIn_wide (n := 3)).1 ?_
  refine callsIn_of_wp Try.func48 rfl trivial ?_ rfl
  simp only [Try.ntmps48, List.size_toArray, List.length_cons, List.length_nil, Nat.reduceAdd, Nat.reduceSub, Array.replicate_succ, Array.replicate_zero, List.push_toArray, List.append_toArray, List.nil_append, List.cons_append]
  gi_wp2
  go_ret
  exact ⟨rfl, rfl⟩

/-- The characters that units stand for. -/
def runesOf (us : List Int) : List Int := (marksFrom us 0).map Prod.snd

theorem marksFrom_le (us : List Int) (k : Nat) : (marksFrom us k).length ≤ us.length := by
  match us with
  | [] => simp [marksFrom]
  | [u] => simp [marksFrom]
  | u :: v :: r =>
    have h1 := marksFrom_le r (k + 2)
    have h2 := marksFrom_le (v :: r) (k + 1)
    simp only [marksFrom]
    split
    · simp; omega
    · simp at h2 ⊢; omega

theorem marksFrom_units (us : List Int) (k : Nat) (h : ∀ u ∈ us, 0 ≤ u ∧ u ≤ 65535) : ∀ x ∈ marksFrom us k, 0 ≤ x.2 ∧ x.2 ≤ 1114111 := by
  match us with
  | [] => simp [marksFrom]
  | [u] =>
    have := h u (by simp)
    intro x hx
    simp [marksFrom] at hx
    subst hx
    simp only [loneR]
    split <;> omega
  | u :: v :: r =>
    have h1 := marksFrom_units r (k + 2) (fun x hx => h x (by simp [hx]))
    have h2 := marksFrom_units (v :: r) (k + 1) (fun x hx => h x (by simp at hx; simp [hx]))
    have hu := h u (by simp)
    have hv := h v (by simp)
    intro x hx
    simp only [marksFrom] at hx
    split at hx
    · rename_i hj
      rcases List.mem_cons.1 hx with rfl | hx
      · unfold joinOf at hj ⊢
        split
        · rename_i hb
          simp [highB, lowB] at hb
          simp only [joinR]
          omega
        · simp
      · exact h1 x hx
    · rcases List.mem_cons.1 hx with rfl | hx
      · simp only [loneR]
        split <;> omega
      · exact h2 x hx

theorem runesOf_units {us : List Int} (h : ∀ u ∈ us, 0 ≤ u ∧ u ≤ 65535) : ∀ x ∈ runesOf us, 0 ≤ x ∧ x ≤ 1114111 := by
  intro x hx
  obtain ⟨y, hy, rfl⟩ := List.mem_map.1 hx
  exact marksFrom_units us 0 h y hy

theorem runesOf_le (us : List Int) : (runesOf us).length ≤ us.length := by
  rw [runesOf, List.length_map]
  exact marksFrom_le us 0

/-- A store into a row of another type, behind an append to it. -/
theorem KeepsT.appended {W w1 : World} {n₀ B : Nat} {t e e' : TypeId} {size : Nat} {v v' : Value} {k : Nat} {xs : List Value} {tmp : Obj} (hrow : W.ownsRow n₀ e size v k xs) (hgrow : (W.alloc tmp).grownBy w1 v.ownBlock) (hv1 : Boxed w1 B t v) (he : e ≠ e') (ht : t ≠ e') :
    KeepsT e' W (w1.setCell ⟨B, 0, none⟩ v') := by
  refine ((((KeepsT.refl e' W).alloc tmp).grown hgrow ?_).setCell hv1 ht v')
  intro j ej D f hj
  rcases hrow.2 with ⟨rfl, _⟩ | ⟨g, cap, cur, rfl, _, hgb, _⟩
  · simp [Value.ownBlock] at ej
  · have e1 : g = j := by simpa [Value.ownBlock] using ej
    subst e1
    have hg := (Below.heap_alloc W tmp g (Array.getElem?_eq_some_iff.1 hgb).1).trans hgb
    rw [hg] at hj
    simp at hj
    exact he hj.2.1

set_option maxRecDepth 100000 in
set_option maxHeartbeats 2000000 in
theorem runes_in (w : World) (a : Option Addr) (c : Nat) (us : List Int) (hn : us.length ≤ 17592186044416) (hr : Cells w a (us.map (Value.int .u16))) (hwf : ∀ u ∈ us, 0 ≤ u ∧ u ≤ 65535) :
    CallsIn Fence.wide 5 Try.prog 30 #[.slice a us.length c] w fun e W' => ∃ v, e = .returned v ∧ W'.ownsRow w.heap.size 21 1 v (runesOf us).length ((runesOf us).map (Value.int .i32)) ∧ Below w.heap.size w W' := by
  have hf48 : Fence.wide.fn 48 := trivial
  obtain ⟨i0, hi, hz0, hz1, hz2⟩ := info_parts info21
  refine callsIn_of_wp_marks Try.func30 rfl trivial ?_ rfl
  simp only [Try.ntmps30, List.size_toArray, List.length_cons, List.length_nil, Nat.reduceAdd, Nat.reduceSub, Array.replicate_succ, Array.replicate_zero, List.push_toArray, List.append_toArray, List.nil_append, List.cons_append]
  gi_wp2_with (gi_at_call 48; refine (callsIn_wide.2 (each_any _ _ _ _)).mono ?_; rintro e w' ⟨rfl, rfl⟩)
  have bO := Boxed.new w 30 (.slice none 0 0)
  have bN := Boxed.new (w.alloc (.cells #[.slice none 0 0] 30)) 31 (.slice a us.length c)
  rw [World.size_alloc] at bN
  have hB0 : Below w.heap.size w ((w.alloc (.cells #[.slice none 0 0] 30)).alloc (.cells #[.slice a us.length c] 31)) := ((Below.refl _ w).alloc (Nat.le_refl _) _).alloc (by simp) _
  refine wpIn_rangeFunc_ownG rfl (by omega) (gf := 64) (lb := #[.pointer (some ⟨w.heap.size + 1, 0, none⟩)]) rfl trivial (enters_of Try.func64 (by kernel_rfl) rfl)
    (each_stops (5 - 1) (by omega) (w.heap.size + 1) a c us _ (by omega) (by simp) bN.cell (hr.below hB0) hwf) (fun h k => h.trans k) keepsT_b (Below.refl _ _) (fun _ => rfl)
    (fun pre W => (∃ v, Boxed W w.heap.size 30 v ∧ W.ownsRow w.heap.size 21 1 v pre.length ((pre.map Prod.snd).map (Value.int .i32)) ∧ True) ∧ Below w.heap.size w W)
    (fun _ _ _ => False)
    (OwnFrom.and (Own.from (holdsRow_own w.heap.size w.heap.size 30 21 1 (fun pre : List (Nat × Int) => pre.length) (fun pre => (pre.map Prod.snd).map (Value.int .i32)) (fun _ _ => True)) _) (ownFrom_below (Nat.le_refl _) (by simp; omega)))
    (fun _ _ _ _ _ hs _ _ => hs)
    ⟨⟨_, bO.alloc _, World.ownsRow_nil _ _ _ _, trivial⟩, hB0⟩
    (fun x => { tmps := #[.slice a us.length c, undef, .slice none 0 0, .pointer (some ⟨w.heap.size, 0, none⟩), undef, .int .i32 x.2, .slice a us.length c, .func (.func 64) #[] #[.pointer (some ⟨w.heap.size + 1, 0, none⟩)], .int .i64 (x.1 : Int), .int .i32 x.2, undef, undef, undef, undef, undef], defers := [] }) ?assign ?body ?done ?stop
  case assign =>
    intro l x W K hK
    gi_wp2
    exact hK
  case body =>
    rintro l pre x W ⟨⟨v, hv, hrow, _⟩, hB⟩ hlt
    have hc := hv.cell
    have hpl : pre.length ≤ us.length := by have := marksFrom_le us 0; omega
    have hpl2 : pre.length + 1 ≤ 35184372088832 := by omega
    gi_wp2_with (gi_at_builtin; refine wpListIn_append_own _ rfl _ _ 30 rfl w.heap.size 21 i0 (.int .i32 0) 1 4 Try.underlying30 hi hz0 hz1 hz2 rfl (by decide) _ _ _ rfl (hrow.alloc _) ⟨W.heap.size, 0, none⟩ 1 1 [.int .i32 x.2] rfl rfl (cell_one_new _ _ _) (by simp [Value.oneCell']) (by simp only [maxLen]; omega) (by omega) (by have := hB.size; simp; omega) ?_; intro v' w1 hown' hgrow _; obtain ⟨g', cap', rfl⟩ := ownsRow_succ hown'; obtain ⟨hv1, hv2, hr2, hk2, hb2⟩ := hv.appended (by decide) hrow hB.size (Nat.le_refl _) hown' hgrow; have hkt := fun u => KeepsT.appended (v' := u) (e' := 22) hrow hgrow hv1 (by decide) (by decide); have hc1 := hv1.cell; have hf1 := hv1.frozen)
    exact ⟨hk2.from _, hkt _, ⟨_, hv2, by simpa using hr2, trivial⟩, hB.trans hb2⟩
  case done =>
    rintro D ys W hD rfl ⟨⟨v, hv, hrow, _⟩, hB⟩ hK
    have hc := hv.cell
    gi_wp2
    refine ⟨by simp, .inl ⟨_, _, rfl, run_takeDeferred hK, ?_⟩⟩
    exact ⟨_, results_tmp rfl _ _ _, v, rfl, by rw [runesOf, List.length_map]; exact ownsRow_putObj hrow _ hK rfl, hB.trans (belowK_b (w := w) (Nat.le_refl _) W D _ _ (by simp at hD; omega) hK rfl rfl)⟩
  case stop =>
    rintro D c pre W _ _ h _
    exact h.elim

/-- Where a row is owned by the library's word it is owned by ours. -/
theorem own_of_row {w : World} {B : Nat} {e : TypeId} {v : Value} {n : Nat} {xs : List Value} (h : w.ownsRow B e 1 v n xs) : ∃ a c, v = .slice a n c ∧ Own w B 1 a n c xs := by
  rcases h.2 with ⟨rfl, rfl⟩ | ⟨g, cap, cur, rfl, hB, hg, hle, hm, hs, ht⟩
  · have : xs = [] := by have := h.1; simpa using this
    subst this
    exact ⟨none, 0, rfl, Own.nil _ _ _⟩
  · refine ⟨_, cap, rfl, h.1, hle, hm, .inr ⟨g, rfl, hB, (Array.getElem?_eq_some_iff.1 hg).1, fun j u hu => ?_, fun j hj => ?_⟩⟩
    · rw [← ht, List.getElem?_take] at hu
      split at hu
      · unfold World.cell?
        rw [hg]
        simpa using hu
      · cases hu
    · unfold World.cell? World.frozen?
      rw [hg]
      have : j < cur.size := by omega
      simp [this]

theorem runes_any (w : World) (a : Option Addr) (c : Nat) (us : List Int) (hn : us.length ≤ 17592186044416) (hr : Cells w a (us.map (Value.int .u16))) (hwf : ∀ u ∈ us, 0 ≤ u ∧ u ≤ 65535) :
    Calls Try.prog 30 #[.slice a us.length c] w fun e w' => ∃ a c, e = .returned (.slice a (runesOf us).length c) ∧ Own w' w.heap.size 1 a (runesOf us).length c ((runesOf us).map (Value.int .i32)) ∧ Below w.heap.size w w' := by
  refine (callsIn_wide.1 (runes_in w a c us hn hr hwf)).mono ?_
  rintro e w' ⟨v, rfl, hrow, hb⟩
  obtain ⟨a', c', rfl, hown⟩ := own_of_row hrow
  exact ⟨a', c', rfl, hown, hb⟩

end Go.Proofs.Ytmdcbpdmkonmlaa
