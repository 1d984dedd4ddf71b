/-
  Does an iterator tell some marks? walked, from the front and from behind. Printed by a program of ours (gengoes.py).
-/
import Derived.Test.YtmdcbpdmkonmlaaMarks2
namespace Go.Proofs.Ytmdcbpdmkonmlaa
open Go.RowKit Go.Shelf

attribute [local go_sem] Oper.semAt_some

/-- Between two rounds of 'goes'. -/
def GoI (M : Value) (bk : Bool) (most : Int) (L : List (Nat × Int)) (w : World) (pre : List (Nat × Int)) (W : World) : Prop :=
  (Boxed W w.heap.size 62 M ∧ Boxed W (w.heap.size + 1) 4 (.bool bk) ∧ Boxed W (w.heap.size + 1 + 1) 3 (.int .i64 most) ∧ Boxed W (w.heap.size + 1 + 1 + 1) 4 (.bool false) ∧ Boxed W (w.heap.size + 1 + 1 + 1 + 1) 3 (.int .i64 (pre.length : Nat)) ∧ pre <+: L) ∧ Below w.heap.size w W
/-- A round of 'goes' has left. -/
def GoX (L : List (Nat × Int)) (w : World) (k : Code) (pre : List (Nat × Int)) (W : World) : Prop :=
  (k = .ret ∧ ∃ b, Boxed W (w.heap.size + 1 + 1 + 1) 4 (.bool b) ∧ (pre <+: L → b = true)) ∧ Below w.heap.size w W
theorem goI_own (M : Value) (bk : Bool) (most : Int) (L : List (Nat × Int)) (w : World) (B : Nat) (h : w.heap.size ≤ B) : OwnFrom B (GoI M bk most L w) :=
  OwnFrom.and (Own.from (fun _ A B row hs hg hr => ⟨boxed_own _ _ (fun _ : Unit => _) () A B row hs.1 hg hr, boxed_own _ _ (fun _ : Unit => _) () A B row hs.2.1 hg hr, boxed_own _ _ (fun _ : Unit => _) () A B row hs.2.2.1 hg hr, boxed_own _ _ (fun _ : Unit => _) () A B row hs.2.2.2.1 hg hr, boxed_own _ _ (fun _ : Unit => _) () A B row hs.2.2.2.2.1 hg hr, hs.2.2.2.2.2⟩) _) (ownFrom_below (Nat.le_refl _) h)
theorem goX_own (L : List (Nat × Int)) (w : World) (B : Nat) (h : w.heap.size ≤ B) (k : Code) : OwnFrom B (GoX L w k) :=
  OwnFrom.and (Own.from (fun _ A B row hs hg hr => by obtain ⟨h1, b, h2, h3⟩ := hs; exact ⟨h1, b, boxed_own _ _ (fun _ : Unit => _) () A B row h2 hg hr, h3⟩) _) (ownFrom_below (Nat.le_refl _) h)

theorem prefix_next {α : Type} {pre L : List α} {x y : α} (hp : pre <+: L) (hy : L[pre.length]? = some y) : (pre ++ [x] <+: L) ↔ x = y := by
  obtain ⟨t, rfl⟩ := hp
  rw [List.getElem?_append_right (Nat.le_refl _), Nat.sub_self] at hy
  cases t with
  | nil => simp at hy
  | cons z t =>
    simp at hy
    subst hy
    constructor
    · rintro ⟨s, hs⟩
      rw [List.append_assoc] at hs
      have := List.append_cancel_left hs
      simp at this
      exact this.1
    · rintro rfl
      exact ⟨t, by simp⟩

set_option maxRecDepth 100000 in
set_option maxHeartbeats 4000000 in
theorem goes_on_in (w : World) (Bu : Nat) (a : Option Addr) (c : Nat) (us : List Int) (am : Option Addr) (cm : Nat) (most : Int) (Bm : Nat) (hn : us.length ≤ 1099511627776) (hBu : Bu < w.heap.size) (hcu : w.cell? ⟨Bu, 0, none⟩ = some (.slice a us.length c)) (hr : Cells w a (us.map (Value.int .u16))) (hwf : ∀ u ∈ us, 0 ≤ u ∧ u ≤ 65535)
    (hm : Own w Bm 3 am (marksC us 0).length cm ((marksC us 0).flatMap markL)) :
    CallsIn Fence.wide 5 Try.prog 50 #[.func (.func 64) #[] #[.pointer (some ⟨Bu, 0, none⟩)], .slice am (marksC us 0).length cm, .bool false, .int .i64 most] w fun e W' => e = .returned (.bool true) ∧ Below w.heap.size w W' := by
  have hMF := marksC_from us 0
  have hml := marksC_le us 0
  have hmf : (marksFrom us 0).length = (marksC us 0).length := by rw [← hMF, List.length_map]
  obtain ⟨C, hC⟩ : ∃ C, C = marksC us 0 := ⟨_, rfl⟩
  rw [← hC] at hm hMF hml hmf ⊢
  have HM := Lib.hid hm
  have HMF := Lib.hid hMF
  clear hm hC hMF
  refine callsIn_of_wp_marks Try.func50 rfl trivial ?_ rfl
  simp only [Try.ntmps50, List.size_toArray, List.length_cons, List.length_nil, Nat.reduceAdd, Nat.reduceSub, Array.replicate_succ, Array.replicate_zero, List.push_toArray, List.append_toArray, List.nil_append, List.cons_append]
  gi_wp2
  have b0 := Boxed.new w 62 (.slice am C.length cm)
  have b1 := Boxed.new (w.alloc (.cells #[.slice am C.length cm] 62)) 4 (.bool false)
  have b2 := Boxed.new ((w.alloc (.cells #[.slice am C.length cm] 62)).alloc (.cells #[.bool false] 4)) 3 (.int .i64 most)
  have b3 := Boxed.new (((w.alloc (.cells #[.slice am C.length cm] 62)).alloc (.cells #[.bool false] 4)).alloc (.cells #[.int .i64 most] 3)) 4 (.bool false)
  have b4 := Boxed.new ((((w.alloc (.cells #[.slice am C.length cm] 62)).alloc (.cells #[.bool false] 4)).alloc (.cells #[.int .i64 most] 3)).alloc (.cells #[.bool false] 4)) 3 (.int .i64 0)
  simp only [World.size_alloc] at b1 b2 b3 b4
  have hB0 : Below w.heap.size w (((((w.alloc (.cells #[.slice am C.length cm] 62)).alloc (.cells #[.bool false] 4)).alloc (.cells #[.int .i64 most] 3)).alloc (.cells #[.bool false] 4)).alloc (.cells #[.int .i64 0] 3)) := (((((Below.refl _ w).alloc (Nat.le_refl _) _).alloc (by simp) _).alloc (by simp; omega) _).alloc (by simp; omega) _).alloc (by simp; omega) _
  refine wpIn_rangeFunc_ownG rfl (by omega) (gf := 64) (lb := #[.pointer (some ⟨Bu, 0, none⟩)]) rfl trivial (enters_of Try.func64 (by kernel_rfl) rfl)
    (each_stops (5 - 1) (by omega) Bu a c us _ (by omega) (by simp; omega) ((hB0.cell (p := ⟨Bu, 0, none⟩) hBu).trans hcu) (hr.below hB0) hwf) (fun h k => h.trans k) keepsT_b (Below.refl _ _) (fun _ => rfl)
    (GoI (.slice am C.length cm) false most (marksFrom us 0) w) (GoX (marksFrom us 0) w) (goI_own _ _ _ _ _ _ (by simp; omega)) (goX_own _ _ _ (by simp; omega))
    ⟨⟨(((b0.alloc _).alloc _).alloc _).alloc _, ((b1.alloc _).alloc _).alloc _, (b2.alloc _).alloc _, b3.alloc _, b4, List.nil_prefix⟩, hB0⟩
    (fun x => { tmps := #[.func (.func 64) #[] #[.pointer (some ⟨Bu, 0, none⟩)], .slice am C.length cm, .bool false, .int .i64 most, undef, .pointer (some ⟨w.heap.size, 0, none⟩), .pointer (some ⟨w.heap.size + 1, 0, none⟩), .pointer (some ⟨w.heap.size + 1 + 1, 0, none⟩), .pointer (some ⟨w.heap.size + 1 + 1 + 1, 0, none⟩), .pointer (some ⟨w.heap.size + 1 + 1 + 1 + 1, 0, none⟩), .int .i64 (x.1 : Int), .int .i32 x.2, undef, .func (.func 64) #[] #[.pointer (some ⟨Bu, 0, none⟩)], .int .i64 (x.1 : Int), .int .i32 x.2, undef, undef, undef, undef, undef, undef, undef, undef, undef, undef, undef, undef, undef, undef, undef, undef, undef, undef, undef, undef, undef, undef, undef, undef, undef, undef, undef, undef, undef, undef, undef, undef, undef, undef, undef, undef], defers := [] }) ?assign ?body ?done ?stop
  case assign =>
    intro l x W K hK
    gi_wp2
    exact hK
  case body =>
    rintro l pre x W ⟨⟨v0, v1, v2, v3, v4, hp⟩, hB⟩ hlt
    rw [hmf] at hlt
    clear hB0 b0 b1 b2 b3 b4 hcu hr hwf
    obtain ⟨y, hy⟩ : ∃ y, C[pre.length]? = some y := ⟨_, List.getElem?_eq_getElem hlt⟩
    obtain ⟨g, rfl, q0, q1, q2⟩ := mark_cells (HM.out.below hB) hy
    obtain ⟨z, rfl⟩ : ∃ z, z = y := ⟨_, rfl⟩
    have HY := Lib.hid hy
    have HX := Lib.hid (show (marksFrom us 0)[pre.length]? = some (z.1, z.2.1) by
      rw [← HMF.out, List.getElem?_map, HY.out]; rfl)
    have c0 := v0.cell
    have c1 := v1.cell
    have c2 := v2.cell
    have c3 := v3.cell
    have f3 := v3.frozen
    have c4 := v4.cell
    have f4 := v4.frozen
    have l0 := v0.lt
    have l1 := v1.lt
    have l2 := v2.lt
    have l3 := v3.lt
    have l4 := v4.lt
    have hg1 : g < W.heap.size := World.block_lt_of_cell? W _ q0
    have hi0 : (0 : Int) ≤ (pre.length : Int) := by omega
    have hi1 : (pre.length : Int) < (C.length : Int) := by omega
    have HP := Lib.hid hp
    have HB := Lib.hid hB
    have H0 := Lib.hid v0
    have H1 := Lib.hid v1
    have H2 := Lib.hid v2
    have H3 := Lib.hid v3
    have H4 := Lib.hid v4
    have hbig : pre.length ≤ 1099511627776 := by omega
    clear hy hp hB v0 v1 v2 v3 v4 
    by_cases h1 : x.1 = z.1
    · by_cases h2 : x.2 = z.2.1
      · have HXX := Lib.hid (show pre ++ [x] <+: (marksFrom us 0) from (prefix_next HP.out HX.out).2 (Prod.ext h1 h2))
        have e1 : ((x.1 : Int) != (z.1 : Int)) = false := by simp [h1]
        have e2 : (x.2 != z.2.1) = false := by simp [h2]
        clear h1 h2
        by_cases h3 : (pre.length : Int) + 1 = most
        · have e3 : ((pre.length : Int) + 1 == most) = true := by simp [h3]
          clear h3
          gi_wp2
          exact ⟨(((KeepsOthers.setCell _ _ _).trans (KeepsOthers.setCell _ _ _)).trans (KeepsOthers.alloc _ _)).from _, ⟨rfl, true, ((H3.out.other (by omega) _).set _).alloc _, fun _ => rfl⟩, ((HB.out.setCell (p := ⟨w.heap.size + 1 + 1 + 1 + 1, 0, none⟩) (by simp; omega) _).setCell (p := ⟨w.heap.size + 1 + 1 + 1, 0, none⟩) (by simp; omega) _).alloc (by simpa using HB.out.size) _⟩
        · have e3 : ((pre.length : Int) + 1 == most) = false := by simp [h3]
          clear h3
          gi_wp2
          exact ⟨((KeepsOthers.setCell _ _ _).trans (KeepsOthers.alloc _ _)).from _, ((KeepsT.refl 22 W).setCell H4.out (by decide) _).alloc _, ⟨(H0.out.other (by omega) _).alloc _, (H1.out.other (by omega) _).alloc _, (H2.out.other (by omega) _).alloc _, (H3.out.other (by omega) _).alloc _, by rw [List.length_append]; exact (H4.out.set (.int .i64 ((pre.length : Int) + 1))).alloc _, HXX.out⟩, (HB.out.setCell (p := ⟨w.heap.size + 1 + 1 + 1 + 1, 0, none⟩) (by simp; omega) _).alloc (by simpa using HB.out.size) _⟩
      · have HXX := Lib.hid (show ¬ pre ++ [x] <+: (marksFrom us 0) from fun h => h2 (congrArg Prod.snd ((prefix_next HP.out HX.out).1 h)))
        have e1 : ((x.1 : Int) != (z.1 : Int)) = false := by simp [h1]
        have e2 : (x.2 != z.2.1) = true := by simp [h2]
        clear h1 h2
        gi_wp2
        exact ⟨((KeepsOthers.setCell _ _ _).trans (KeepsOthers.alloc _ _)).from _, ⟨rfl, false, (H3.out.set _).alloc _, fun h => absurd h HXX.out⟩, (HB.out.setCell (p := ⟨w.heap.size + 1 + 1 + 1, 0, none⟩) (by simp; omega) _).alloc (by simpa using HB.out.size) _⟩
    · have HXX := Lib.hid (show ¬ pre ++ [x] <+: (marksFrom us 0) from fun h => h1 (congrArg Prod.fst ((prefix_next HP.out HX.out).1 h)))
      have e1 : ((x.1 : Int) != (z.1 : Int)) = true := by simp; omega
      clear h1
      gi_wp2
      exact ⟨((KeepsOthers.setCell _ _ _).trans (KeepsOthers.alloc _ _)).from _, ⟨rfl, false, (H3.out.set _).alloc _, fun h => absurd h HXX.out⟩, (HB.out.setCell (p := ⟨w.heap.size + 1 + 1 + 1, 0, none⟩) (by simp; omega) _).alloc (by simpa using HB.out.size) _⟩
  case done =>
    rintro D ys W hD hall ⟨⟨v0, v1, v2, v3, v4, hp⟩, hB⟩ hK
    have hlen : ys.length = C.length := by rw [hall]; exact hmf
    rw [hlen] at v4
    have c0 := v0.cell
    have c3 := v3.cell
    have f3 := v3.frozen
    have c4 := v4.cell
    have X1 := Lib.hid (v3.set (.bool true))
    have HBW := Lib.hid (hB.setCell (p := ⟨w.heap.size + 1 + 1 + 1, 0, none⟩) (by simp; omega) (.bool true))
    clear hB0 b0 b1 b2 b3 b4 hall hlen hp hcu hr hwf
    have ee : ((C.length : Int) == (C.length : Int)) = true := by simp
    gi_wp2
    have hK' := (KeepsOthers.setCell W ⟨w.heap.size + 1 + 1 + 1, 0, none⟩ (.bool true)).same D _ hK rfl
    refine ⟨by simp, .inl ⟨_, _, rfl, run_takeDeferred hK', ?_⟩⟩
    have hk5 := cell_kept X1.out.cell (grownBy_putObj' _ D (.deferred none)) (fun r e => by cases e; exact ⟨_, hK', rfl⟩)
    refine ⟨.bool true, ?_, rfl, HBW.out.trans (belowK_b (w := w) (Nat.le_refl _) _ D _ _ (by simp at hD; omega) hK' rfl rfl)⟩
    simp [results, Try.f50, go_sem, hk5]
  case stop =>
    rintro D k pre W hD hpre ⟨⟨rfl, b, v3, hb⟩, hB⟩ hK
    obtain rfl := hb hpre
    gi_wp2
    refine ⟨by simp, .inl ⟨_, _, rfl, run_takeDeferred hK, ?_⟩⟩
    have hk5 := cell_kept v3.cell (grownBy_putObj' _ D (.deferred none)) (fun r e => by cases e; exact ⟨_, hK, rfl⟩)
    refine ⟨.bool true, ?_, rfl, hB.trans (belowK_b (w := w) (Nat.le_refl _) W D _ _ (by simp at hD; omega) hK rfl rfl)⟩
    simp [results, Try.f50, go_sem, hk5]

theorem goes_on (w : World) (Bu : Nat) (a : Option Addr) (c : Nat) (us : List Int) (am : Option Addr) (cm : Nat) (most : Int) (Bm : Nat) (hn : us.length ≤ 1099511627776) (hBu : Bu < w.heap.size) (hcu : w.cell? ⟨Bu, 0, none⟩ = some (.slice a us.length c)) (hr : Cells w a (us.map (Value.int .u16))) (hwf : ∀ u ∈ us, 0 ≤ u ∧ u ≤ 65535)
    (hm : Own w Bm 3 am (marksC us 0).length cm ((marksC us 0).flatMap markL)) :
    Calls Try.prog 50 #[.func (.func 64) #[] #[.pointer (some ⟨Bu, 0, none⟩)], .slice am (marksC us 0).length cm, .bool false, .int .i64 most] w fun e W' => e = .returned (.bool true) ∧ Below w.heap.size w W' :=
  callsIn_wide.1 (goes_on_in w Bu a c us am cm most Bm hn hBu hcu hr hwf hm)

set_option maxRecDepth 100000 in
set_option maxHeartbeats 4000000 in
theorem goes_back_in (w : World) (Bu : Nat) (a : Option Addr) (c : Nat) (us : List Int) (am : Option Addr) (cm : Nat) (most : Int) (Bm : Nat) (hn : us.length ≤ 1099511627776) (hBu : Bu < w.heap.size) (hcu : w.cell? ⟨Bu, 0, none⟩ = some (.slice a us.length c)) (hr : Cells w a (us.map (Value.int .u16))) (hwf : ∀ u ∈ us, 0 ≤ u ∧ u ≤ 65535)
    (hm : Own w Bm 3 am (marksC us 0).length cm ((marksC us 0).flatMap markL)) :
    CallsIn Fence.wide 5 Try.prog 50 #[.func (.func 67) #[] #[.pointer (some ⟨Bu, 0, none⟩)], .slice am (marksC us 0).length cm, .bool true, .int .i64 most] w fun e W' => e = .returned (.bool true) ∧ Below w.heap.size w W' := by
  have hMF := marksC_from us 0
  have hml := marksC_le us 0
  have hmf : (marksFrom us 0).length = (marksC us 0).length := by rw [← hMF, List.length_map]
  obtain ⟨C, hC⟩ : ∃ C, C = marksC us 0 := ⟨_, rfl⟩
  rw [← hC] at hm hMF hml hmf ⊢
  have HM := Lib.hid hm
  have HMF := Lib.hid hMF
  clear hm hC hMF
  refine callsIn_of_wp_marks Try.func50 rfl trivial ?_ rfl
  simp only [Try.ntmps50, List.size_toArray, List.length_cons, List.length_nil, Nat.reduceAdd, Nat.reduceSub, Array.replicate_succ, Array.replicate_zero, List.push_toArray, List.append_toArray, List.nil_append, List.cons_append]
  gi_wp2
  have b0 := Boxed.new w 62 (.slice am C.length cm)
  have b1 := Boxed.new (w.alloc (.cells #[.slice am C.length cm] 62)) 4 (.bool true)
  have b2 := Boxed.new ((w.alloc (.cells #[.slice am C.length cm] 62)).alloc (.cells #[.bool true] 4)) 3 (.int .i64 most)
  have b3 := Boxed.new (((w.alloc (.cells #[.slice am C.length cm] 62)).alloc (.cells #[.bool true] 4)).alloc (.cells #[.int .i64 most] 3)) 4 (.bool false)
  have b4 := Boxed.new ((((w.alloc (.cells #[.slice am C.length cm] 62)).alloc (.cells #[.bool true] 4)).alloc (.cells #[.int .i64 most] 3)).alloc (.cells #[.bool false] 4)) 3 (.int .i64 0)
  simp only [World.size_alloc] at b1 b2 b3 b4
  have hB0 : Below w.heap.size w (((((w.alloc (.cells #[.slice am C.length cm] 62)).alloc (.cells #[.bool true] 4)).alloc (.cells #[.int .i64 most] 3)).alloc (.cells #[.bool false] 4)).alloc (.cells #[.int .i64 0] 3)) := (((((Below.refl _ w).alloc (Nat.le_refl _) _).alloc (by simp) _).alloc (by simp; omega) _).alloc (by simp; omega) _).alloc (by simp; omega) _
  refine wpIn_rangeFunc_ownG rfl (by omega) (gf := 67) (lb := #[.pointer (some ⟨Bu, 0, none⟩)]) rfl trivial (enters_of Try.func67 (by kernel_rfl) rfl)
    (back_stops (5 - 1) (by omega) Bu a c us _ (by omega) (by simp; omega) ((hB0.cell (p := ⟨Bu, 0, none⟩) hBu).trans hcu) (hr.below hB0) hwf) (fun h k => h.trans k) keepsT_b (Below.refl _ _) (fun _ => rfl)
    (GoI (.slice am C.length cm) true most (marksFrom us 0).reverse w) (GoX (marksFrom us 0).reverse w) (goI_own _ _ _ _ _ _ (by simp; omega)) (goX_own _ _ _ (by simp; omega))
    ⟨⟨(((b0.alloc _).alloc _).alloc _).alloc _, ((b1.alloc _).alloc _).alloc _, (b2.alloc _).alloc _, b3.alloc _, b4, List.nil_prefix⟩, hB0⟩
    (fun x => { tmps := #[.func (.func 67) #[] #[.pointer (some ⟨Bu, 0, none⟩)], .slice am C.length cm, .bool true, .int .i64 most, undef, .pointer (some ⟨w.heap.size, 0, none⟩), .pointer (some ⟨w.heap.size + 1, 0, none⟩), .pointer (some ⟨w.heap.size + 1 + 1, 0, none⟩), .pointer (some ⟨w.heap.size + 1 + 1 + 1, 0, none⟩), .pointer (some ⟨w.heap.size + 1 + 1 + 1 + 1, 0, none⟩), .int .i64 (x.1 : Int), .int .i32 x.2, undef, .func (.func 67) #[] #[.pointer (some ⟨Bu, 0, none⟩)], .int .i64 (x.1 : Int), .int .i32 x.2, undef, undef, undef, undef, undef, undef, undef, undef, undef, undef, undef, undef, undef, undef, undef, undef, undef, undef, undef, undef, undef, undef, undef, undef, undef, undef, undef, undef, undef, undef, undef, undef, undef, undef, undef, undef], defers := [] }) ?assign ?body ?done ?stop
  case assign =>
    intro l x W K hK
    gi_wp2
    exact hK
  case body =>
    rintro l pre x W ⟨⟨v0, v1, v2, v3, v4, hp⟩, hB⟩ hlt
    rw [hmf] at hlt
    clear hB0 b0 b1 b2 b3 b4 hcu hr hwf
    obtain ⟨y, hy⟩ : ∃ y, C[pre.length]? = some y := ⟨_, List.getElem?_eq_getElem hlt⟩
    obtain ⟨g, rfl, q0, q1, q2⟩ := mark_cells (HM.out.below hB) hy
    obtain ⟨j, hj⟩ : ∃ j, j + pre.length + 1 = C.length := ⟨C.length - 1 - pre.length, by omega⟩
    obtain ⟨z, hz⟩ : ∃ z, C[j]? = some z := ⟨_, List.getElem?_eq_getElem (by omega)⟩
    obtain ⟨g', hg', r0, r1, r2⟩ := mark_cells (HM.out.below hB) hz
    simp only [Option.some.injEq, Addr.mk.injEq, and_true] at hg'
    subst hg'
    have HZ := Lib.hid hz
    have HJ := Lib.hid hj
    have hj0 : (0 : Int) ≤ (j : Int) := by omega
    have hj1 : (j : Int) < (C.length : Int) := by omega
    have hsub1 : (C.length : Int) - 1 - (pre.length : Int) = (j : Int) := by omega
    have HX := Lib.hid (show (marksFrom us 0).reverse[pre.length]? = some (z.1, z.2.1) by
      rw [List.getElem?_reverse (by rw [hmf]; exact hlt), ← HMF.out, List.length_map, List.getElem?_map, show C.length - 1 - pre.length = j by have := HJ.out; omega, HZ.out]; rfl)
    have c0 := v0.cell
    have c1 := v1.cell
    have c2 := v2.cell
    have c3 := v3.cell
    have f3 := v3.frozen
    have c4 := v4.cell
    have f4 := v4.frozen
    have l0 := v0.lt
    have l1 := v1.lt
    have l2 := v2.lt
    have l3 := v3.lt
    have l4 := v4.lt
    have hg1 : g < W.heap.size := World.block_lt_of_cell? W _ q0
    have hi0 : (0 : Int) ≤ (pre.length : Int) := by omega
    have hi1 : (pre.length : Int) < (C.length : Int) := by omega
    have HP := Lib.hid hp
    have HB := Lib.hid hB
    have H0 := Lib.hid v0
    have H1 := Lib.hid v1
    have H2 := Lib.hid v2
    have H3 := Lib.hid v3
    have H4 := Lib.hid v4
    have hbig : pre.length ≤ 1099511627776 := by omega
    clear hy hp hB v0 v1 v2 v3 v4 hz hj
    by_cases h1 : x.1 = z.1
    · by_cases h2 : x.2 = z.2.1
      · have HXX := Lib.hid (show pre ++ [x] <+: (marksFrom us 0).reverse from (prefix_next HP.out HX.out).2 (Prod.ext h1 h2))
        have e1 : ((x.1 : Int) != (z.1 : Int)) = false := by simp [h1]
        have e2 : (x.2 != z.2.1) = false := by simp [h2]
        clear h1 h2
        by_cases h3 : (pre.length : Int) + 1 = most
        · have e3 : ((pre.length : Int) + 1 == most) = true := by simp [h3]
          clear h3
          gi_wp2
          exact ⟨(((KeepsOthers.setCell _ _ _).trans (KeepsOthers.setCell _ _ _)).trans (KeepsOthers.alloc _ _)).from _, ⟨rfl, true, ((H3.out.other (by omega) _).set _).alloc _, fun _ => rfl⟩, ((HB.out.setCell (p := ⟨w.heap.size + 1 + 1 + 1 + 1, 0, none⟩) (by simp; omega) _).setCell (p := ⟨w.heap.size + 1 + 1 + 1, 0, none⟩) (by simp; omega) _).alloc (by simpa using HB.out.size) _⟩
        · have e3 : ((pre.length : Int) + 1 == most) = false := by simp [h3]
          clear h3
          gi_wp2
          exact ⟨((KeepsOthers.setCell _ _ _).trans (KeepsOthers.alloc _ _)).from _, ((KeepsT.refl 22 W).setCell H4.out (by decide) _).alloc _, ⟨(H0.out.other (by omega) _).alloc _, (H1.out.other (by omega) _).alloc _, (H2.out.other (by omega) _).alloc _, (H3.out.other (by omega) _).alloc _, by rw [List.length_append]; exact (H4.out.set (.int .i64 ((pre.length : Int) + 1))).alloc _, HXX.out⟩, (HB.out.setCell (p := ⟨w.heap.size + 1 + 1 + 1 + 1, 0, none⟩) (by simp; omega) _).alloc (by simpa using HB.out.size) _⟩
      · have HXX := Lib.hid (show ¬ pre ++ [x] <+: (marksFrom us 0).reverse from fun h => h2 (congrArg Prod.snd ((prefix_next HP.out HX.out).1 h)))
        have e1 : ((x.1 : Int) != (z.1 : Int)) = false := by simp [h1]
        have e2 : (x.2 != z.2.1) = true := by simp [h2]
        clear h1 h2
        gi_wp2
        exact ⟨((KeepsOthers.setCell _ _ _).trans (KeepsOthers.alloc _ _)).from _, ⟨rfl, false, (H3.out.set _).alloc _, fun h => absurd h HXX.out⟩, (HB.out.setCell (p := ⟨w.heap.size + 1 + 1 + 1, 0, none⟩) (by simp; omega) _).alloc (by simpa using HB.out.size) _⟩
    · have HXX := Lib.hid (show ¬ pre ++ [x] <+: (marksFrom us 0).reverse from fun h => h1 (congrArg Prod.fst ((prefix_next HP.out HX.out).1 h)))
      have e1 : ((x.1 : Int) != (z.1 : Int)) = true := by simp; omega
      clear h1
      gi_wp2
      exact ⟨((KeepsOthers.setCell _ _ _).trans (KeepsOthers.alloc _ _)).from _, ⟨rfl, false, (H3.out.set _).alloc _, fun h => absurd h HXX.out⟩, (HB.out.setCell (p := ⟨w.heap.size + 1 + 1 + 1, 0, none⟩) (by simp; omega) _).alloc (by simpa using HB.out.size) _⟩
  case done =>
    rintro D ys W hD hall ⟨⟨v0, v1, v2, v3, v4, hp⟩, hB⟩ hK
    have hlen : ys.length = C.length := by rw [hall]; rw [List.length_reverse]; exact hmf
    rw [hlen] at v4
    have c0 := v0.cell
    have c3 := v3.cell
    have f3 := v3.frozen
    have c4 := v4.cell
    have X1 := Lib.hid (v3.set (.bool true))
    have HBW := Lib.hid (hB.setCell (p := ⟨w.heap.size + 1 + 1 + 1, 0, none⟩) (by simp; omega) (.bool true))
    clear hB0 b0 b1 b2 b3 b4 hall hlen hp hcu hr hwf
    have ee : ((C.length : Int) == (C.length : Int)) = true := by simp
    gi_wp2
    have hK' := (KeepsOthers.setCell W ⟨w.heap.size + 1 + 1 + 1, 0, none⟩ (.bool true)).same D _ hK rfl
    refine ⟨by simp, .inl ⟨_, _, rfl, run_takeDeferred hK', ?_⟩⟩
    have hk5 := cell_kept X1.out.cell (grownBy_putObj' _ D (.deferred none)) (fun r e => by cases e; exact ⟨_, hK', rfl⟩)
    refine ⟨.bool true, ?_, rfl, HBW.out.trans (belowK_b (w := w) (Nat.le_refl _) _ D _ _ (by simp at hD; omega) hK' rfl rfl)⟩
    simp [results, Try.f50, go_sem, hk5]
  case stop =>
    rintro D k pre W hD hpre ⟨⟨rfl, b, v3, hb⟩, hB⟩ hK
    obtain rfl := hb hpre
    gi_wp2
    refine ⟨by simp, .inl ⟨_, _, rfl, run_takeDeferred hK, ?_⟩⟩
    have hk5 := cell_kept v3.cell (grownBy_putObj' _ D (.deferred none)) (fun r e => by cases e; exact ⟨_, hK, rfl⟩)
    refine ⟨.bool true, ?_, rfl, hB.trans (belowK_b (w := w) (Nat.le_refl _) W D _ _ (by simp at hD; omega) hK rfl rfl)⟩
    simp [results, Try.f50, go_sem, hk5]

theorem goes_back (w : World) (Bu : Nat) (a : Option Addr) (c : Nat) (us : List Int) (am : Option Addr) (cm : Nat) (most : Int) (Bm : Nat) (hn : us.length ≤ 1099511627776) (hBu : Bu < w.heap.size) (hcu : w.cell? ⟨Bu, 0, none⟩ = some (.slice a us.length c)) (hr : Cells w a (us.map (Value.int .u16))) (hwf : ∀ u ∈ us, 0 ≤ u ∧ u ≤ 65535)
    (hm : Own w Bm 3 am (marksC us 0).length cm ((marksC us 0).flatMap markL)) :
    Calls Try.prog 50 #[.func (.func 67) #[] #[.pointer (some ⟨Bu, 0, none⟩)], .slice am (marksC us 0).length cm, .bool true, .int .i64 most] w fun e W' => e = .returned (.bool true) ∧ Below w.heap.size w W' :=
  callsIn_wide.1 (goes_back_in w Bu a c us am cm most Bm hn hBu hcu hr hwf hm)

end Go.Proofs.Ytmdcbpdmkonmlaa
