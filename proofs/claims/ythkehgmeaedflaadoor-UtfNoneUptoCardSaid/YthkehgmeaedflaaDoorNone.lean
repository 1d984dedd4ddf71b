/-
  The walk of the law UtfNone.
-/
import Derived.Test.YthkehgmeaedflaaDoorWalk
import Derived.Test.YthkehgmeaedflaaDoorLives
namespace Go.Proofs.YthkehgmeaedflaaDoor
open Go.RowKit Go.Shelf

attribute [local go_sem] Oper.semAt_some eq_fn78

set_option maxRecDepth 100000 in
set_option maxHeartbeats 4000000 in
theorem none_in (w : World) (p q : Int) (hT : Lib.Utf8Tabs 0 1 w) :
    CallsIn Fence.wide 5 Tryd.prog 13 #[.int .i64 p, .int .i64 q] w fun e W' => e = .returned (.bool true) ∧ Below w.heap.size w W' := by
  have hf16 : Fence.wide.fn 16 := trivial
  have hf44 : Fence.wide.fn 44 := trivial
  have hf45 : Fence.wide.fn 45 := trivial
  have hf46 : Fence.wide.fn 46 := trivial
  have hf47 : Fence.wide.fn 47 := trivial
  have hf48 : Fence.wide.fn 48 := trivial
  have hf49 : Fence.wide.fn 49 := trivial
  have hf50 : Fence.wide.fn 50 := trivial
  have hf51 : Fence.wide.fn 51 := trivial
  have HT := Lib.hid hT
  clear hT
  refine callsIn_of_wp_marks Tryd.func13 rfl trivial ?_ rfl
  simp only [Tryd.ntmps13, List.size_toArray, List.length_cons, List.length_nil, Nat.reduceAdd, Nat.reduceSub, Array.replicate_succ, Array.replicate_zero, List.push_toArray, List.append_toArray, List.nil_append, List.cons_append]
  gi_wp2_with (first
    | (gi_at_call 16; refine (callsIn_wide.2 (lives_any _ HT.out)).mono ?_; rintro e w1 ⟨rfl, hb1⟩; have HB1 := Lib.hid hb1; clear hb1)
    | (gi_at_call 44; refine (callsIn_wide.2 (byte_nil _ _)).mono ?_; rintro e w' ⟨rfl, rfl⟩)
    | (gi_at_call 45; refine (callsIn_wide.2 (at_nil _ _)).mono ?_; rintro e w' ⟨rfl, rfl⟩)
    | (gi_at_call 46; refine (callsIn_wide.2 (rune_nil _ _)).mono ?_; rintro e w' ⟨rfl, rfl⟩)
    | (gi_at_call 47; refine (callsIn_wide.2 (slice_nil _ _ _)).mono ?_; rintro e w' ⟨rfl, rfl⟩)
    | (gi_at_call 48; refine (callsIn_wide.2 (walk_any _ _ _)).mono ?_; rintro e w' ⟨rfl, rfl⟩))
  have b0 := Boxed.new w1 3 (.int .i64 0)
  have b1 := Boxed.new (((w1.alloc (.cells #[.int .i64 0] 3)).alloc (.cells #[.pointer none] 66)).alloc (.cells #[.int .i64 p] 3)) 66 (.pointer none)
  simp only [World.size_alloc] at b1
  have hB0 : Below w1.heap.size w1 (((((w1.alloc (.cells #[.int .i64 0] 3)).alloc (.cells #[.pointer none] 66)).alloc (.cells #[.int .i64 p] 3)).alloc (.cells #[.pointer none] 66)).alloc (.cells #[.int .i64 p] 3)) := (((((Below.refl _ w1).alloc (Nat.le_refl _) _).alloc (by simp) _).alloc (by simp; omega) _).alloc (by simp; omega) _).alloc (by simp; omega) _
  refine wpIn_rangeFunc_ownG rfl (by omega) (gf := 69) (lb := #[.pointer (some ⟨w1.heap.size + 1 + 1 + 1, 0, none⟩), .pointer (some ⟨w1.heap.size + 1 + 1 + 1 + 1, 0, none⟩)]) rfl trivial (enters_of Tryd.func69 (by kernel_rfl) rfl)
    (walkN_stops KeepsWalks (5 - 1) (by omega) (w1.heap.size + 1 + 1 + 1) (w1.heap.size + 1 + 1 + 1 + 1) _ (by simp) (b1.alloc _).cell) (fun h k => h.trans k) walksK_b (Below.refl _ _) (fun _ => rfl)
    (fun pre W => (Boxed W w1.heap.size 3 (.int .i64 0)) ∧ Below w1.heap.size w1 W) (fun _ _ _ => False)
    (OwnFrom.and (Own.from (fun _ A B row hs hg hr => boxed_own _ _ (fun _ : Unit => _) () A B row hs hg hr) _) (ownFrom_below (Nat.le_refl _) (by simp; omega))) (fun _ _ _ _ _ hs _ _ => hs)
    ⟨(((b0.alloc _).alloc _).alloc _).alloc _, hB0⟩
    (fun x => { tmps := #[.int .i64 p, .int .i64 q, undef, undef, .bool false, .pointer none, .int .i64 0, .int .i64 1, .int .i64 0, .int .i64 1, .int .i32 0, .int .i64 1, .string ⟨#[]⟩, .int .i64 1, .pointer (some ⟨w1.heap.size, 0, none⟩), .bool true, .bool false, .tuple #[.int .i64 0, .int .i64 1], .pointer none, .int .i64 p, .tuple #[.int .i64 0, .int .i64 1], .int .i64 0, .int .i64 1, .tuple #[.int .i64 0, .int .i64 1], .pointer none, .int .i64 p, .tuple #[.int .i64 0, .int .i64 1], .int .i64 0, .int .i64 1, .tuple #[.int .i32 0, .int .i64 1], .pointer none, .int .i64 p, .tuple #[.int .i32 0, .int .i64 1], .int .i32 0, .int .i64 1, .tuple #[.string ⟨#[]⟩, .int .i64 1], .pointer none, .int .i64 p, .int .i64 q, .tuple #[.string ⟨#[]⟩, .int .i64 1], .string ⟨#[]⟩, .int .i64 1, .pointer none, .int .i64 p, .func (.func 69) #[] #[.pointer (some ⟨w1.heap.size + 1, 0, none⟩), .pointer (some ⟨w1.heap.size + 1 + 1, 0, none⟩)], .bool false, .pointer none, .int .i64 p, .func (.func 69) #[] #[.pointer (some ⟨w1.heap.size + 1 + 1 + 1, 0, none⟩), .pointer (some ⟨w1.heap.size + 1 + 1 + 1 + 1, 0, none⟩)], .int .i64 (x.1 : Int), .int .i32 x.2, undef, undef, undef, undef, undef, undef, undef, undef, undef, undef, undef, undef, undef, undef, undef, undef, undef, undef, undef, undef, undef, undef, undef, undef, undef, undef, undef, undef, undef, undef, undef, undef, undef, undef, undef, undef, undef, undef, undef], defers := [] }) ?assign ?body ?done ?stop
  case assign =>
    intro l x W K hK
    gi_wp2
    exact hK
  case body =>
    rintro l pre x W _ hlt
    exact absurd hlt (Nat.not_lt_zero _)
  case stop =>
    rintro D c pre W _ _ h _
    exact h.elim
  case done =>
    rintro D ys W hD rfl ⟨hv, hB⟩ hK
    have hc := hv.cell
    have HBW := Lib.hid (after HB1.out hB)
    have HV := Lib.hid hv
    have HK := Lib.hid hK
    clear hB0 b0 b1 hK hB
    gi_wp2_with (first
      | (gi_at_call 49; refine (callsIn_wide.2 (text_nil _)).mono ?_; rintro e w' ⟨rfl, rfl⟩)
      | (gi_at_call 50; refine (callsIn_wide.2 (len_nil _)).mono ?_; rintro e w' ⟨rfl, rfl⟩)
      | (gi_at_call 51; refine (callsIn_wide.2 (begins_nil _ _)).mono ?_; rintro e w' ⟨rfl, rfl⟩)
      | (gi_at_call 16; refine (callsIn_wide.2 (lives_any _ (tabs_below HT.out HBW.out))).mono ?_; rintro e w2 ⟨rfl, hb2⟩))
    have hK2 : w2.heap[D]? = some (.deferred (some [])) := (hb2.block D (Array.getElem?_eq_some_iff.1 HK.out).1).trans HK.out
    have hB2 := after HBW.out hb2
    refine ⟨by simp, .inl ⟨_, _, rfl, run_takeDeferred hK2, ?_⟩⟩
    exact ⟨_, results_tmp rfl _ _ _, rfl, hB2.trans (belowK_b (w := w) (Nat.le_refl _) w2 D _ _ (by have := HB1.out.size; simp at hD; omega) hK2 rfl rfl)⟩

theorem none_walk (w : World) (p : Int) (hp : (Lit.int .i64 p).wf = true) (q : Int) (hq : (Lit.int .i64 q).wf = true) (hT : Lib.Utf8Tabs 0 1 w) :
    Calls Tryd.prog 13 #[.int .i64 p, .int .i64 q] w fun e w' => e = .returned (.bool true) ∧ Below w.heap.size w w' := callsIn_wide.1 (none_in w p q hT)

end Go.Proofs.YthkehgmeaedflaaDoor
