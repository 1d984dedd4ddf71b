/-
  The first lone unit: wide.Check, walked.
-/
import Derived.Test.YtmdcbpdmkonmlaaRunes
namespace Go.Proofs.Ytmdcbpdmkonmlaa
open Go.RowKit Go.Shelf

attribute [local go_sem] Oper.semAt_some

/-- A character at a place within the units. -/
abbrev Spot (us : List Int) := { x : Nat × Int // x.1 < us.length }

set_option maxRecDepth 100000 in
set_option maxHeartbeats 4000000 in
/-- **The closure of Each: it tells what the units stand for, each at a place within.** -/
theorem each_spots (n : Nat) (hn1 : 1 ≤ n) (Bu : Nat) (a : Option Addr) (c : Nat) (us : List Int) (w : World) (hn : us.length ≤ 70368744177664) (hB : Bu < w.heap.size) (hc : w.cell? ⟨Bu, 0, none⟩ = some (.slice a us.length c)) (hr : Cells w a (us.map (Value.int .u16))) (hwf : ∀ u ∈ us, 0 ≤ u ∧ u ≤ 65535) :
    SeqStopsK Fence.wide n Try.prog 64 #[.pointer (some ⟨Bu, 0, none⟩)] (fun x : Spot us => #[Value.int .i64 (x.1.1 : Int), Value.int .i32 x.1.2]) (KeepsT 22) (fun ys => ys.map Subtype.val = marksFrom us 0) (fun pre => pre.map Subtype.val <+: marksFrom us 0) (marksFrom us 0).length w := fun l J Jx W hW hJ hJx hY h0 => by
  have hf65 : Fence.wide.fn 65 := trivial
  have hf66 : Fence.wide.fn 66 := trivial
  have hcW : W.cell? ⟨Bu, 0, none⟩ = some (.slice a us.length c) := (hW.cell (p := ⟨Bu, 0, none⟩) hB).trans hc
  have HR := Lib.hid (hr.below hW)
  have HWF := Lib.hid hwf
  have HJ := Lib.hid hJ
  have HY := Lib.hid hY
  clear hr hwf hJ hY
  refine callsIn_of_wp Try.func64 rfl trivial ?_ rfl
  simp only [Try.ntmps64, List.size_toArray, List.length_cons, List.length_nil, Nat.reduceAdd, Nat.reduceSub, Array.replicate_succ, Array.replicate_zero, List.push_toArray, List.append_toArray, List.nil_append, List.cons_append]
  gi_wp2_with (gi_at_call 65; refine (callsIn_wide.2 (clone_any _ a c us hn HR.out)).mono ?_; rintro e W1 ⟨v, rfl, hown, hb1⟩)
  have hJ1 := HJ.out [] W W1 none h0 (below_grown hb1) (by rintro r h; cases h)
  rcases hown.2 with ⟨rfl, hz⟩ | ⟨g, cap, cur, rfl, hg1, hgb, hle, hcm, hcs, htk⟩
  · have hus : us = [] := by
      have := hown.1
      rw [hz] at this
      simpa using this
    subst hus
    gi_wp2
    gi_loopw [4] (fun i wr => i = .int .i64 0 ∧ J [] wr) (fun _ _ => 0)
    case atStart => exact ⟨rfl, hJ1⟩
    case round =>
      obtain ⟨rfl, hJs⟩ := hrel
      gi_wp2
      go_end0
      exact ⟨⟨_, rfl⟩, .inl ⟨_, rfl, hJs⟩⟩
  · have HD := Lib.hid (drop_cells htk)
    clear htk hown hcs
    gi_wp2
    gi_loopw [4] (fun i wr => ∃ (k : Nat) (pre : List (Spot us)), k ≤ us.length ∧ i = .int .i64 k ∧ pre.map Subtype.val ++ marksFrom (us.drop k) k = marksFrom us 0 ∧ J pre wr ∧ wr.heap[g]? = some (.cells cur 22 (0, 0)) ∧ W.heap.size ≤ wr.heap.size) (fun i _ => us.length - (intOf i).toNat)
    case atStart => exact ⟨0, [], Nat.zero_le _, rfl, by simp, hJ1, hgb, hb1.size⟩
    case round =>
      obtain ⟨k, pre, hk, rfl, hpre, hJs, hrow, hsz⟩ := hrel
      by_cases hlt : k < us.length
      · have hne : us.drop k ≠ [] := by simp; omega
        have hstep := marksFrom_step (us.drop k) k hne
        have hfl := firstOf_le (us.drop k)
        have HCE := Lib.hid (row_cells hrow k _ (HD.out k))
        have hwf2 : ∀ u ∈ us.drop k, 0 ≤ u ∧ u ≤ 65535 := fun u hu => HWF.out u (List.mem_of_mem_drop hu)
        have hlen2 : (us.drop k).length = us.length - k := by simp
        have hbnd : (firstOf (us.drop k)).2 ≤ us.length - k := by
          rcases hfl.2 with h | h
          · omega
          · exact (hne h).elim
        have hpos := hfl.1
        have hpl : pre.length < (marksFrom us 0).length := by
          rw [← hpre, hstep]
          simp
        have hdd : (us.drop k).drop (firstOf (us.drop k)).2 = us.drop (k + (firstOf (us.drop k)).2) := by rw [List.drop_drop]
        rw [hdd] at hstep
        have H1 := Lib.hid hne
        have H2 := Lib.hid hwf2
        have H3 := Lib.hid hlen2
        have H4 := Lib.hid hpre
        have H5 := Lib.hid hrow
        have H6 := Lib.hid hstep
        clear hne hwf2 hlen2 hpre hrow hstep hfl hdd hgb
        generalize hF : firstOf (us.drop k) = F at *
        obtain ⟨r, m⟩ := F
        simp only at hbnd hpos H6
        have H7 := Lib.hid hF
        clear hF
        have h0 : (0 : Int) ≤ (k : Int) := by omega
        have h1 : (k : Int) < (us.length : Int) := by omega
        gi_wp2_with (gi_at_call 66; refine (callsIn_wide.2 (first_len _ g k _ (us.length - k) (us.drop k) H3.out H1.out (by omega) HCE.out H2.out)).mono ?_; rw [H7.out]; rintro e W3 ⟨rfl, hb3⟩; obtain ⟨fn, tmps, assign, body, hy, hR⟩ := HY.out pre ⟨(k, r), hlt⟩ W3 (HJ.out pre _ W3 none hJs (below_grown hb3) (by rintro r h; cases h)) hpl; dsimp only at hy)
        have H8 := Lib.hid hb3
        clear hb3
        refine hR.mono ?_
        rintro e W4 (⟨rfl, hJ4, hk4⟩ | ⟨rfl, hJx4⟩)
        · have H9 := Lib.hid hJ4
          have H10 := Lib.hid hk4
          clear hJ4 hk4 hy hR hJs
          gi_wp2
          go_roundw
          case rel => exact ⟨k + m, pre ++ [⟨(k, r), hlt⟩], by omega, by go_num, by rw [List.map_append, List.append_assoc, ← H4.out, H6.out]; rfl, H9.out, H10.out.row _ _ _ (((H8.out.block g (Array.getElem?_eq_some_iff.1 H5.out).1)).trans H5.out), Nat.le_trans hsz (Nat.le_trans H8.out.size H10.out.size)⟩
          case measure => simp [intOf]; omega
        · clear hy hR hJs
          gi_wp2
          refine bodyPost_ret (results_none rfl _ _ _) rfl ?_
          exact ⟨⟨_, rfl⟩, .inr ⟨pre ++ [⟨(k, r), hlt⟩], ⟨marksFrom (us.drop (k + m)) (k + m), by rw [List.map_append, List.append_assoc, ← H4.out, H6.out]; rfl⟩, hJx4⟩⟩
      · obtain rfl : us.length = k := by omega
        have hd : us.drop us.length = [] := by simp
        rw [hd] at hpre
        simp [marksFrom] at hpre
        have H4 := Lib.hid hpre
        clear hpre hd
        gi_wp2
        go_end0
        exact ⟨⟨_, rfl⟩, .inl ⟨_, H4.out, hJs⟩⟩


/-- Is it a lone unit's? -/
def badAt (us : List Int) (x : Nat × Int) : Bool := x.2 == 65533 && us[x.1]?.getD 0 != 65533
/-- What a lone unit is. -/
def codeAt (us : List Int) (x : Nat × Int) : Int := if highB (us[x.1]?.getD 0) then 20 else 21
/-- The first lone one. -/
def checkOf (us : List Int) : Int × Int := match (marksFrom us 0).find? (badAt us) with
  | some x => ((x.1 : Int), codeAt us x)
  | none => (0, 0)

theorem check_none {us : List Int} {ys : List (Spot us)} (h : ys.map Subtype.val = marksFrom us 0) (hg : ∀ y ∈ ys, badAt us y.1 = false) : checkOf us = (0, 0) := by
  have : (marksFrom us 0).find? (badAt us) = none := by
    rw [List.find?_eq_none, ← h]
    intro x hx
    obtain ⟨y, hy, rfl⟩ := List.mem_map.1 hx
    simp [hg y hy]
  unfold checkOf
  rw [this]
theorem check_some {us : List Int} {pre : List (Spot us)} {x : Spot us} (h : (pre ++ [x]).map Subtype.val <+: marksFrom us 0) (hg : ∀ y ∈ pre, badAt us y.1 = false) (hb : badAt us x.1 = true) : checkOf us = ((x.1.1 : Int), codeAt us x.1) := by
  obtain ⟨t, ht⟩ := h
  have : (marksFrom us 0).find? (badAt us) = some x.1 := by
    rw [← ht, List.map_append, List.append_assoc, List.find?_append]
    have hn : (pre.map Subtype.val).find? (badAt us) = none := by
      rw [List.find?_eq_none]
      intro z hz
      obtain ⟨y, hy, rfl⟩ := List.mem_map.1 hz
      simp [hg y hy]
    rw [hn]
    simp [hb]
  unfold checkOf
  rw [this]

/-- Between two rounds: nothing lone has come. -/
def ChI (us : List Int) (a : Option Addr) (c : Nat) (w : World) (pre : List (Spot us)) (W : World) : Prop :=
  (Boxed W w.heap.size 31 (.slice a us.length c) ∧ Boxed W (w.heap.size + 1) 3 (.int .i64 0) ∧ Boxed W (w.heap.size + 1 + 1) 40 (.int .i64 0) ∧ ∀ x ∈ pre, badAt us x.1 = false) ∧ Below w.heap.size w W
/-- A round has left: at the first lone one. -/
def ChX (us : List Int) (w : World) (k : Code) (pre : List (Spot us)) (W : World) : Prop :=
  (k = .ret ∧ ∃ pre' x, pre = pre' ++ [x] ∧ (∀ y ∈ pre', badAt us y.1 = false) ∧ badAt us x.1 = true ∧ Boxed W (w.heap.size + 1) 3 (.int .i64 (x.1.1 : Int)) ∧ Boxed W (w.heap.size + 1 + 1) 40 (.int .i64 (codeAt us x.1))) ∧ Below w.heap.size w W
theorem chI_own (us : List Int) (a : Option Addr) (c : Nat) (w : World) (B : Nat) (h : w.heap.size ≤ B) : OwnFrom B (ChI us a c w) :=
  OwnFrom.and (Own.from (fun s A B row hs hg hr => ⟨boxed_own _ _ (fun _ : Unit => _) () A B row hs.1 hg hr, boxed_own _ _ (fun _ : Unit => _) () A B row hs.2.1 hg hr, boxed_own _ _ (fun _ : Unit => _) () A B row hs.2.2.1 hg hr, hs.2.2.2⟩) _) (ownFrom_below (Nat.le_refl _) h)
theorem chX_own (us : List Int) (w : World) (B : Nat) (h : w.heap.size ≤ B) (k : Code) : OwnFrom B (ChX us w k) :=
  OwnFrom.and (Own.from (fun s A B row hs hg hr => by obtain ⟨h1, p, x, h2, h3, h4, h5, h6⟩ := hs; exact ⟨h1, p, x, h2, h3, h4, boxed_own _ _ (fun _ : Unit => _) () A B row h5 hg hr, boxed_own _ _ (fun _ : Unit => _) () A B row h6 hg hr⟩) _) (ownFrom_below (Nat.le_refl _) h)

theorem keepsT_set {W : World} {B e t : TypeId} {v : Value} (h : Boxed W B t v) (ht : t ≠ e) (u : Value) : KeepsT e W (W.setCell ⟨B, 0, none⟩ u) := (KeepsT.refl e W).setCell h ht u

set_option maxRecDepth 100000 in
set_option maxHeartbeats 4000000 in
theorem check_in (w : World) (a : Option Addr) (c : Nat) (us : List Int) (hn : us.length ≤ 17592186044416) (hr : Cells w a (us.map (Value.int .u16))) (hwf : ∀ u ∈ us, 0 ≤ u ∧ u ≤ 65535) :
    CallsIn Fence.wide 5 Try.prog 31 #[.slice a us.length c] w fun e W' => e = .returned (.tuple #[.int .i64 (checkOf us).1, .int .i64 (checkOf us).2]) ∧ Below w.heap.size w W' := by
  have hf48 : Fence.wide.fn 48 := trivial
  have hf51 : Fence.wide.fn 51 := trivial
  refine callsIn_of_wp_marks Try.func31 rfl trivial ?_ rfl
  simp only [Try.ntmps31, List.size_toArray, List.length_cons, List.length_nil, Nat.reduceAdd, Nat.reduceSub, Array.replicate_succ, Array.replicate_zero, List.push_toArray, List.append_toArray, List.nil_append, List.cons_append]
  gi_wp2_with (gi_at_call 48; refine (callsIn_wide.2 (each_any _ _ _ _)).mono ?_; rintro e w' ⟨rfl, rfl⟩)
  have b0 := Boxed.new w 31 (.slice a us.length c)
  have b1 := Boxed.new (w.alloc (.cells #[.slice a us.length c] 31)) 3 (.int .i64 0)
  have b2 := Boxed.new ((w.alloc (.cells #[.slice a us.length c] 31)).alloc (.cells #[.int .i64 0] 3)) 40 (.int .i64 0)
  have b3 := Boxed.new (((w.alloc (.cells #[.slice a us.length c] 31)).alloc (.cells #[.int .i64 0] 3)).alloc (.cells #[.int .i64 0] 40)) 31 (.slice a us.length c)
  simp only [World.size_alloc] at b1 b2 b3
  have hB0 : Below w.heap.size w ((((w.alloc (.cells #[.slice a us.length c] 31)).alloc (.cells #[.int .i64 0] 3)).alloc (.cells #[.int .i64 0] 40)).alloc (.cells #[.slice a us.length c] 31)) := ((((Below.refl _ w).alloc (Nat.le_refl _) _).alloc (by simp) _).alloc (by simp; omega) _).alloc (by simp; omega) _
  refine wpIn_rangeFunc_ownG rfl (by omega) (gf := 64) (lb := #[.pointer (some ⟨w.heap.size + 1 + 1 + 1, 0, none⟩)]) rfl trivial (enters_of Try.func64 (by kernel_rfl) rfl)
    (each_spots (5 - 1) (by omega) (w.heap.size + 1 + 1 + 1) a c us _ (by omega) (by simp) b3.cell (hr.below hB0) hwf) (fun h k => h.trans k) keepsT_b (Below.refl _ _) (fun _ => rfl)
    (ChI us a c w) (ChX us w) (chI_own us a c w _ (by simp; omega)) (chX_own us w _ (by simp; omega))
    ⟨⟨((b0.alloc _).alloc _).alloc _, (b1.alloc _).alloc _, b2.alloc _, by simp⟩, hB0⟩
    (fun x => { tmps := #[.slice a us.length c, .pointer (some ⟨w.heap.size, 0, none⟩), .pointer (some ⟨w.heap.size + 1, 0, none⟩), .pointer (some ⟨w.heap.size + 1 + 1, 0, none⟩), .int .i64 (x.1.1 : Int), .int .i32 x.1.2, .slice a us.length c, .func (.func 64) #[] #[.pointer (some ⟨w.heap.size + 1 + 1 + 1, 0, none⟩)], .int .i64 (x.1.1 : Int), .int .i32 x.1.2, undef, undef, undef, undef, undef, undef, undef, undef, undef, undef, undef, undef, undef, undef, undef, undef, undef, undef], defers := [] }) ?assign ?body ?done ?stop
  case assign =>
    intro l x W K hK
    gi_wp2
    exact hK
  case body =>
    rintro l pre ⟨⟨k, r⟩, hk⟩ W ⟨⟨v0, v1, v2, hg⟩, hB⟩ hlt
    simp only at hk
    obtain ⟨p1, o1, u, rfl, huk, hc1⟩ := (hr.below hB).at hk
    have hc0 := v0.cell
    have hbad : badAt us (k, r) = (r == 65533 && u != 65533) := by simp [badAt, huk]
    have hcode : codeAt us (k, r) = if highB u then 20 else 21 := by simp [codeAt, huk]
    obtain ⟨hu0, hu1⟩ := hwf u (List.mem_of_getElem? huk)
    have hi0 : (0 : Int) ≤ (k : Int) := by omega
    have hi1 : (k : Int) < (us.length : Int) := by omega
    have HG := Lib.hid hg
    have HBB := Lib.hid hB
    have HBAD := Lib.hid hbad
    have HCODE := Lib.hid hcode
    have HV1 := Lib.hid v1
    have HV2 := Lib.hid v2
    clear hr hwf hB0 b0 b1 b2 b3 hlt hg hB hbad hcode huk v1 v2
    have on : badAt us (k, r) = false → ∀ B, KeepsFrom B W W ∧ KeepsT 22 W W ∧ ChI us (some ⟨p1, o1, none⟩) c w (pre ++ [(⟨(k, r), hk⟩ : Spot us)]) W := fun h B =>
      ⟨KeepsFrom.refl _ _, KeepsT.refl _ _, ⟨v0, HV1.out, HV2.out, fun x hx => (List.mem_append.1 hx).elim (HG.out x) (fun e => by simp at e; subst e; exact h)⟩, HBB.out⟩
    have out : ∀ q : Int, badAt us (k, r) = true → codeAt us (k, r) = q → ∀ B, KeepsFrom B W ((W.setCell ⟨w.heap.size + 1, 0, none⟩ (.int .i64 (k : Int))).setCell ⟨w.heap.size + 1 + 1, 0, none⟩ (.int .i64 q)) ∧ ChX us w .ret (pre ++ [(⟨(k, r), hk⟩ : Spot us)]) ((W.setCell ⟨w.heap.size + 1, 0, none⟩ (.int .i64 (k : Int))).setCell ⟨w.heap.size + 1 + 1, 0, none⟩ (.int .i64 q)) := fun q h h2 B =>
      ⟨((KeepsOthers.setCell _ _ _).trans (KeepsOthers.setCell _ _ _)).from _, ⟨rfl, pre, _, rfl, HG.out, h, (HV1.out.set _).other (by omega) _, by rw [h2]; exact (HV2.out.other (by omega) _).set _⟩, (HBB.out.setCell (p := ⟨w.heap.size + 1, 0, none⟩) (by simp) _).setCell (p := ⟨w.heap.size + 1 + 1, 0, none⟩) (by simp; omega) _⟩
    have ON := Lib.hid on
    have OUT := Lib.hid out
    have hc2 := HV1.out.cell
    have hf2 := HV1.out.frozen
    have hc3 := (HV2.out.other (B' := w.heap.size + 1) (by omega) (.int .i64 (k : Int))).cell
    have hf3 := (HV2.out.other (B' := w.heap.size + 1) (by omega) (.int .i64 (k : Int))).frozen
    clear on out v0
    by_cases hr1 : r = 65533
    · subst hr1
      by_cases hu : u = 65533
      · subst hu
        have HO := Lib.hid (ON.out (by rw [HBAD.out]; rfl))
        clear hc2 hf2 hc3 hf3
        gi_wp2
        exact HO.out _
      · have hu2 : (u == 65533) = false := by simp [hu]
        have HB2 := Lib.hid (show badAt us (k, 65533) = true by rw [HBAD.out]; simp [hu])
        clear hu
        cases hh : highB u
        · have HO := Lib.hid (OUT.out 21 HB2.out (by rw [HCODE.out, hh]; rfl))
          gi_wp2_with (gi_at_call 51; refine (CallsIn.inRound l (callsIn_wide.2 (high_any _ _))).mono ?_; rw [hh]; rintro e w' ⟨rfl, rfl⟩)
          exact HO.out _
        · have HO := Lib.hid (OUT.out 20 HB2.out (by rw [HCODE.out, hh]; rfl))
          gi_wp2_with (gi_at_call 51; refine (CallsIn.inRound l (callsIn_wide.2 (high_any _ _))).mono ?_; rw [hh]; rintro e w' ⟨rfl, rfl⟩)
          exact HO.out _
    · have hr2 : (r != 65533) = true := by simp [hr1]
      have HO := Lib.hid (ON.out (by rw [HBAD.out]; simp [hr1]))
      clear hr1 hc2 hf2 hc3 hf3
      gi_wp2
      exact HO.out _
  case done =>
    rintro D ys W hD hall ⟨⟨v0, v1, v2, hg⟩, hB⟩ hK
    have hc2 := v1.cell
    have hf2 := v1.frozen
    have hc3 := (v2.other (B' := w.heap.size + 1) (by omega) (.int .i64 0)).cell
    have hf3 := (v2.other (B' := w.heap.size + 1) (by omega) (.int .i64 0)).frozen
    have HC := Lib.hid (check_none hall hg)
    clear hr hwf hB0 b0 b1 b2 b3 hall hg
    have x1 := (v1.set (.int .i64 0)).other (B' := w.heap.size + 1 + 1) (by omega) (.int .i64 0)
    have x2 := (v2.other (B' := w.heap.size + 1) (by omega) (.int .i64 0)).set (.int .i64 0)
    have hBW := (hB.setCell (p := ⟨w.heap.size + 1, 0, none⟩) (by simp) (.int .i64 0)).setCell (p := ⟨w.heap.size + 1 + 1, 0, none⟩) (by simp; omega) (.int .i64 0)
    have X1 := Lib.hid x1
    have X2 := Lib.hid x2
    have HBW := Lib.hid hBW
    clear x1 x2 hBW
    gi_wp2
    have hK' := ((KeepsOthers.setCell W ⟨w.heap.size + 1, 0, none⟩ (.int .i64 0)).trans (KeepsOthers.setCell _ ⟨w.heap.size + 1 + 1, 0, none⟩ (.int .i64 0))).same D _ hK rfl
    refine ⟨by simp, .inl ⟨_, _, rfl, run_takeDeferred hK', ?_⟩⟩
    have hk5 := cell_kept X1.out.cell (grownBy_putObj' _ D (.deferred none)) (fun r e => by cases e; exact ⟨_, hK', rfl⟩)
    have hb5 := cell_kept X2.out.cell (grownBy_putObj' _ D (.deferred none)) (fun r e => by cases e; exact ⟨_, hK', rfl⟩)
    refine ⟨.tuple #[.int .i64 0, .int .i64 0], ?_, by rw [HC.out], HBW.out.trans (belowK_b (w := w) (Nat.le_refl _) _ D _ _ (by simp at hD; omega) hK' rfl rfl)⟩
    simp [results, Try.f31, go_sem, hk5, hb5]
  case stop =>
    rintro D k pre W hD hpre ⟨⟨rfl, pre', x, rfl, hg, hb, v1, v2⟩, hB⟩ hK
    gi_wp2
    refine ⟨by simp, .inl ⟨_, _, rfl, run_takeDeferred hK, ?_⟩⟩
    have hk5 := cell_kept v1.cell (grownBy_putObj' _ D (.deferred none)) (fun r e => by cases e; exact ⟨_, hK, rfl⟩)
    have hb5 := cell_kept v2.cell (grownBy_putObj' _ D (.deferred none)) (fun r e => by cases e; exact ⟨_, hK, rfl⟩)
    refine ⟨.tuple #[.int .i64 (x.1.1 : Int), .int .i64 (codeAt us x.1)], ?_, by rw [check_some hpre hg hb], hB.trans (belowK_b (w := w) (Nat.le_refl _) W D _ _ (by simp at hD; omega) hK rfl rfl)⟩
    simp [results, Try.f31, go_sem, hk5, hb5]

theorem check_any (w : World) (a : Option Addr) (c : Nat) (us : List Int) (hn : us.length ≤ 17592186044416) (hr : Cells w a (us.map (Value.int .u16))) (hwf : ∀ u ∈ us, 0 ≤ u ∧ u ≤ 65535) :
    Calls Try.prog 31 #[.slice a us.length c] w fun e w' => e = .returned (.tuple #[.int .i64 (checkOf us).1, .int .i64 (checkOf us).2]) ∧ Below w.heap.size w w' :=
  callsIn_wide.1 (check_in w a c us hn hr hwf)

end Go.Proofs.Ytmdcbpdmkonmlaa
