/-
  The iterator over what bytes stand for: its contract.
-/
import Derived.Test.YthkehgmeaedflaaDoorSpot
import Derived.RangeFuncNested
import Derived.RangeFuncBound
import Derived.RangeFuncCalls
import Derived.RangeFuncLeaves
import Derived.RangeFuncBox
import Derived.Shelf.Abstract
import Derived.Shelf.RegionOpen
import Derived.OwnWalkIn
import Derived.TacticsInMore
import Derived.LoopNIn
import Derived.LoopIn
import Derived.Maps.AppendAt
namespace Go.Proofs.YthkehgmeaedflaaDoor
open Go.RowKit Go.Shelf

attribute [local go_sem] Oper.semAt_some

/-- What a round keeps: every walk's object, one cell, the library's two tables. -/
structure KeepsS (b : Nat) (W W' : World) : Prop where
  walks : KeepsWalks W W'
  box : ∀ v, W.cell? ⟨b, 0, none⟩ = some v → W'.cell? ⟨b, 0, none⟩ = some v
  tabs : Lib.Utf8Tabs 0 1 W → Lib.Utf8Tabs 0 1 W'

theorem KeepsS.refl (b : Nat) (W : World) : KeepsS b W W := ⟨KeepsWalks.refl W, fun _ h => h, id⟩
theorem KeepsS.trans {b : Nat} {A B C : World} (h : KeepsS b A B) (k : KeepsS b B C) : KeepsS b A C := ⟨h.walks.trans k.walks, fun v hv => k.box v (h.box v hv), fun t => k.tabs (h.tabs t)⟩
theorem KeepsS.below {b : Nat} {A B : World} (k : Below A.heap.size A B) : KeepsS b A B :=
  ⟨⟨k.size, fun i _ hi _ => (k.block i (Array.getElem?_eq_some_iff.1 hi).1).trans hi⟩, fun _ hv => (k.cell (World.block_lt_of_cell? A _ hv)).trans hv, fun t => tabs_below t k⟩
theorem tabs_at {w : World} (h : Lib.Utf8Tabs 0 1 w) : 1 < w.heap.size := World.block_lt_of_cell? w _ (h.2 0 (by decide)).1
/-- A turn of one block that is neither of the tables'. -/
theorem tabs_grown {A B : World} {row : Option Nat} (h : Lib.Utf8Tabs 0 1 A) (k : A.grownBy B row) (hr : ∀ j, row = some j → 2 ≤ j) : Lib.Utf8Tabs 0 1 B := by
  have h1 := tabs_at h
  have e : ∀ b o, b < 2 → B.cell? ⟨b, o, none⟩ = A.cell? ⟨b, o, none⟩ := fun b o hb => World.cell?_of_block (k.block b (by omega) (fun e => by have := hr b e.symm; omega))
  exact ⟨fun c hc => (e 0 c (by omega)).trans (h.1 c hc), fun i hi => ⟨(e 1 _ (by omega)).trans (h.2 i hi).1, (e 1 _ (by omega)).trans (h.2 i hi).2⟩⟩
theorem KeepsS.grown {b : Nat} {A B : World} {row : Option Nat} (k : A.grownBy B row) (hr : ∀ j, row = some j → 2 ≤ j ∧ j ≠ b ∧ ∀ o : Obj, A.heap[j]? = some o → o.isWalk = false) : KeepsS b A B := by
  refine ⟨⟨k.size, fun i o hi hw => ?_⟩, fun v hv => ?_, fun t => tabs_grown t k (fun j e => (hr j e).1)⟩
  · refine (k.block i (Array.getElem?_eq_some_iff.1 hi).1 (fun e => ?_)).trans hi
    have := (hr i e.symm).2.2 o hi
    rw [hw] at this
    cases this
  · exact (World.cell?_of_block (k.block b (World.block_lt_of_cell? A _ hv) (fun e => (hr b e.symm).2.1 rfl))).trans hv
theorem KeepsS.setCell {b k : Nat} {A B : World} {t : TypeId} {v : Value} (h : KeepsS b A B) (hb : Boxed B k t v) (h2 : 2 ≤ k) (hne : k ≠ b) (u : Value) : KeepsS b A (B.setCell ⟨k, 0, none⟩ u) :=
  h.trans (KeepsS.grown (grownBy_setCell' B k u) (fun j e => by
    cases e
    refine ⟨h2, hne, fun o ho => ?_⟩
    have := (show B.heap[k]? = _ from hb).symm.trans ho
    cases this
    rfl))
theorem KeepsS.alloc {b : Nat} {A B : World} (h : KeepsS b A B) (o : Obj) : KeepsS b A (B.alloc o) := h.trans (KeepsS.below ((Below.refl _ _).alloc (Nat.le_refl _) o))
theorem keepsS_b {w : World} (b : Nat) (hb : b < w.heap.size) (h2 : 2 ≤ w.heap.size) (W : World) (l : Nat) (o o' : Obj) (hl : w.heap.size ≤ l) (h : W.heap[l]? = some o) (_ : o.isCells = false) (hw : o.isWalk = false) : KeepsS b W (W.putObj l o') :=
  KeepsS.grown (grownBy_putObj' W l o') fun j e => by
    cases e
    exact ⟨by omega, by omega, fun o2 ho => by rw [h] at ho; cases ho; exact hw⟩

/-- Where the characters begin, from a byte on. -/
def placesFrom (s : ByteArray) (i : Nat) : List Nat := (spotsFrom s i).map Prod.fst
theorem placesFrom_more (s : ByteArray) (i : Nat) (h : i < s.size) : placesFrom s i = i :: placesFrom s (i + (Utf8.decode s i).2) := by
  unfold placesFrom
  rw [spotsFrom_more s i h]
  rfl
theorem placesFrom_end (s : ByteArray) (i : Nat) (h : ¬ i < s.size) : placesFrom s i = [] := by
  unfold placesFrom
  rw [spotsFrom_end s i h]
  rfl

/-- A character, as it is told. -/
def spotE (s : ByteArray) (x : Nat) : Value := .agg (spotV x (Utf8.decode s x).2 (Utf8.decode s x).1 (codeOf s x))

theorem below_grown {w w' : World} (h : Below w.heap.size w w') : w.grownBy w' none := ⟨h.os, h.tape, h.output, h.size, fun k hk _ => h.block k hk⟩
theorem iterAt_grown (w : World) (k : Nat) (s : ByteArray) (pos : Nat) : w.grownBy (w.iterAt k s pos) (some k) :=
  ⟨rfl, rfl, rfl, by rw [Lib.iterAt_size]; exact Nat.le_refl _, fun i _ hne => Lib.iterAt_other w k i s pos (fun e => hne (by rw [e]))⟩

theorem spot_e (w : World) (s : ByteArray) (i : Nat) (h : i < s.size) (hs : s.size ≤ 140737488355328) (hT : Lib.Utf8Tabs 0 1 w) :
    Calls Tryd.prog 57 #[.string s, .int .i64 i] w fun e w' => e = .returned (spotE s i) ∧ Below w.heap.size w w' := spot_any w s i h hs hT

set_option maxRecDepth 100000 in
set_option maxHeartbeats 4000000 in
/-- **The closure of Spots: it tells each character.** -/
theorem spots_stops (n : Nat) (hn1 : 1 ≤ n) (Bu : Nat) (s : ByteArray) (w : World) (hs : s.size ≤ 140737488355328) (hB : Bu < w.heap.size) (hc : w.cell? ⟨Bu, 0, none⟩ = some (.string s)) (hT : Lib.Utf8Tabs 0 1 w) :
    SeqStopsK Fence.wide n Tryd.prog 56 #[.pointer (some ⟨Bu, 0, none⟩)] (fun x : Nat => #[spotE s x]) (KeepsS Bu) (fun ys => ys = placesFrom s 0) (fun pre => pre <+: placesFrom s 0) (placesFrom s 0).length w := fun l J Jx W hW hJ hJx hY h0 => by
  have hf57 : Fence.wide.fn 57 := trivial
  have hcW : W.cell? ⟨Bu, 0, none⟩ = some (.string s) := (hW.cell (p := ⟨Bu, 0, none⟩) hB).trans hc
  have HT := Lib.hid (tabs_below hT hW)
  have HJ := Lib.hid hJ
  have HY := Lib.hid hY
  have hBW : Bu < W.heap.size := Nat.lt_of_lt_of_le hB hW.size
  have h2W := tabs_at HT.out
  have hJ1 := hJ [] W (W.alloc (.stringIter s 0)) none h0 (World.grownBy_alloc _ _ none) (by rintro r h; cases h)
  have HJ1 := Lib.hid hJ1
  clear hJ hY hT h0 hJ1
  refine callsIn_of_wp Tryd.func56 rfl trivial ?_ rfl
  simp only [Tryd.ntmps56, List.size_toArray, List.length_cons, List.length_nil, Nat.reduceAdd, Nat.reduceSub, Array.replicate_succ, Array.replicate_zero, List.push_toArray, List.append_toArray, List.nil_append, List.cons_append]
  gi_wp2
  gi_loopw [3] (fun _ wr => ∃ (pos : Nat) (pre : List Nat), pre ++ placesFrom s pos = placesFrom s 0 ∧ J pre wr ∧ wr.heap[W.heap.size]? = some (.stringIter s pos) ∧ wr.cell? ⟨Bu, 0, none⟩ = some (.string s) ∧ Lib.Utf8Tabs 0 1 wr ∧ W.heap.size ≤ wr.heap.size) (fun _ wr => s.size - wr.iterPos W.heap.size)
  case atStart => exact ⟨0, [], rfl, HJ1.out, World.iter_heap W s 0, (World.cell?_of_block (Below.heap_alloc W _ Bu hBW)).trans hcW, tabs_below HT.out ((Below.refl _ _).alloc (Nat.le_refl _) _), by simp [World.iter]⟩
  case round =>
    obtain ⟨pos, pre, hpre, hJs, hit, hbx, htb, hsz⟩ := hrel
    by_cases hlt : pos < s.size
    · have hnx := fun ty => Lib.run_next_any_at (P := Tryd.prog) wr W.heap.size s pos ty hit hlt
      have hmore := placesFrom_more s pos hlt
      have hpl : pre.length < (placesFrom s 0).length := by
        rw [← hpre, hmore]
        simp
      have hpos : wr.iterPos W.heap.size = pos := by simp [World.iterPos, hit]
      have hit1 := Lib.iterAt_heap wr W.heap.size s pos (pos + (Utf8.decode s pos).2) hit
      have hg1 := iterAt_grown wr W.heap.size s (pos + (Utf8.decode s pos).2)
      have hJ1 := HJ.out pre wr _ (some W.heap.size) hJs hg1 (by rintro r h; cases h; exact ⟨Nat.le_refl _, _, hit, rfl⟩)
      have hbx1 : (wr.iterAt W.heap.size s (pos + (Utf8.decode s pos).2)).cell? ⟨Bu, 0, none⟩ = some (.string s) := (World.cell?_of_block (Lib.iterAt_other wr W.heap.size Bu s _ (by omega))).trans hbx
      have htb1 := tabs_grown htb hg1 (by rintro j h; cases h; omega)
      have hsz1 : W.heap.size ≤ (wr.iterAt W.heap.size s (pos + (Utf8.decode s pos).2)).heap.size := by rw [Lib.iterAt_size]; exact hsz
      have hwd := decode_width s pos
      have hfit := decode_fits s pos hlt
      have hsp := fun W hT => spot_e W s pos hlt hs hT
      have hnx2 : ∀ ty, (Instr.next (.pointer (some ⟨W.heap.size, 0, none⟩)) true ty).run Tryd.prog wr = .ok (.tuple #[.bool true, .int .i64 pos, .int .i32 (Utf8.decode s pos).1]) (wr.iterAt W.heap.size s (pos + (Utf8.decode s pos).2)) := hnx
      generalize wr.iterAt W.heap.size s (pos + (Utf8.decode s pos).2) = W1 at *
      have H1 := Lib.hid hpre
      have H2 := Lib.hid hmore
      have H3 := Lib.hid hpl
      have H4 := Lib.hid hpos
      have H5 := Lib.hid hit1
      have H6 := Lib.hid hJ1
      have H7 := Lib.hid hbx1
      have H8 := Lib.hid htb1
      have HSP := Lib.hid hsp
      have HSZ := Lib.hid hsz1
      have hi0 : (0 : Int) ≤ (pos : Int) := by omega
      clear hpre hJs hit hbx htb hsz hnx hmore hpl hpos hit1 hg1 hJ1 htb1 hsp hsz1
      gi_wp2_with (gi_at_call 57; refine (callsIn_wide.2 (HSP.out _ H8.out)).mono ?_; rintro e W3 ⟨rfl, hb3⟩; obtain ⟨fn, tmps, assign, body, hy, hR⟩ := HY.out pre pos W3 (HJ.out pre _ W3 none H6.out (below_grown hb3) (by rintro r h; cases h)) H3.out)
      have H9 := Lib.hid hb3
      clear hb3
      refine hR.mono ?_
      rintro e W4 (⟨rfl, hJ4, hk4⟩ | ⟨rfl, hJx4⟩)
      · have H10 := Lib.hid hJ4
        have H11 := Lib.hid hk4
        clear hJ4 hk4 hy hR hnx2 hbx1
        gi_wp2
        go_roundw
        case rel => exact ⟨pos + (Utf8.decode s pos).2, pre ++ [pos], by rw [List.append_assoc, ← H1.out, H2.out]; rfl, H10.out, H11.out.walks.same _ _ ((H9.out.block _ (Array.getElem?_eq_some_iff.1 H5.out).1).trans H5.out) rfl, H11.out.box _ ((KeepsS.below H9.out).box _ H7.out), H11.out.tabs (tabs_below H8.out H9.out), Nat.le_trans HSZ.out (Nat.le_trans H9.out.size H11.out.walks.size)⟩
        case measure =>
          have h1 : W4.iterPos W.heap.size = pos + (Utf8.decode s pos).2 := by
            have := H11.out.walks.same _ _ ((H9.out.block _ (Array.getElem?_eq_some_iff.1 H5.out).1).trans H5.out) rfl
            simp [World.iterPos, this]
          rw [h1, H4.out]
          omega
      · clear hy hR hnx2 hbx1
        gi_wp2
        refine bodyPost_ret (results_none rfl _ _ _) rfl ?_
        exact ⟨⟨_, rfl⟩, .inr ⟨pre ++ [pos], ⟨placesFrom s (pos + (Utf8.decode s pos).2), by rw [List.append_assoc, ← H1.out, H2.out]; rfl⟩, hJx4⟩⟩
    · have hnx := fun ty => Lib.run_next_end_at (P := Tryd.prog) wr W.heap.size s pos ty hit hlt
      rw [placesFrom_end s pos hlt, List.append_nil] at hpre
      have H1 := Lib.hid hpre
      clear hpre hbx
      gi_wp2
      go_end0
      exact ⟨⟨_, rfl⟩, .inl ⟨_, H1.out, hJs⟩⟩

end Go.Proofs.YthkehgmeaedflaaDoor
