/-
  A text's places: New, none, Byte; walked.
-/
import Derived.Test.YthkehgmeaedflaaDoorCheck
import Derived.Deep.Cut
namespace Go.Proofs.YthkehgmeaedflaaDoor
open Go.RowKit

theorem info3 : (Tryd.prog.info? 3).map (fun i => (i.zero, i.size, i.bytes)) = some (some (.int .i64 0), 1, 8) := by kernel_rfl
theorem ints_one (k : IntKind) (l : List Int) : ∀ u ∈ l.map (Value.int k), u.oneCell' = true := by
  intro u hu
  obtain ⟨_, _, rfl⟩ := List.mem_map.1 hu
  rfl
/-- A place, as a value. -/
def posV (x : Nat) : Value := .int .i64 (x : Int)

/-- A text's places lie at a block. -/
def PlacesAt (W : World) (B : Nat) (s : ByteArray) : Prop :=
  ∃ g n c r m d, W.heap[B]? = some (.cells #[.string s, .slice (some ⟨g, 0, none⟩) n c, .slice r m d] 94 (0, 0)) ∧ n = (placesFrom s 0).length + 1 ∧ n ≤ c ∧ Cells W (some ⟨g, 0, none⟩) ((placesFrom s 0 ++ [s.size]).map posV) ∧ m = (textRunes s).length ∧ Cells W r ((textRunes s).map (Value.int .i32))

theorem PlacesAt.below {W W' : World} {B : Nat} {s : ByteArray} (h : PlacesAt W B s) (hb : Below W.heap.size W W') : PlacesAt W' B s := by
  obtain ⟨g, n, c, r, m, d, h1, h2, h3, h4, h5, h6⟩ := h
  exact ⟨g, n, c, r, m, d, (hb.block B (Array.getElem?_eq_some_iff.1 h1).1).trans h1, h2, h3, h4.below hb, h5, h6.below hb⟩

theorem places_le (s : ByteArray) : (placesFrom s 0).length ≤ s.size := by
  unfold placesFrom
  rw [List.length_map]
  exact spotsN_le s s.size 0
theorem places_runes (s : ByteArray) : (textRunes s).length = (placesFrom s 0).length := by simp [textRunes, placesFrom]

/-- The struct, while it is made. -/
def St (W : World) (B : Nat) (s : ByteArray) (a : Option Addr) (n c : Nat) (r : Option Addr) (m d : Nat) : Prop := W.heap[B]? = some (.cells #[.string s, .slice a n c, .slice r m d] 94 (0, 0))
theorem st_cell {W : World} {B : Nat} {s : ByteArray} {a r : Option Addr} {n c m d : Nat} (h : St W B s a n c r m d) : W.cell? ⟨B, 1, none⟩ = some (.slice a n c) := by simp [World.cell?, show W.heap[B]? = _ from h]
theorem st_frozen {W : World} {B : Nat} {s : ByteArray} {a r : Option Addr} {n c m d : Nat} (h : St W B s a n c r m d) : W.frozen? ⟨B, 1, none⟩ = false := by simp [World.frozen?, show W.heap[B]? = _ from h]
theorem st_set {W : World} {B : Nat} {s : ByteArray} {a r : Option Addr} {n c m d : Nat} (h : St W B s a n c r m d) {a' : Option Addr} {n' c' : Nat} (v : Value) (hv : v = .slice a' n' c' := by rfl) : St (W.setCell ⟨B, 1, none⟩ v) B s a' n' c' r m d := by
  subst hv
  exact heap_set1 1 _ h
theorem own_ne {W : World} {B n c : Nat} {a : Option Addr} {xs : List Value} (h : Own W (B + 2) 1 a n c xs) {g : Nat} (hg : a = some ⟨g, 0, none⟩) : g ≠ B := by
  rcases h.row with ⟨h0, _⟩ | ⟨g', ha, h1, _⟩
  · rw [h0] at hg; cases hg
  · rw [ha] at hg
    simp at hg
    omega
theorem own_iterAt {w : World} {B size n c : Nat} {a : Option Addr} {xs : List Value} (h : Own w B size a n c xs) (k : Nat) (s : ByteArray) (pos : Nat) (hk : k < B) : Own (w.iterAt k s pos) B size a n c xs :=
  h.same (by rw [Lib.iterAt_size]; exact Nat.le_refl _) fun g hg => by
    rcases h.row with ⟨h0, _⟩ | ⟨g', ha, h1, _⟩
    · rw [h0] at hg; cases hg
    · rw [ha] at hg
      simp at hg
      subst hg
      exact Lib.iterAt_other w k g' s pos (by omega)
/-- What lies outside a slice's own block an append leaves, where it lies below the block's bound. -/
theorem apped_block {W w4 : World} {B k n c : Nat} {a a4 : Option Addr} {xs : List Value} {o : Obj} (h : Own W B 1 a n c xs) (hk : k < W.heap.size) (hkB : k < B) (hap : Apped (W.alloc o) w4 a a4) : w4.heap[k]? = W.heap[k]? :=
  (hap.grown.block k (by simp; omega) (fun e => by
    rcases h.row with ⟨h0, _⟩ | ⟨g, ha, h1, _⟩
    · rw [h0] at e; cases e
    · rw [ha] at e
      simp [blockOf] at e
      omega)).trans (Below.heap_alloc _ _ _ hk)
theorem st_apped {W w4 : World} {B n c n0 c0 m d : Nat} {s : ByteArray} {a a4 a0 r : Option Addr} {xs : List Value} {o : Obj} (h : Own W (B + 2) 1 a n c xs) (hst : St W B s a0 n0 c0 r m d) (hap : Apped (W.alloc o) w4 a a4) : St w4 B s a0 n0 c0 r m d :=
  (apped_block h (Array.getElem?_eq_some_iff.1 hst).1 (by omega) hap).trans hst
theorem it_apped {W w4 : World} {B n c pos : Nat} {s : ByteArray} {a a4 : Option Addr} {xs : List Value} {o : Obj} (h : Own W (B + 2) 1 a n c xs) (hit : W.heap[B + 1]? = some (.stringIter s pos)) (hap : Apped (W.alloc o) w4 a a4) : w4.heap[B + 1]? = some (.stringIter s pos) :=
  (apped_block h (Array.getElem?_eq_some_iff.1 hit).1 (by omega) hap).trans hit

set_option maxRecDepth 20000 in
set_option maxHeartbeats 4000000 in
theorem new_any (w : World) (s : ByteArray) (hs : s.size ≤ 8796093022208) :
    Calls Tryd.prog 42 #[.string s] w fun e w' => ∃ B, e = .returned (.pointer (some ⟨B, 0, none⟩)) ∧ w.heap.size ≤ B ∧ PlacesAt w' B s ∧ Below w.heap.size w w' := by
  obtain ⟨i0, hi, hz0, hz1, hz2⟩ := info_parts info3
  go_enter Tryd.func42, Tryd.ntmps42
  go_wp2_with (with_reducible refine wpList_runes rfl _ 9 26 21 rfl Tryd.underlying9 Tryd.underlying26 Tryd.underlying21 s rfl (by omega) ?_; intro g1 c1 w1 hown1 hb1; have HO1 := Lib.hid hown1; have HB1 := Lib.hid hb1; clear hown1 hb1)
  obtain ⟨B, hB⟩ : ∃ B, B = w1.heap.size := ⟨_, rfl⟩
  have hst0 : St ((w1.alloc (.cells #[.string s, .slice none 0 0, .slice (some ⟨g1, 0, none⟩) (textRunes s).length c1] 94)).iter s 0) w1.heap.size s none 0 0 (some ⟨g1, 0, none⟩) (textRunes s).length c1 :=
    (Below.heap_alloc _ _ _ (by simp)).trans (World.alloc_heap_new w1 _)
  have hit0 : ((w1.alloc (.cells #[.string s, .slice none 0 0, .slice (some ⟨g1, 0, none⟩) (textRunes s).length c1] 94)).iter s 0).heap[w1.heap.size + 1]? = some (.stringIter s 0) := by
    have := World.iter_heap (w1.alloc (.cells #[.string s, .slice none 0 0, .slice (some ⟨g1, 0, none⟩) (textRunes s).length c1] 94)) s 0
    rwa [World.size_alloc] at this
  have hbl0 : Below w1.heap.size w1 ((w1.alloc (.cells #[.string s, .slice none 0 0, .slice (some ⟨g1, 0, none⟩) (textRunes s).length c1] 94)).iter s 0) := ((Below.refl _ _).alloc (Nat.le_refl _) _).alloc (by simp) _
  rw [← hB] at hst0 hit0 hbl0 ⊢
  have HB := Lib.hid hB
  have HST0 := Lib.hid hst0
  have HIT0 := Lib.hid hit0
  have HBL0 := Lib.hid hbl0
  clear hB hst0 hit0 hbl0
  have hpl := places_le s
  go_loopw [4] (fun _ wr => ∃ (pos : Nat) (pre : List Nat) (a : Option Addr) (n c : Nat), pre ++ placesFrom s pos = placesFrom s 0 ∧ St wr B s a n c (some ⟨g1, 0, none⟩) (textRunes s).length c1 ∧ Own wr (B + 2) 1 a n c (pre.map posV) ∧ wr.heap[B + 1]? = some (.stringIter s pos) ∧ Below B w1 wr) (fun _ wr => s.size - wr.iterPos (B + 1))
  case atStart => exact ⟨0, [], none, 0, 0, rfl, HST0.out, Own.nil _ _ _, HIT0.out, HBL0.out⟩
  case round =>
    obtain ⟨pos, pre, a, n, c, hpre, hst, hown, hit, hbl⟩ := hrel
    have hn : n = pre.length := by have := hown.len; simpa using this.symm
    have hsz : B + 1 < wr.heap.size := (Array.getElem?_eq_some_iff.1 hit).1
    have hnl : n + 1 ≤ 8796093022209 := by
      have := congrArg List.length hpre
      rw [List.length_append] at this
      omega
    by_cases hlt : pos < s.size
    · have hnx := fun ty => Lib.run_next_any_at (P := Tryd.prog) wr (B + 1) s pos ty hit hlt
      have hmore := placesFrom_more s pos hlt
      have hpos : wr.iterPos (B + 1) = pos := by simp [World.iterPos, hit]
      have hw := decode_width s pos
      have hit1 := Lib.iterAt_heap wr (B + 1) s pos (pos + (Utf8.decode s pos).2) hit
      have hst1 : St (wr.iterAt (B + 1) s (pos + (Utf8.decode s pos).2)) B s a n c (some ⟨g1, 0, none⟩) (textRunes s).length c1 := (Lib.iterAt_other wr (B + 1) B s _ (by omega)).trans hst
      have hown1 := own_iterAt hown (B + 1) s (pos + (Utf8.decode s pos).2) (by omega)
      have hbl1 := Lib.below_iterAt hbl (show B ≤ B + 1 by omega) s (pos + (Utf8.decode s pos).2)
      have hsz1 : B + 1 < (wr.iterAt (B + 1) s (pos + (Utf8.decode s pos).2)).heap.size := by rw [Lib.iterAt_size]; exact hsz
      generalize wr.iterAt (B + 1) s (pos + (Utf8.decode s pos).2) = W1 at *
      have hc1 := st_cell hst1
      have HO := Lib.hid hown1
      have HST := Lib.hid hst1
      have HIT := Lib.hid hit1
      have HBL := Lib.hid hbl1
      have HPRE := Lib.hid hpre
      have HM := Lib.hid hmore
      have HPOS := Lib.hid hpos
      have HN := Lib.hid hn
      clear hpre hst hown hit hbl hmore hpos hit1 hst1 hown1 hbl1 hn
      go_wp2_with (at_builtin; refine wpList_app rfl _ _ 84 84 rfl 3 i0 (.int .i64 0) 1 8 Tryd.underlying84 hi hz0 hz1 hz2 rfl (by simp [Value.cells, Value.oneCell']) (B + 2) a n c (pre.map posV) rfl (HO.out.alloc _) _ 1 [.int .i64 (pos : Int)] rfl (Src.ofCells Tryd.underlying84 _ _ _ _ rfl (Cells.new _ _ _) (by simp [Value.oneCell']) (by decide)) (by simp only [maxLen]; omega) (by omega) (by simp; omega) ?_; intro a4 c4 w4 hown4 hap4; have HO4 := Lib.hid hown4; have HP4 := Lib.hid hap4; have hst4 := st_apped HO.out HST.out hap4; have HST4 := Lib.hid hst4; have hcb := st_cell hst4; have hfb := st_frozen hst4; have HIT4 := Lib.hid (it_apped HO.out HIT.out hap4); have HBL4 := Lib.hid ((HBL.out.alloc (by omega) _).trans (hap4.below (HO.out.alloc _) (by simp; omega) |>.mono (by omega))); clear hown4 hap4 hst4)
      go_roundw
      case rel => exact ⟨pos + (Utf8.decode s pos).2, pre ++ [pos], a4, n + 1, c4, by rw [List.append_assoc, ← HPRE.out, HM.out]; rfl, st_set HST4.out _, by rw [List.map_append]; exact HO4.out.stored_other _ _ (fun g hg => by have := HO4.out; exact own_ne HO4.out hg), (Below.heap_setCell _ _ _ _ (by simp)).trans HIT4.out, HBL4.out.setCell (p := ⟨B, 1, none⟩) (Nat.le_refl _) _⟩
      case measure =>
        have h1 : (w4.setCell ⟨B, 1, none⟩ (.slice a4 (n + 1) c4)).iterPos (B + 1) = pos + (Utf8.decode s pos).2 := by
          have := (Below.heap_setCell w4 ⟨B, 1, none⟩ (.slice a4 (n + 1) c4) (B + 1) (by simp)).trans HIT4.out
          simp [World.iterPos, this]
        rw [h1, HPOS.out]
        omega
    · have hnx := fun ty => Lib.run_next_end_at (P := Tryd.prog) wr (B + 1) s pos ty hit hlt
      rw [placesFrom_end s pos hlt, List.append_nil] at hpre
      have hc1 := st_cell hst
      have HO := Lib.hid hown
      have HST := Lib.hid hst
      have HIT := Lib.hid hit
      have HBL := Lib.hid hbl
      have HPRE := Lib.hid hpre
      have HN := Lib.hid hn
      clear hpre hst hown hit hbl hn
      go_wp2_with (at_builtin; refine wpList_app rfl _ _ 84 84 rfl 3 i0 (.int .i64 0) 1 8 Tryd.underlying84 hi hz0 hz1 hz2 rfl (by simp [Value.cells, Value.oneCell']) (B + 2) a n c (pre.map posV) rfl (HO.out.alloc _) _ 1 [.int .i64 (s.size : Int)] rfl (Src.ofCells Tryd.underlying84 _ _ _ _ rfl (Cells.new _ _ _) (by simp [Value.oneCell']) (by decide)) (by simp only [maxLen]; omega) (by omega) (by simp; omega) ?_; intro a4 c4 w4 hown4 hap4; have HO4 := Lib.hid hown4; have HP4 := Lib.hid hap4; have hst4 := st_apped HO.out HST.out hap4; have HST4 := Lib.hid hst4; have hcb := st_cell hst4; have hfb := st_frozen hst4; have HIT4 := Lib.hid (it_apped HO.out HIT.out hap4); have HBL4 := Lib.hid ((HBL.out.alloc (by omega) _).trans (hap4.below (HO.out.alloc _) (by simp; omega) |>.mono (by omega))); clear hown4 hap4 hst4)
      go_ret
      have hfin := HO4.out.stored_other ⟨B, 1, none⟩ (.slice a4 (n + 1) c4) (fun g hg => own_ne HO4.out hg)
      obtain ⟨g, hg, _, _, _⟩ := hfin.addr (by have := hfin.le; omega)
      subst hg
      have hB1 := HB.out
      have hlen : n = (placesFrom s 0).length := by rw [← HPRE.out]; exact HN.out
      have hb2 : Below w.heap.size w1 (w4.setCell ⟨B, 1, none⟩ (.slice (some ⟨g, 0, none⟩) (n + 1) c4)) := (HBL4.out.setCell (p := ⟨B, 1, none⟩) (Nat.le_refl _) _).mono (by have := HB1.out.size; omega)
      refine ⟨B, rfl, by have := HB1.out.size; omega, ⟨g, n + 1, c4, some ⟨g1, 0, none⟩, (textRunes s).length, c1, st_set HST4.out _, by rw [hlen], hfin.le, ?_, rfl, ?_⟩, HB1.out.trans hb2⟩
      · have := hfin.toCells
        rw [HPRE.out] at this
        rw [List.map_append]
        exact this
      · exact HO1.out.toCells.below ((HBL4.out.setCell (p := ⟨B, 1, none⟩) (Nat.le_refl _) _).mono (by omega))

end Go.Proofs.YthkehgmeaedflaaDoor
