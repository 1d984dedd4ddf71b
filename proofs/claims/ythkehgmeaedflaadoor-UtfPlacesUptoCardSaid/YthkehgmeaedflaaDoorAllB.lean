/-
  The iterators from the front and from behind: their contracts.
-/
import Derived.Test.YthkehgmeaedflaaDoorLastM
namespace Go.Proofs.YthkehgmeaedflaaDoor
open Go.RowKit Go.Shelf

attribute [local go_sem] Oper.semAt_some

/-- A character and where it begins, as it is told. -/
def pairA (x : Nat × Nat) : Array Value := #[.int .i64 (x.1 : Int), .int .i32 (x.2 : Int)]

set_option maxRecDepth 100000 in
set_option maxHeartbeats 4000000 in
/-- **The closure of All: it tells each character from the front.** -/
theorem all_stops (n : Nat) (hn1 : 1 ≤ n) (Bu : Nat) (s : ByteArray) (w : World) (hs : s.size ≤ 140737488355328) (hB : Bu < w.heap.size) (hc : w.cell? ⟨Bu, 0, none⟩ = some (.string s)) (hT : Lib.Utf8Tabs 0 1 w) :
    SeqStopsK Fence.wide n Tryd.prog 70 #[.pointer (some ⟨Bu, 0, none⟩)] (fun x : Nat × Nat => #[Value.int .i64 (x.1 : Int), Value.int .i32 (x.2 : Int)]) (KeepsS Bu) (fun ys => ys = spotsFrom s 0) (fun pre => pre <+: spotsFrom s 0) (spotsFrom s 0).length w := fun l J Jx W hW hJ hJx hY h0 => by
  have hcW : W.cell? ⟨Bu, 0, none⟩ = some (.string s) := (hW.cell (p := ⟨Bu, 0, none⟩) hB).trans hc
  have HT := Lib.hid (tabs_below hT hW)
  have HJ := Lib.hid hJ
  have HY := Lib.hid hY
  have hBW : Bu < W.heap.size := Nat.lt_of_lt_of_le hB hW.size
  have h2W := tabs_at HT.out
  have hJ1 := hJ [] W (W.alloc (.stringIter s 0)) none h0 (World.grownBy_alloc _ _ none) (by rintro r h; cases h)
  have HJ1 := Lib.hid hJ1
  clear hJ hY hT h0 hJ1
  refine callsIn_of_wp Tryd.func70 rfl trivial ?_ rfl
  simp only [Tryd.ntmps70, List.size_toArray, List.length_cons, List.length_nil, Nat.reduceAdd, Nat.reduceSub, Array.replicate_succ, Array.replicate_zero, List.push_toArray, List.append_toArray, List.nil_append, List.cons_append]
  gi_wp2
  gi_loopw [3] (fun _ wr => ∃ (pos : Nat) (pre : List (Nat × Nat)), pre ++ spotsFrom s pos = spotsFrom s 0 ∧ J pre wr ∧ wr.heap[W.heap.size]? = some (.stringIter s pos) ∧ wr.cell? ⟨Bu, 0, none⟩ = some (.string s) ∧ Lib.Utf8Tabs 0 1 wr ∧ W.heap.size ≤ wr.heap.size) (fun _ wr => s.size - wr.iterPos W.heap.size)
  case atStart => exact ⟨0, [], rfl, HJ1.out, World.iter_heap W s 0, (World.cell?_of_block (Below.heap_alloc W _ Bu hBW)).trans hcW, tabs_below HT.out ((Below.refl _ _).alloc (Nat.le_refl _) _), by simp [World.iter]⟩
  case round =>
    obtain ⟨pos, pre, hpre, hJs, hit, hbx, htb, hsz⟩ := hrel
    by_cases hlt : pos < s.size
    · have hnx := fun ty => Lib.run_next_any_at (P := Tryd.prog) wr W.heap.size s pos ty hit hlt
      have hmore := spotsFrom_more s pos hlt
      have hpl : pre.length < (spotsFrom s 0).length := by
        rw [← hpre, hmore]
        simp
      have hpos : wr.iterPos W.heap.size = pos := by simp [World.iterPos, hit]
      have hit1 := Lib.iterAt_heap wr W.heap.size s pos (pos + (Utf8.decode s pos).2) hit
      have hg1 := iterAt_grown wr W.heap.size s (pos + (Utf8.decode s pos).2)
      have hJ1 := HJ.out pre wr _ (some W.heap.size) hJs hg1 (by rintro r h; cases h; exact ⟨Nat.le_refl _, _, hit, rfl⟩)
      have hbx1 : (wr.iterAt W.heap.size s (pos + (Utf8.decode s pos).2)).cell? ⟨Bu, 0, none⟩ = some (.string s) := (World.cell?_of_block (Lib.iterAt_other wr W.heap.size Bu s _ (by omega))).trans hbx
      have htb1 := tabs_grown htb hg1 (by rintro j h; cases h; omega)
      have hsz1 : W.heap.size ≤ (wr.iterAt W.heap.size s (pos + (Utf8.decode s pos).2)).heap.size := by rw [Lib.iterAt_size]; exact hsz
      have hwd := decode_width s pos
      have hfit := decode_fits s pos hlt
      have hnx2 : ∀ ty, (Instr.next (.pointer (some ⟨W.heap.size, 0, none⟩)) true ty).run Tryd.prog wr = .ok (.tuple #[.bool true, .int .i64 pos, .int .i32 (Utf8.decode s pos).1]) (wr.iterAt W.heap.size s (pos + (Utf8.decode s pos).2)) := hnx
      generalize wr.iterAt W.heap.size s (pos + (Utf8.decode s pos).2) = W1 at *
      obtain ⟨fn, tmps, assign, body, hy, hR⟩ := HY.out pre (pos, (Utf8.decode s pos).1) W1 hJ1 hpl
      dsimp only at hy
      have H1 := Lib.hid hpre
      have H2 := Lib.hid hmore
      have H4 := Lib.hid hpos
      have H5 := Lib.hid hit1
      have H7 := Lib.hid hbx1
      have H8 := Lib.hid htb1
      have HSZ := Lib.hid hsz1
      clear hpre hJs hit hbx htb hsz hnx hmore hpos hit1 hg1 htb1 hsz1
      gi_wp2
      refine hR.mono ?_
      rintro e W4 (⟨rfl, hJ4, hk4⟩ | ⟨rfl, hJx4⟩)
      · have H10 := Lib.hid hJ4
        have H11 := Lib.hid hk4
        clear hJ4 hk4 hy hR hnx2 hbx1
        gi_wp2
        go_roundw
        case rel => exact ⟨pos + (Utf8.decode s pos).2, pre ++ [(pos, (Utf8.decode s pos).1)], by rw [List.append_assoc, ← H1.out, H2.out]; rfl, H10.out, H11.out.walks.same _ _ H5.out rfl, H11.out.box _ H7.out, H11.out.tabs H8.out, Nat.le_trans HSZ.out H11.out.walks.size⟩
        case measure =>
          have h1 : W4.iterPos W.heap.size = pos + (Utf8.decode s pos).2 := by
            have := H11.out.walks.same _ _ H5.out rfl
            simp [World.iterPos, this]
          rw [h1, H4.out]
          omega
      · clear hy hR hnx2 hbx1
        gi_wp2
        refine bodyPost_ret (results_none rfl _ _ _) rfl ?_
        exact ⟨⟨_, rfl⟩, .inr ⟨pre ++ [(pos, (Utf8.decode s pos).1)], ⟨spotsFrom s (pos + (Utf8.decode s pos).2), by rw [List.append_assoc, ← H1.out, H2.out]; rfl⟩, hJx4⟩⟩
    · have hnx := fun ty => Lib.run_next_end_at (P := Tryd.prog) wr W.heap.size s pos ty hit hlt
      rw [spotsFrom_end s pos hlt, List.append_nil] at hpre
      have H1 := Lib.hid hpre
      clear hpre hbx
      gi_wp2
      go_end0
      exact ⟨⟨_, rfl⟩, .inl ⟨_, H1.out, hJs⟩⟩

/-- What stands ahead of a place, the last one apart. -/
theorem ahead_last (s : ByteArray) (q : Nat) (hq : q ∈ placesFrom s 0 ∨ q = s.size) (h0 : 0 < q) : ∃ p, p < q ∧ p ∈ placesFrom s 0 ∧ Lib.decodeLastL (s.extract 0 q).data.toList = ((Utf8.decode s p).1, q - p) ∧ spotsFrom s p = (p, (Utf8.decode s p).1) :: spotsFrom s q := by
  have hle : q ≤ s.size := by
    rcases hq with h | h
    · exact Nat.le_of_lt (place_lt h)
    · omega
  have hz := extract_size s q hle
  obtain ⟨front, p, h1, h2, h3⟩ := last_spot (s.extract 0 q) (s.extract 0 q).size 0 (by omega) (by omega)
  have hlt := place_lt h3
  have hsp := cut_spots s q q 0 (by omega) (by omega) hq
  have hmem : p ∈ placesFrom s 0 := by
    have : placesFrom s 0 = placesFrom (s.extract 0 q) 0 ++ placesFrom s q := by
      unfold placesFrom
      rw [hsp, List.map_append]
    rw [this]
    exact List.mem_append_left _ h3
  have hd : Utf8.decode (s.extract 0 q) p = Utf8.decode s p := by
    rcases Nat.lt_or_ge q (p + (Utf8.decode s p).2) with h | h
    · exfalso
      have hc := cut_spots s q q p (by omega) (by omega) (by
        rcases hq with h | h
        · left
          have hsp2 := cut_spots s p p 0 (by omega) (by omega) (.inl hmem)
          have : placesFrom s 0 = placesFrom (s.extract 0 p) 0 ++ placesFrom s p := by
            unfold placesFrom
            rw [hsp2, List.map_append]
          rw [this] at h
          rcases List.mem_append.1 h with h5 | h5
          · have := place_lt h5
            rw [extract_size s p (by omega)] at this
            omega
          · exact h5
        · exact .inr h)
      have hm : q ∈ placesFrom s p ∨ q = s.size := by
        rcases hq with h | h
        · left
          have hsp2 := cut_spots s p p 0 (by omega) (by omega) (.inl hmem)
          have : placesFrom s 0 = placesFrom (s.extract 0 p) 0 ++ placesFrom s p := by
            unfold placesFrom
            rw [hsp2, List.map_append]
          rw [this] at h
          rcases List.mem_append.1 h with h5 | h5
          · have := place_lt h5
            rw [extract_size s p (by omega)] at this
            omega
          · exact h5
        · exact .inr h
      have hf := decode_fits s p (by omega)
      rcases hm with h5 | h5
      · rw [placesFrom_more s p (by omega)] at h5
        rcases List.mem_cons.1 h5 with h6 | h6
        · omega
        · have := place_ge h6
          omega
      · omega
    · exact decode_cut s q p hle (by omega) h
  refine ⟨p, by omega, hmem, ?_, ?_⟩
  · rw [last_is (s.extract 0 q) p (by omega) h3 h2, hd]
    rw [hd] at h2
    exact Prod.ext rfl (by simp; omega)
  · rw [spotsFrom_more s p (by omega)]
    rw [hd] at h2
    rw [h2, hz]

set_option maxRecDepth 100000 in
set_option maxHeartbeats 4000000 in
/-- **The closure of Back: it tells each character from behind.** -/
theorem back_stops (n : Nat) (hn1 : 1 ≤ n) (Bu : Nat) (s : ByteArray) (w : World) (hs : s.size ≤ 140737488355328) (hB : Bu < w.heap.size) (hc : w.cell? ⟨Bu, 0, none⟩ = some (.string s)) (hT : Lib.Utf8Tabs 0 1 w) :
    SeqStopsK Fence.wide n Tryd.prog 71 #[.pointer (some ⟨Bu, 0, none⟩)] (fun x : Nat × Nat => #[Value.int .i64 (x.1 : Int), Value.int .i32 (x.2 : Int)]) (KeepsS Bu) (fun ys => ys = (spotsFrom s 0).reverse) (fun pre => pre <+: (spotsFrom s 0).reverse) (spotsFrom s 0).length w := fun l J Jx W hW hJ hJx hY h0 => by
  have hf58 : Fence.wide.fn 58 := trivial
  have hcW : W.cell? ⟨Bu, 0, none⟩ = some (.string s) := (hW.cell (p := ⟨Bu, 0, none⟩) hB).trans hc
  have HT := Lib.hid (tabs_below hT hW)
  have HJ := Lib.hid hJ
  have HY := Lib.hid hY
  have HJ0 := Lib.hid h0
  have hBW : Bu < W.heap.size := Nat.lt_of_lt_of_le hB hW.size
  clear hJ hY hT h0
  refine callsIn_of_wp Tryd.func71 rfl trivial ?_ rfl
  simp only [Tryd.ntmps71, List.size_toArray, List.length_cons, List.length_nil, Nat.reduceAdd, Nat.reduceSub, Array.replicate_succ, Array.replicate_zero, List.push_toArray, List.append_toArray, List.nil_append, List.cons_append]
  gi_wp2
  gi_loopw [3] (fun x wr => ∃ (q : Nat), (q ∈ placesFrom s 0 ∨ q = s.size) ∧ q ≤ s.size ∧ x = .int .i64 q ∧ J (spotsFrom s q).reverse wr ∧ wr.cell? ⟨Bu, 0, none⟩ = some (.string s) ∧ Lib.Utf8Tabs 0 1 wr ∧ W.heap.size ≤ wr.heap.size) (fun x _ => (intOf x).toNat)
  case atStart => exact ⟨s.size, .inr rfl, Nat.le_refl _, rfl, by rw [spotsFrom_end s s.size (by omega)]; exact HJ0.out, hcW, HT.out, Nat.le_refl _⟩
  case round =>
    obtain ⟨q, hq, hqs, rfl, hJs, hbx, htb, hsz⟩ := hrel
    by_cases hlt : 0 < q
    · obtain ⟨p, hp1, hp2, hp3, hp4⟩ := ahead_last s q hq hlt
      have hspl := cut_spots s q q 0 (by omega) (by omega) hq
      have hspl2 := cut_spots s p p 0 (by omega) (by omega) (.inl hp2)
      have hpl : (spotsFrom s q).reverse.length < (spotsFrom s 0).length := by
        rw [hspl2, hp4]
        simp
        omega
      have D := fun W hT => Tryd.utf8_DecodeLastRuneInString (s.extract 0 q) W (by rw [extract_size s q hqs]; omega) hT
      rw [hp3] at D
      have HD := Lib.hid D
      have H1 := Lib.hid hp4
      have H2 := Lib.hid hspl2
      have H3 := Lib.hid hpl
      have H4 := Lib.hid hq
      have H5 := Lib.hid hp2
      have H6 := Lib.hid hJs
      have H7 := Lib.hid hbx
      have H8 := Lib.hid htb
      have hq0 : (0 : Int) < (q : Int) := by omega
      have hq1 : (q : Int) ≤ (s.size : Int) := by omega
      have hsub : (q : Int) - ((q - p : Nat) : Int) = (p : Int) := by omega
      generalize (Utf8.decode s p).1 = r at *
      clear hp3 hp4 hspl hspl2 hpl hq hp2 hJs htb D
      gi_wp2_with (gi_at_call 58; refine (callsIn_wide.2 (HD.out _ H8.out)).mono ?_; rintro e W3 ⟨rfl, hb3⟩; obtain ⟨fn, tmps, assign, body, hy, hR⟩ := HY.out _ (p, r) W3 (HJ.out _ _ W3 none H6.out (below_grown hb3) (by rintro r h; cases h)) H3.out; dsimp only at hy)
      have H9 := Lib.hid hb3
      clear hb3
      refine hR.mono ?_
      rintro e W4 (⟨rfl, hJ4, hk4⟩ | ⟨rfl, hJx4⟩)
      · have H10 := Lib.hid hJ4
        have H11 := Lib.hid hk4
        clear hJ4 hk4 hy hR hbx
        gi_wp2
        go_roundw
        case rel => exact ⟨p, .inl H5.out, by omega, by go_num, by rw [H1.out, List.reverse_cons]; exact H10.out, H11.out.box _ ((KeepsS.below H9.out).box _ H7.out), H11.out.tabs (tabs_below H8.out H9.out), Nat.le_trans hsz (Nat.le_trans H9.out.size H11.out.walks.size)⟩
        case measure => simp [intOf]; omega
      · clear hy hR hbx
        gi_wp2
        refine bodyPost_ret (results_none rfl _ _ _) rfl ?_
        exact ⟨⟨_, rfl⟩, .inr ⟨_, ⟨(spotsFrom (s.extract 0 p) 0).reverse, by rw [H2.out, List.reverse_append, H1.out, List.reverse_cons]⟩, hJx4⟩⟩
    · obtain rfl : q = 0 := by omega
      have H6 := Lib.hid hJs
      clear hJs
      gi_wp2
      go_end0
      exact ⟨⟨_, rfl⟩, .inl ⟨_, rfl, H6.out⟩⟩

end Go.Proofs.YthkehgmeaedflaaDoor
