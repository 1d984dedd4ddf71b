/-
  The iterator over a text's parts: its contract.
-/
import Derived.Test.YthkehgmeaedflaaDoorLong
import Derived.Test.YthkehgmeaedflaaDoorRAsk
import Derived.Test.YthkehgmeaedflaaDoorStep
import Derived.Test.YthkehgmeaedflaaDoorJoined
import Derived.IntWalk
import Derived.Stop.RegionWithIn
namespace Go.Proofs.YthkehgmeaedflaaDoor
open Go.RowKit Go.Shelf
set_option linter.unusedVariables false

attribute [local go_sem] Oper.semAt_some

theorem extract_all (s : ByteArray) : s.extract 0 s.size = s := by
  apply bytes_ext
  rw [ByteArray.data_extract, Array.toList_extract, List.extract_eq_take_drop, List.drop_zero, List.take_of_length_le (by rw [size_list]; omega)]
theorem tail_tail (s : ByteArray) (i j : Nat) (h : i + j ≤ s.size) : (s.extract i s.size).extract j (s.extract i s.size).size = s.extract (i + j) s.size := by
  apply bytes_ext
  simp only [ByteArray.data_extract, Array.toList_extract, List.extract_eq_take_drop, tail_size]
  rw [List.drop_take, List.drop_drop, List.take_take]
  congr 1
  omega
theorem tail_part (s : ByteArray) (i j : Nat) (h : i + j ≤ s.size) : (s.extract i s.size).extract 0 j = s.extract i (i + j) := by
  apply bytes_ext
  simp only [ByteArray.data_extract, Array.toList_extract, List.extract_eq_take_drop]
  rw [List.drop_zero, List.take_take]
  congr 1
  omega
theorem tail_decode0 (s : ByteArray) (i : Nat) : Utf8.decode (s.extract i s.size) 0 = Utf8.decode s i := by rw [Lib.tail_decode, Nat.add_zero]
theorem tail_code (s : ByteArray) (i : Nat) (h : i ≤ s.size) : codeOf (s.extract i s.size) 0 = codeOf s i := by
  unfold codeOf
  rw [tail_decode0, tail_tail s i 0 (by omega), Nat.add_zero]
theorem tail_long (s : ByteArray) (i : Nat) (h : i < s.size) : longestOf (s.extract i s.size) 0 = longestOf s i := by
  have g : ∀ k, i + k < s.size → (s.extract i s.size).get! k = s.get! (i + k) := fun k hk => tail_get s i k hk
  have e0 : (s.extract i s.size).get! 0 = s.get! i := g 0 (by omega)
  have t2 : tailOk (s.extract i s.size) 0 2 ↔ tailOk s i 2 := by
    unfold tailOk
    rw [tail_size]
    constructor
    · rintro ⟨h1, h2⟩
      rw [Nat.zero_add, g 2 (by omega)] at h2
      exact ⟨by omega, h2⟩
    · rintro ⟨h1, h2⟩
      refine ⟨by omega, ?_⟩
      rw [Nat.zero_add, g 2 h1]
      exact h2
  have ho : opensP (s.extract i s.size) 0 ↔ opensP s i := by
    unfold opensP
    rw [e0, tail_size]
    constructor
    · rintro ⟨h1, h2, h3, h4⟩
      rw [Nat.zero_add, g 1 (by omega)] at h4
      exact ⟨h1, h2, by omega, h4⟩
    · rintro ⟨h1, h2, h3, h4⟩
      refine ⟨h1, h2, by omega, ?_⟩
      rw [Nat.zero_add, g 1 h3]
      exact h4
  unfold longestOf
  rw [e0]
  simp only [ho, t2]

/-- What a round keeps besides: every block of one character's parts. -/
structure KeepsQ (b : Nat) (W W' : World) : Prop where
  base : KeepsS b W W'
  spots : ∀ (k : Nat) (cs : Array Value) (fr : Nat × Nat), W.heap[k]? = some (.cells cs 41 fr) → W'.heap[k]? = some (.cells cs 41 fr)
theorem KeepsQ.refl (b : Nat) (W : World) : KeepsQ b W W := ⟨KeepsS.refl b W, fun _ _ _ h => h⟩
theorem KeepsQ.trans {b : Nat} {A B C : World} (h : KeepsQ b A B) (k : KeepsQ b B C) : KeepsQ b A C := ⟨h.base.trans k.base, fun i cs fr hi => k.spots i cs fr (h.spots i cs fr hi)⟩
theorem KeepsQ.below {b : Nat} {A B : World} (k : Below A.heap.size A B) : KeepsQ b A B := ⟨KeepsS.below k, fun i _ _ hi => (k.block i (Array.getElem?_eq_some_iff.1 hi).1).trans hi⟩
theorem KeepsQ.of {b : Nat} {A B : World} {row : Option Nat} (h : KeepsS b A B) (k : A.grownBy B row) (hr : ∀ j, row = some j → ∀ (cs : Array Value) (fr : Nat × Nat), A.heap[j]? ≠ some (.cells cs 41 fr)) : KeepsQ b A B :=
  ⟨h, fun i cs fr hi => (k.block i (Array.getElem?_eq_some_iff.1 hi).1 (fun e => hr i e.symm cs fr hi)).trans hi⟩
theorem KeepsQ.alloc {b : Nat} {A B : World} (h : KeepsQ b A B) (o : Obj) : KeepsQ b A (B.alloc o) := h.trans (KeepsQ.below ((Below.refl _ _).alloc (Nat.le_refl _) o))
theorem KeepsQ.setCell {b k : Nat} {A B : World} {t : TypeId} {v : Value} (h : KeepsQ b A B) (hb : Boxed B k t v) (ht : t ≠ 41) (h2 : 2 ≤ k) (hne : k ≠ b) (u : Value) : KeepsQ b A (B.setCell ⟨k, 0, none⟩ u) :=
  h.trans (KeepsQ.of ((KeepsS.refl b B).setCell hb h2 hne u) (grownBy_setCell' B k u) (fun j e cs fr hi => by
    cases e
    rw [show B.heap[k]? = _ from hb] at hi
    cases hi
    exact ht rfl))
theorem keepsQ_b {w : World} (b : Nat) (hb : b < w.heap.size) (h2 : 2 ≤ w.heap.size) (W : World) (l : Nat) (o o' : Obj) (hl : w.heap.size ≤ l) (h : W.heap[l]? = some o) (hc : o.isCells = false) (hw : o.isWalk = false) : KeepsQ b W (W.putObj l o') :=
  KeepsQ.of (keepsS_b b hb h2 W l o o' hl h hc hw) (grownBy_putObj' W l o') (fun j e cs fr hi => by
    cases e
    rw [h] at hi
    cases hi
    cases hc)
/-- One character's parts, in a block. -/
theorem block4 {W : World} {g : Nat} {a b c d : Value} (h : W.heap[g]? = some (.cells #[a, b, c, d] 41 (0, 0))) : W.cell? ⟨g, 0, none⟩ = some a ∧ W.cell? ⟨g, 1, none⟩ = some b ∧ W.cell? ⟨g, 2, none⟩ = some c ∧ W.cell? ⟨g, 3, none⟩ = some d := by
  refine ⟨?_, ?_, ?_, ?_⟩ <;> simp [World.cell?, h]

theorem yield_one {e : Ending} {A B : Prop} (h : (e = .returned (.bool true) ∧ A) ∨ (e = .returned (.bool false) ∧ B)) : ∃ b : Bool, e = .returned (.bool b) ∧ Hid ((b = true ∧ A) ∨ (b = false ∧ B)) := by
  rcases h with ⟨rfl, h⟩ | ⟨rfl, h⟩
  · exact ⟨true, rfl, Lib.hid (.inl ⟨rfl, h⟩)⟩
  · exact ⟨false, rfl, Lib.hid (.inr ⟨rfl, h⟩)⟩

set_option maxRecDepth 100000 in
set_option maxHeartbeats 4000000 in
/-- **The closure of Pieces: it tells each part.** -/
theorem pieces_stops (n : Nat) (hn1 : 1 ≤ n) (Bu : Nat) (s : ByteArray) (w : World) (hs : s.size ≤ 140737488355328) (hB : Bu < w.heap.size) (hc : w.cell? ⟨Bu, 0, none⟩ = some (.string s)) (hT : Lib.Utf8Tabs 0 1 w) :
    SeqStopsK Fence.wide n Tryd.prog 61 #[.pointer (some ⟨Bu, 0, none⟩)] (fun x : Nat => #[.string (partS s x), .int .i32 (runeAt s x)]) (KeepsQ Bu) (fun ys => ys = piecesFrom s 0) (fun pre => pre <+: piecesFrom s 0) (piecesFrom s 0).length w := fun l J Jx W hW hJ hJx hY h0 => by
  have hf26 : Fence.wide.fn 26 := trivial
  have hf62 : Fence.wide.fn 62 := trivial
  have hcW : W.cell? ⟨Bu, 0, none⟩ = some (.string s) := (hW.cell (p := ⟨Bu, 0, none⟩) hB).trans hc
  have HT := Lib.hid (tabs_below hT hW)
  have HJ := Lib.hid hJ
  have HY := Lib.hid hY
  have HJ0 := Lib.hid h0
  have HE := Lib.hid (extract_all s)
  clear hJ hY hT h0
  refine callsIn_of_wp Tryd.func61 rfl trivial ?_ rfl
  simp only [Tryd.ntmps61, List.size_toArray, List.length_cons, List.length_nil, Nat.reduceAdd, Nat.reduceSub, Array.replicate_succ, Array.replicate_zero, List.push_toArray, List.append_toArray, List.nil_append, List.cons_append]
  gi_wp2
  gi_loopw [3] (fun r wr => ∃ (pos : Nat) (pre : List Nat), pos ≤ s.size ∧ r = .string (s.extract pos s.size) ∧ pre ++ piecesFrom s pos = piecesFrom s 0 ∧ J pre wr ∧ Lib.Utf8Tabs 0 1 wr) (fun r _ => (match r with | .string t => t.size | _ => 0))
  case atStart => exact ⟨0, [], Nat.zero_le _, by rw [HE.out], rfl, HJ0.out, HT.out⟩
  case round =>
    obtain ⟨pos, pre, hps, rfl, hpre, hJs, htb⟩ := hrel
    have hsz := tail_size s pos
    by_cases hlt : pos < s.size
    · have hmore := piecesFrom_more s pos hlt
      have hpl : pre.length < (piecesFrom s 0).length := by
        rw [← hpre, hmore]
        simp
      have hd0 := tail_decode0 s pos
      have hc0 := tail_code s pos hps
      have hl0 := tail_long s pos hlt
      have hpf := part_fits s pos hlt
      have hpr := part_range s pos
      have ht0 := tail_part s pos (partW s pos) hpf
      have ht1 := tail_tail s pos (partW s pos) hpf
      have hF := fun W hT => first_any W (s.extract pos s.size) (by rw [hsz]; omega) (by omega) hT
      have hL := fun W => longest_any (s.extract pos s.size) W (by omega) (by rw [hsz]; omega)
      unfold spotE spotV at hF
      rw [hd0, hc0] at hF
      rw [hl0] at hL
      have hne : (s.extract pos s.size).toList.isEmpty = false := not_empty (by rw [hsz]; omega)
      have hY0 := fun W hJW => HY.out pre pos W hJW hpl
      unfold partS runeAt at hY0
      rw [← ht0] at hY0
      obtain ⟨t, ht⟩ : ∃ t, t = s.extract pos s.size := ⟨_, rfl⟩
      rw [← ht] at hsz ht0 ht1 hF hL hne hY0 ⊢
      obtain ⟨m, hm⟩ : ∃ m, m = partW s pos := ⟨_, rfl⟩
      rw [← hm] at hmore hpf hpr ht0 ht1 hY0
      obtain ⟨r, hr⟩ : ∃ r, r = (Utf8.decode s pos).1 := ⟨_, rfl⟩
      obtain ⟨wd, hwd⟩ : ∃ wd, wd = (Utf8.decode s pos).2 := ⟨_, rfl⟩
      obtain ⟨cd, hcd⟩ : ∃ cd, cd = codeOf s pos := ⟨_, rfl⟩
      rw [← hr, ← hwd, ← hcd] at hF
      rw [← hr] at hY0
      have hmt : (m : Int) ≤ (t.size : Int) := by omega
      have hm0 : (0 : Int) ≤ (m : Int) := by omega
      have H1 := Lib.hid hpre
      have H2 := Lib.hid hmore
      have HF := Lib.hid hF
      have HY0 := Lib.hid hY0
      have HT1 := Lib.hid ht1
      have HTB := Lib.hid htb
      have HJS := Lib.hid hJs
      have HSZ := Lib.hid hsz
      by_cases hz : cd = 0
      · obtain rfl : wd = m := by rw [hm, part_ok (by rw [← hcd]; exact hz), hwd]
        subst hz
        clear hpre hmore hF hY0 ht0 ht1 htb hJs hL hd0 hc0 hl0 ht hr hwd hcd hm hsz
        gi_wp2_with (gi_at_call 26; refine (callsIn_wide.2 (HF.out _ HTB.out)).mono ?_; rintro e W1 ⟨rfl, hb1⟩)
        have hbk : (W1.alloc (.cells #[.int .i64 0, .int .i64 wd, .int .i32 r, .int .i64 0] 41)).heap[W1.heap.size]? = some (.cells #[.int .i64 0, .int .i64 wd, .int .i32 r, .int .i64 0] 41 (0, 0)) := World.alloc_heap_new W1 _
        have HB2 := Lib.hid (hb1.alloc hb1.size (.cells #[.int .i64 0, .int .i64 wd, .int .i32 r, .int .i64 0] 41))
        generalize W1.alloc (.cells #[.int .i64 0, .int .i64 wd, .int .i32 r, .int .i64 0] 41) = W2 at *
        have HBK := Lib.hid hbk
        have hc1 := (block4 hbk).2.1
        have hc2 := (block4 hbk).2.2.1
        obtain ⟨fn, tmps, assign, body, hy, hR⟩ := HY0.out W2.drew (HJ.out pre wr W2.drew none HJS.out (below_grown HB2.out.drew) (by rintro r h; cases h))
        clear hbk
        gi_region_with (refine hR.mono ?_; rintro e W4 hh; obtain ⟨b, rfl, HC⟩ := yield_one hh; clear hh)
        all_goals
          rcases HC.out with ⟨rfl, hJ4, hk4⟩ | ⟨rfl, hJx4⟩
          · have H10 := Lib.hid hJ4
            have H11 := Lib.hid hk4
            have hc3 := (block4 (hk4.spots _ _ _ HBK.out)).2.1
            clear hJ4 hk4 hy hR hc1 hc2 HC
            gi_wp2
            go_roundw
            case rel => exact ⟨pos + wd, pre ++ [pos], hpf, by rw [← HT1.out], by rw [List.append_assoc, ← H1.out, H2.out]; rfl, H10.out, H11.out.base.tabs (tabs_below HTB.out (HB2.out.drew.mono (Nat.le_refl _)))⟩
            case measure =>
              show (t.extract wd t.size).size < t.size
              rw [ByteArray.size_extract]
              omega
          · clear hy hR hc1 hc2 HC
            gi_wp2
            refine bodyPost_ret (results_none rfl _ _ _) rfl ?_
            exact ⟨⟨_, rfl⟩, .inr ⟨pre ++ [pos], ⟨piecesFrom s (pos + wd), by rw [List.append_assoc, ← H1.out, H2.out]; rfl⟩, hJx4⟩⟩
      · obtain rfl : longestOf s pos = m := by rw [hm, part_no (by rw [← hcd]; exact hz)]
        have HL := Lib.hid hL
        have hz2 : ((cd : Int) != 0) = true := by simp [hz]
        generalize longestOf s pos = m at *
        clear hz hpre hmore hF hY0 ht0 ht1 htb hJs hL hd0 hc0 hl0 ht hr hwd hcd hm hsz
        gi_wp2_with (first | (gi_at_call 26; refine (callsIn_wide.2 (HF.out _ HTB.out)).mono ?_; rintro e W1 ⟨rfl, hb1⟩) | (gi_at_call 62; refine (callsIn_wide.2 (HL.out _)).mono ?_; rintro e w' ⟨rfl, rfl⟩))
        have hbk : (W1.alloc (.cells #[.int .i64 0, .int .i64 m, .int .i32 r, .int .i64 cd] 41)).heap[W1.heap.size]? = some (.cells #[.int .i64 0, .int .i64 m, .int .i32 r, .int .i64 cd] 41 (0, 0)) := World.alloc_heap_new W1 _
        have HB2 := Lib.hid (hb1.alloc hb1.size (.cells #[.int .i64 0, .int .i64 m, .int .i32 r, .int .i64 cd] 41))
        generalize W1.alloc (.cells #[.int .i64 0, .int .i64 m, .int .i32 r, .int .i64 cd] 41) = W2 at *
        have HBK := Lib.hid hbk
        have hc1 := (block4 hbk).2.1
        have hc2 := (block4 hbk).2.2.1
        obtain ⟨fn, tmps, assign, body, hy, hR⟩ := HY0.out W2.drew (HJ.out pre wr W2.drew none HJS.out (below_grown HB2.out.drew) (by rintro r h; cases h))
        clear hbk
        gi_region_with (refine hR.mono ?_; rintro e W4 hh; obtain ⟨b, rfl, HC⟩ := yield_one hh; clear hh)
        all_goals
          rcases HC.out with ⟨rfl, hJ4, hk4⟩ | ⟨rfl, hJx4⟩
          · have H10 := Lib.hid hJ4
            have H11 := Lib.hid hk4
            have hc3 := (block4 (hk4.spots _ _ _ HBK.out)).2.1
            clear hJ4 hk4 hy hR hc1 hc2 HC
            gi_wp2
            go_roundw
            case rel => exact ⟨pos + m, pre ++ [pos], hpf, by rw [← HT1.out], by rw [List.append_assoc, ← H1.out, H2.out]; rfl, H10.out, H11.out.base.tabs (tabs_below HTB.out (HB2.out.drew.mono (Nat.le_refl _)))⟩
            case measure =>
              show (t.extract m t.size).size < t.size
              rw [ByteArray.size_extract]
              omega
          · clear hy hR hc1 hc2 HC
            gi_wp2
            refine bodyPost_ret (results_none rfl _ _ _) rfl ?_
            exact ⟨⟨_, rfl⟩, .inr ⟨pre ++ [pos], ⟨piecesFrom s (pos + m), by rw [List.append_assoc, ← H1.out, H2.out]; rfl⟩, hJx4⟩⟩
    · rw [piecesFrom_end s pos hlt, List.append_nil] at hpre
      have hem : (s.extract pos s.size).toList.isEmpty = true := is_empty (by rw [hsz]; omega)
      have H1 := Lib.hid hpre
      clear hpre hsz
      gi_wp2
      go_end0
      exact ⟨⟨_, rfl⟩, .inl ⟨_, H1.out, hJs⟩⟩

end Go.Proofs.YthkehgmeaedflaaDoor
