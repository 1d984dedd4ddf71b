/-
  The reference's first wrong byte, and its places by bytes and by characters: walked. The first character and the last.
-/
import Derived.Test.YthkehgmeaedflaaDoorRSpots
namespace Go.Proofs.YthkehgmeaedflaaDoor
open Go.RowKit

theorem find_take {α : Type} (p : α → Bool) (L : List α) (k : Nat) (x : α) (h : ∀ y ∈ L.take k, p y = false) (hx : L[k]? = some x) (hp : p x = true) : L.find? p = some x := by
  have : L = L.take k ++ x :: L.drop (k + 1) := by
    obtain ⟨hk, rfl⟩ := List.getElem?_eq_some_iff.1 hx
    rw [← List.drop_eq_getElem_cons hk, List.take_append_drop]
  rw [this, List.find?_append]
  have hn : (L.take k).find? p = none := by
    rw [List.find?_eq_none]
    intro z hz
    simp [h z hz]
  rw [hn]
  simp [hp]

set_option maxHeartbeats 2000000 in
theorem rcheck_any (w : World) (s : ByteArray) (hs : s.size ≤ 1099511627776) :
    Calls Tryd.prog 37 #[.string s] w fun e w' => e = .returned (.tuple #[.int .i64 (checkOf s).1, .int .i64 (checkOf s).2]) ∧ Below w.heap.size w w' := by
  have HM := Lib.hid (rspots_any w s hs)
  have hle := places_le s
  have hC : checkOf s = match (placesFrom s 0).find? (fun x => codeOf s x != 0) with
    | some x => (x, codeOf s x)
    | none => (s.size, 0) := rfl
  obtain ⟨L, hL⟩ : ∃ L, L = placesFrom s 0 := ⟨_, rfl⟩
  rw [← hL] at HM hC hle
  have hlen : L.length ≤ 1099511627776 := by omega
  have HC := Lib.hid hC
  clear hC hL hle
  generalize checkOf s = C at *
  go_enter Tryd.func37, Tryd.ntmps37
  go_wp2_with (go_at_call 23; refine HM.out.mono ?_; rintro e w1 ⟨a1, c1, rfl, hown1, hb1⟩)
  have HO1 := Lib.hid hown1
  have HB1 := Lib.hid hb1
  clear hown1 hb1 HM
  go_loopw [5] (fun x wr => w1 = wr ∧ ∃ (k : Nat), k ≤ L.length ∧ x = .int .i64 k ∧ Hid (∀ y ∈ L.take k, (codeOf s y != 0) = false)) (fun x _ => L.length - (intOf x).toNat)
  case atStart => exact ⟨rfl, 0, Nat.zero_le _, rfl, Lib.hid (by simp)⟩
  case round =>
    obtain ⟨rfl, k, hk, rfl, HG⟩ := hrel
    have h0 : (0 : Int) ≤ (k : Int) := by omega
    by_cases hlt : k < L.length
    · obtain ⟨x, hx⟩ : ∃ x, L[k]? = some x := ⟨_, List.getElem?_eq_getElem hlt⟩
      obtain ⟨g, rfl, q0, q1, q2, q3⟩ := spot_cells HO1.out hx
      have h1 : (k : Int) < (L.length : Int) := by omega
      have HX := Lib.hid hx
      clear hx q1 q2
      by_cases hz : codeOf s x = 0
      · have HZ := Lib.hid (show (codeOf s x != 0) = false by simp [hz])
        have hz2 : ((codeOf s x : Int) != 0) = false := by simp [hz]
        clear hz
        go_wp2
        go_roundw
        case rel => exact ⟨trivial, k + 1, by omega, by go_num, Lib.hid (fun y hy => by rw [List.take_add_one, HX.out] at hy; rcases List.mem_append.1 hy with h | h; exact HG.out y h; simp at h; subst h; exact HZ.out)⟩
        case measure => simp [intOf]; omega
      · have hz2 : ((codeOf s x : Int) != 0) = true := by simp [hz]
        have HF := Lib.hid (find_take (fun y => codeOf s y != 0) L k x HG.out HX.out (by simp [hz]))
        clear hz
        go_wp2
        go_quiet (fail)
        go_wp2
        go_ret2
        refine ⟨?_, HB1.out.trans (below_drewN (Below.refl _ _) _ |>.mono HB1.out.size)⟩
        rw [HC.out, HF.out]
        rfl
    · obtain rfl : k = L.length := by omega
      have HF := Lib.hid (show L.find? (fun y => codeOf s y != 0) = none by
        rw [List.find?_eq_none]
        intro y hy
        have := HG.out y (by rw [List.take_of_length_le (Nat.le_refl _)]; exact hy)
        simp [this])
      go_wp2
      go_ret2
      refine ⟨?_, HB1.out⟩
      rw [HC.out, HF.out]
      rfl

set_option maxHeartbeats 2000000 in
theorem rbyte_any (w : World) (s : ByteArray) (hs : s.size ≤ 1099511627776) (p : Int) :
    Calls Tryd.prog 65 #[.string s, .int .i64 p] w fun e w' => e = .returned (.tuple #[.int .i64 (byteOf s p).1, .int .i64 (byteOf s p).2]) ∧ Below w.heap.size w w' := by
  have HM := Lib.hid (rspots_any w s hs)
  have hle := places_le s
  obtain ⟨b, hb⟩ : ∃ b, b = byteOf s p := ⟨_, rfl⟩
  have hbd : b = if p < 0 ∨ ((placesFrom s 0).length : Int) < p then ((0 : Int), (2 : Int)) else ((((placesFrom s 0 ++ [s.size])[p.toNat]?.getD 0 : Nat) : Int), (0 : Int)) := hb
  rw [← hb]
  clear hb
  generalize placesFrom s 0 = L at *
  by_cases hlo : p < 0
  · rw [if_pos (.inl hlo)] at hbd
    subst hbd
    go_enter Tryd.func65, Tryd.ntmps65
    go_wp2_with (go_at_call 23; refine HM.out.mono ?_; rintro e w1 ⟨a1, c1, rfl, hown1, hb1⟩; have HB1 := Lib.hid hb1; clear hown1 hb1)
    go_ret2
    exact ⟨rfl, HB1.out⟩
  · obtain ⟨q, rfl⟩ := Int.eq_ofNat_of_zero_le (Int.not_lt.1 hlo)
    have hlo2 : (0 : Int) ≤ (q : Int) := by omega
    by_cases hhi : L.length < q
    · rw [if_pos (.inr (by omega))] at hbd
      subst hbd
      have hh : (L.length : Int) < (q : Int) := by omega
      clear hlo hhi
      go_enter Tryd.func65, Tryd.ntmps65
      go_wp2_with (go_at_call 23; refine HM.out.mono ?_; rintro e w1 ⟨a1, c1, rfl, hown1, hb1⟩; have HB1 := Lib.hid hb1; clear hown1 hb1)
      go_ret2
      exact ⟨rfl, HB1.out⟩
    · rw [if_neg (by omega), Int.toNat_natCast] at hbd
      by_cases heq : q = L.length
      · subst heq
        rw [List.getElem?_append_right (Nat.le_refl _), Nat.sub_self] at hbd
        have hbd : b = (((s.size : Nat) : Int), 0) := hbd
        subst hbd
        have hee : ((L.length : Int) == (L.length : Int)) = true := by simp
        clear hlo hhi
        go_enter Tryd.func65, Tryd.ntmps65
        go_wp2_with (go_at_call 23; refine HM.out.mono ?_; rintro e w1 ⟨a1, c1, rfl, hown1, hb1⟩; have HB1 := Lib.hid hb1; clear hown1 hb1)
        go_ret2
        exact ⟨rfl, HB1.out⟩
      · have hlt : q < L.length := by omega
        obtain ⟨x, hx⟩ : ∃ x, L[q]? = some x := ⟨_, List.getElem?_eq_getElem hlt⟩
        rw [List.getElem?_append_left hlt, hx] at hbd
        have hbd : b = (((x : Nat) : Int), 0) := hbd
        subst hbd
        have HX := Lib.hid hx
        have hee : ((q : Int) == (L.length : Int)) = false := by simp; omega
        have hh : (q : Int) < (L.length : Int) := by omega
        have hh2 : (q : Int) ≤ (L.length : Int) := by omega
        clear hlo hhi heq hx
        go_enter Tryd.func65, Tryd.ntmps65
        go_wp2_with (go_at_call 23; refine HM.out.mono ?_; rintro e w1 ⟨a1, c1, rfl, hown1, hb1⟩; obtain ⟨g, rfl, q0, q1, q2, q3⟩ := spot_cells hown1 HX.out; have HB1 := Lib.hid hb1; clear hown1 hb1 q1 q2 q3)
        go_ret2
        exact ⟨rfl, HB1.out⟩

theorem count_take (s : ByteArray) (b : Int) (k x : Nat) (hx : (placesFrom s 0)[k]? = some x) (hb : (x : Int) ≤ b) : ((placesFrom s 0).take (k + 1)).countP (fun y : Nat => decide ((y : Int) ≤ b)) = k + 1 := by
  obtain ⟨hk, rfl⟩ := List.getElem?_eq_some_iff.1 hx
  have hall : ∀ y ∈ (placesFrom s 0).take (k + 1), decide ((y : Int) ≤ b) = true := by
    intro y hy
    obtain ⟨j, hj, rfl⟩ := List.getElem_of_mem hy
    rw [List.length_take] at hj
    rw [List.getElem_take]
    have hjk : (placesFrom s 0)[j] ≤ (placesFrom s 0)[k] := by
      rcases Nat.lt_or_eq_of_le (show j ≤ k by omega) with h | h
      · exact Nat.le_of_lt (List.pairwise_iff_getElem.1 (places_sorted s s.size 0) j k (by show j < (placesFrom s 0).length; omega) hk h)
      · subst h; exact Nat.le_refl _
    simp
    omega
  rw [List.countP_eq_length.2 hall, List.length_take]
  omega

theorem upTo_places (s : ByteArray) (b : Int) (h : b < s.size) : upTo s b = (placesFrom s 0).countP (fun y : Nat => decide ((y : Int) ≤ b)) := by
  unfold upTo indexI indexOf
  rw [List.map_append, List.countP_append, List.countP_map]
  have : ¬ (s.size : Int) ≤ b := by omega
  simp [this]
  rfl
theorem upTo_end (s : ByteArray) : upTo s (s.size : Int) = (placesFrom s 0).length + 1 := by
  unfold upTo
  have hall : ∀ y ∈ indexI s, decide (y ≤ (s.size : Int)) = true := by
    intro y hy
    unfold indexI indexOf at hy
    obtain ⟨x, hx, rfl⟩ := List.mem_map.1 hy
    rcases List.mem_append.1 hx with h | h
    · have := place_lt h
      simp
      omega
    · simp at h
      simp [h]
  rw [List.countP_eq_length.2 hall]
  unfold indexI
  rw [List.length_map, index_len]

set_option maxHeartbeats 2000000 in
theorem rhas_any (w : World) (s : ByteArray) (hs : s.size ≤ 1099511627776) (b : Int) :
    Calls Tryd.prog 66 #[.string s, .int .i64 b] w fun e w' => e = .returned (.tuple #[.int .i64 (hasOf s b).1, .int .i64 (hasOf s b).2]) ∧ Below w.heap.size w w' := by
  have HM := Lib.hid (rspots_any w s hs)
  have hle := places_le s
  by_cases hlo : b < 0
  · have hb : hasOf s b = (0, 2) := by unfold hasOf; rw [if_pos (.inl hlo)]
    rw [hb]
    clear hb
    go_enter Tryd.func66, Tryd.ntmps66
    go_wp2
    go_ret2
    exact ⟨rfl, Below.refl _ _⟩
  · have hlo2 : (0 : Int) ≤ b := by omega
    by_cases hhi : (s.size : Int) < b
    · have hb : hasOf s b = (0, 2) := by unfold hasOf; rw [if_pos (.inr hhi)]
      rw [hb]
      clear hb hlo
      go_enter Tryd.func66, Tryd.ntmps66
      go_wp2
      go_ret2
      exact ⟨rfl, Below.refl _ _⟩
    · have hb : hasOf s b = ((upTo s b : Int) - 1, 0) := by unfold hasOf; rw [if_neg (by omega)]
      rw [hb]
      clear hb
      have hh : b ≤ (s.size : Int) := by omega
      by_cases heq : b = (s.size : Int)
      · subst heq
        rw [upTo_end]
        have hee : ((s.size : Int) == (s.size : Int)) = true := by simp
        clear hlo hhi
        go_enter Tryd.func66, Tryd.ntmps66
        go_wp2_with (go_at_call 23; refine HM.out.mono ?_; rintro e w1 ⟨a1, c1, rfl, hown1, hb1⟩; have HB1 := Lib.hid hb1; clear hown1 hb1)
        go_ret2
        exact ⟨ret_pairn (by omega) rfl, HB1.out⟩
      · have hee : (b == (s.size : Int)) = false := by simp; omega
        rw [upTo_places s b (by omega)]
        have HCT := Lib.hid (count_take s b)
        obtain ⟨L, hL⟩ : ∃ L, L = placesFrom s 0 := ⟨_, rfl⟩
        rw [← hL] at HM HCT hle ⊢
        have hlen : L.length ≤ 1099511627776 := by omega
        clear hlo hhi heq hle hL
        go_enter Tryd.func66, Tryd.ntmps66
        go_wp2_with (go_at_call 23; refine HM.out.mono ?_; rintro e w1 ⟨a1, c1, rfl, hown1, hb1⟩)
        have HO1 := Lib.hid hown1
        have HB1 := Lib.hid hb1
        clear hown1 hb1 HM
        go_loopw [7, 8] (fun n x wr => w1 = wr ∧ ∃ (k : Nat) (m : Int), k ≤ L.length ∧ x = .int .i64 k ∧ n = .int .i64 m ∧ Hid (m = ((L.take k).countP (fun y : Nat => decide ((y : Int) ≤ b)) : Int) - 1)) (fun _ x _ => L.length - (intOf x).toNat)
        case atStart => exact ⟨rfl, 0, -1, Nat.zero_le _, rfl, rfl, Lib.hid (by simp)⟩
        case round =>
          obtain ⟨rfl, k, m, hk, rfl, rfl, HG⟩ := hrel
          have h0 : (0 : Int) ≤ (k : Int) := by omega
          by_cases hlt : k < L.length
          · obtain ⟨x, hx⟩ : ∃ x, L[k]? = some x := ⟨_, List.getElem?_eq_getElem hlt⟩
            obtain ⟨g, rfl, q0, q1, q2, q3⟩ := spot_cells HO1.out hx
            have h1 : (k : Int) < (L.length : Int) := by omega
            have HX := Lib.hid hx
            clear hx q1 q2 q3
            by_cases hxb : (x : Int) ≤ b
            · have HK := Lib.hid (HCT.out k x HX.out hxb)
              go_wp2
              go_roundw
              case rel => exact ⟨trivial, k + 1, k, by omega, by go_num, rfl, Lib.hid (by rw [HK.out]; omega)⟩
              case measure => simp [intOf]; omega
            · have hxb2 : b < (x : Int) := by omega
              clear hxb
              go_wp2
              go_roundw
              case rel => exact ⟨trivial, k + 1, m, by omega, by go_num, rfl, Lib.hid (by rw [HG.out, List.take_add_one, HX.out, List.countP_append]; simp [show ¬ (x : Int) ≤ b from by omega])⟩
              case measure => simp [intOf]; omega
          · obtain rfl : k = L.length := by omega
            go_wp2
            go_ret2
            refine ⟨ret_pairn ?_ rfl, HB1.out⟩
            rw [HG.out, List.take_of_length_le (Nat.le_refl _)]

/-- No character. -/
def noSpot : Value := .agg #[.int .i64 0, .int .i64 0, .int .i32 0, .int .i64 0]
set_option maxRecDepth 20000 in
set_option maxHeartbeats 1000000 in
theorem first_any (w : World) (s : ByteArray) (h0 : 0 < s.size) (hs : s.size ≤ 140737488355328) (hT : Lib.Utf8Tabs 0 1 w) :
    Calls Tryd.prog 26 #[.string s] w fun e w' => e = .returned (spotE s 0) ∧ Below w.heap.size w w' := by
  have e2 : s.toList.isEmpty = false := by
    rw [Lib.toList_data]
    cases h : s.data.toList with
    | nil =>
      have := size_list s
      rw [h] at this
      simp at this
      omega
    | cons _ _ => rfl
  have HT := Lib.hid hT
  have HS := Lib.hid (fun W hT => spot_e W s 0 h0 hs hT)
  clear hT
  go_enter Tryd.func26, Tryd.ntmps26
  go_wp2_with (go_at_call 57; refine (HS.out _ ?_).mono ?_; exact tabs_below HT.out ((Below.refl _ _).alloc (Nat.le_refl _) _); rintro e w2 ⟨rfl, hb2⟩; obtain ⟨hcy, hfy⟩ := bcell hb2; have hzy : w.heap.size < w2.heap.size := (by have := hb2.size; simp at this; omega); have HB2 := Lib.hid (((Below.refl _ _).alloc (Nat.le_refl _) _).trans (hb2.mono (by simp))); clear hb2; unfold spotE spotV)
  refine bodyPost_ret (v := spotE s 0) (by simp [results, Tryd.results26, go_sem, hcy, hzy, spotE, spotV]; done) rfl ⟨rfl, ?_⟩
  exact below4 HB2.out _ _ _ _

theorem noCell (s : ByteArray) (h : s.size = 0) : s.toList.isEmpty = true := by
  rw [Lib.toList_data]
  cases hl : s.data.toList with
  | nil => rfl
  | cons _ _ =>
    have := size_list s
    rw [hl] at this
    simp at this
    omega
set_option maxRecDepth 20000 in
set_option maxHeartbeats 1000000 in
theorem first_none (w : World) (s : ByteArray) (h0 : s.size = 0) : Calls Tryd.prog 26 #[.string s] w fun e w' => e = .returned noSpot ∧ Below w.heap.size w w' := by
  have e2 := noCell s h0
  clear h0
  go_enter Tryd.func26, Tryd.ntmps26
  go_wp2
  refine bodyPost_ret (v := noSpot) (by simp [results, Tryd.results26, go_sem, noSpot]; done) rfl ⟨rfl, ?_⟩
  exact (Below.refl _ _).alloc (Nat.le_refl _) _
set_option maxRecDepth 20000 in
set_option maxHeartbeats 1000000 in
theorem last_none (w : World) (s : ByteArray) (h0 : s.size = 0) : Calls Tryd.prog 27 #[.string s] w fun e w' => e = .returned noSpot ∧ Below w.heap.size w w' := by
  have e2 := noCell s h0
  clear h0
  go_enter Tryd.func27, Tryd.ntmps27
  go_wp2
  refine bodyPost_ret (v := noSpot) (by simp [results, Tryd.results27, go_sem, noSpot]; done) rfl ⟨rfl, ?_⟩
  exact (Below.refl _ _).alloc (Nat.le_refl _) _

/-- The last character is the last of the places. -/
theorem lastOf_is (s : ByteArray) (h0 : 0 < s.size) : (placesFrom s 0)[(placesFrom s 0).length - 1]? = some (lastOf s) := by
  obtain ⟨front, p, h1, h2, h3⟩ := last_spot s s.size 0 (by omega) h0
  have hl := last_is s p h0 h3 h2
  have hp : lastOf s = p := by
    unfold lastOf
    rw [hl]
    omega
  have hpl : placesFrom s 0 = front.map Prod.fst ++ [p] := by
    unfold placesFrom
    rw [h1, List.map_append]
    rfl
  rw [hp, hpl, List.getElem?_append_right (by simp)]
  simp

end Go.Proofs.YthkehgmeaedflaaDoor
