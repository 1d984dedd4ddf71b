/-
  The walk of the law UtfPlaces.
-/
import Derived.Test.YthkehgmeaedflaaDoorAsk
import Derived.Test.YthkehgmeaedflaaDoorAskT
import Derived.Test.YthkehgmeaedflaaDoorAskR
import Derived.Test.YthkehgmeaedflaaDoorAskS
import Derived.Test.YthkehgmeaedflaaDoorAskW
import Derived.Test.YthkehgmeaedflaaDoorAskN
import Derived.Test.YthkehgmeaedflaaDoorLives
namespace Go.Proofs.YthkehgmeaedflaaDoor
open Go.RowKit Go.Shelf
set_option linter.unusedVariables false
attribute [local go_sem] Oper.semAt_some

/-- Any question is answered as the reference does. -/
theorem asked_any (w : World) (B : Nat) (s : ByteArray) (hs : s.size ≤ 65536) (hp : PlacesAt w B s) (d a b : Int) :
    Calls Tryd.prog 43 #[.pointer (some ⟨B, 0, none⟩), .string s, .agg #[.int .i64 d, .int .i64 a, .int .i64 b]] w fun e W' => e = .returned (.bool true) ∧ Below w.heap.size w W' := by
  refine (callsIn_wide (n := 5)).1 ?_
  by_cases h0 : d = 0
  · subst h0; exact ask_zero w B s hs hp a b
  by_cases h1 : d = 1
  · subst h1; exact ask_one w B s hs hp a b
  by_cases h2 : d = 2
  · subst h2; exact ask_two w B s hs hp a b
  by_cases h3 : d = 3
  · subst h3
    by_cases k1 : a < 0
    · exact ask_three_neg w B s hs hp a b k1
    · obtain ⟨n, rfl⟩ := Int.eq_ofNat_of_zero_le (Int.not_lt.1 k1)
      by_cases k2 : n < (placesFrom s 0).length
      · exact ask_three_in w B s hs hp n b k2
      · exact ask_three_big w B s hs hp _ b (by omega) (by omega)
  by_cases h4 : d = 4
  · subst h4
    by_cases k1 : a < 0
    · exact ask_four_neg w B s hs hp a b k1
    · by_cases k2 : b < a
      · exact ask_four_less w B s hs hp a b (by omega) k2
      · by_cases k3 : ((placesFrom s 0).length : Int) < b
        · exact ask_four_big w B s hs hp a b (by omega) (by omega) k3
        · obtain ⟨i, rfl⟩ := Int.eq_ofNat_of_zero_le (Int.not_lt.1 k1)
          obtain ⟨j, rfl⟩ := Int.eq_ofNat_of_zero_le (show 0 ≤ b by omega)
          exact ask_four_in w B s hs hp i j (by omega) (by omega)
  by_cases h5 : d = 5
  · subst h5
    obtain ⟨k0, hk0⟩ := Int.eq_ofNat_of_zero_le (show 0 ≤ max 0 a by omega)
    exact ask_five w B s hs hp a b k0 hk0
  exact ask_else w B s hs hp d a b (by omega)

theorem beyond_no (w : World) (s : ByteArray) (n : Nat) (h1 : s.size ≤ 65536) (h2 : n ≤ 4096) : Calls Tryd.prog 41 #[.string s, .int .i64 n] w fun e w' => e = .returned (.bool false) ∧ w = w' := by
  have e1 : (s.size : Int) ≤ 65536 := by omega
  have e2 : (n : Int) ≤ 4096 := by omega
  go_enter Tryd.func41, Tryd.ntmps41
  go_wp2
  go_ret
  refine ⟨?_, rfl⟩
  show Ending.returned (.bool (decide ((65536 : Int) < (s.size : Int)) || decide ((4096 : Int) < (n : Int)))) = _
  rw [decide_eq_false (by omega), decide_eq_false (by omega)]
  rfl
theorem beyond_yes (w : World) (s : ByteArray) (n : Nat) (h : 65536 < s.size ∨ 4096 < n) : Calls Tryd.prog 41 #[.string s, .int .i64 n] w fun e w' => e = .returned (.bool true) ∧ w = w' := by
  by_cases h1 : 65536 < s.size
  · have e1 : (65536 : Int) < (s.size : Int) := by omega
    clear h
    go_enter Tryd.func41, Tryd.ntmps41
    go_wp2
    go_ret
    exact ⟨rfl, rfl⟩
  · have e1 : (s.size : Int) ≤ 65536 := by omega
    have e2 : (4096 : Int) < (n : Int) := by omega
    clear h h1
    go_enter Tryd.func41, Tryd.ntmps41
    go_wp2
    go_ret
    exact ⟨rfl, rfl⟩

/-- A question's cells. -/
def askL (x : Int × Int × Int) : List Value := [.int .i64 x.1, .int .i64 x.2.1, .int .i64 x.2.2]
theorem askL_len (L : List (Int × Int × Int)) : (L.flatMap askL).length = L.length * 3 := by
  induction L with
  | nil => rfl
  | cons x L ih => rw [List.flatMap_cons, List.length_append, ih, List.length_cons]; simp [askL]; omega
theorem askL_at (L : List (Int × Int × Int)) (k : Nat) (x : Int × Int × Int) (h : L[k]? = some x) (j : Nat) (hj : j < 3) : (L.flatMap askL)[k * 3 + j]? = (askL x)[j]? := by
  induction L generalizing k with
  | nil => simp at h
  | cons y L ih =>
    cases k with
    | zero =>
      simp at h
      subst h
      rw [List.flatMap_cons, Nat.zero_mul, Nat.zero_add, List.getElem?_append_left (by simp [askL]; omega)]
    | succ k =>
      rw [List.flatMap_cons, List.getElem?_append_right (by simp [askL]; omega)]
      have := ih k (by simpa using h)
      rw [← this]
      congr 1
      simp [askL]
      omega
theorem ask_in {w : World} {a : Option Addr} {L : List (Int × Int × Int)} (h : Cells w a (L.flatMap askL)) {k : Nat} (hk : k < L.length) : ∃ b o d x y, a = some ⟨b, o, none⟩ ∧ L[k]? = some (d, x, y) ∧ w.cell? ⟨b, o + k * 3, none⟩ = some (.int .i64 d) ∧ w.cell? ⟨b, o + k * 3 + 1, none⟩ = some (.int .i64 x) ∧ w.cell? ⟨b, o + k * 3 + 2, none⟩ = some (.int .i64 y) := by
  have hl := askL_len L
  obtain ⟨b, o, ha, hc⟩ := h (by intro e; rw [e] at hl; simp at hl; omega)
  have hx := List.getElem?_eq_getElem hk
  refine ⟨b, o, L[k].1, L[k].2.1, L[k].2.2, ha, hx, ?_, ?_, ?_⟩
  · have := hc (k * 3 + 0) _ (by rw [askL_at L k _ hx 0 (by omega)]; rfl)
    simpa using this
  · rw [Nat.add_assoc]; exact hc _ _ (by rw [askL_at L k _ hx 1 (by omega)]; rfl)
  · rw [Nat.add_assoc]; exact hc _ _ (by rw [askL_at L k _ hx 2 (by omega)]; rfl)

set_option maxRecDepth 100000 in
set_option maxHeartbeats 8000000 in
theorem places_any (w : World) (s t : ByteArray) (a1 : Option Addr) (c1 : Nat) (L1 : List (Int × Int × Int)) (a2 : Option Addr) (c2 : Nat) (L2 : List (Int × Int × Int)) (hn1 : L1.length ≤ 1048576) (hn2 : L2.length ≤ 1048576)
    (ce1 : Cells w a1 (L1.flatMap askL)) (ce2 : Cells w a2 (L2.flatMap askL)) (hT : Lib.Utf8Tabs 0 1 w) :
    Calls Tryd.prog 12 #[.string s, .string t, .slice a1 L1.length c1, .slice a2 L2.length c2] w fun e w' => e = .returned (.bool true) ∧ Below w.heap.size w w' := by
  have HT := Lib.hid hT
  have HC1 := Lib.hid ce1
  have HC2 := Lib.hid ce2
  clear ce1 ce2 hT
  by_cases hb1 : 65536 < s.size ∨ 4096 < L1.length
  · have HY := Lib.hid (fun W => beyond_yes W s _ hb1)
    clear hb1
    go_enter Tryd.func12, Tryd.ntmps12
    go_wp2_with (first | (go_at_call 41; refine (HY.out _).mono ?_; rintro e w' ⟨rfl, rfl⟩) | (go_at_call 16; refine (lives_any _ HT.out).mono ?_; rintro e w' ⟨rfl, hb⟩))
    go_ret
    exact ⟨rfl, hb⟩
  · have HN := Lib.hid (fun W => beyond_no W s L1.length (by omega) (by omega))
    by_cases hb2 : 65536 < t.size ∨ 4096 < L2.length
    · have HY := Lib.hid (fun W => beyond_yes W t _ hb2)
      clear hb1 hb2
      go_enter Tryd.func12, Tryd.ntmps12
      go_wp2_with fail
      refine (HN.out _).mono ?_
      rintro e w' ⟨rfl, rfl⟩
      go_wp2_with (first | (go_at_call 41; refine (HY.out _).mono ?_; rintro e w' ⟨rfl, rfl⟩) | (go_at_call 16; refine (lives_any _ HT.out).mono ?_; rintro e w' ⟨rfl, hb⟩))
      go_ret
      exact ⟨rfl, hb⟩
    · have HN2 := Lib.hid (fun W => beyond_no W t L2.length (by omega) (by omega))
      have hs : s.size ≤ 65536 := by omega
      have ht : t.size ≤ 65536 := by omega
      have hl1 : L1.length ≤ 4096 := by omega
      have hl2 : L2.length ≤ 4096 := by omega
      clear hb1 hb2 hn1 hn2
      go_enter Tryd.func12, Tryd.ntmps12
      go_wp2_with fail
      refine (HN.out _).mono ?_
      rintro e w' ⟨rfl, rfl⟩
      go_wp2_with fail
      refine (HN2.out _).mono ?_
      rintro e w' ⟨rfl, rfl⟩
      go_wp2_with fail
      refine (new_any _ s (by omega)).mono ?_
      rintro e w1 ⟨B1, rfl, hB1, hP1, hb1⟩
      have P1 := Lib.hid hP1
      have E1 := Lib.hid hb1
      clear hB1 hP1 hb1
      go_wp2_with fail
      refine (new_any _ t (by omega)).mono ?_
      rintro e w2 ⟨B2, rfl, hB2, hP2, hb2⟩
      have P1' := Lib.hid (P1.out.below hb2)
      have P2 := Lib.hid hP2
      have E2 := Lib.hid (after E1.out hb2)
      clear hB2 hP2 hb2 P1 E1
      go_wp2_with fail
      refine (lives_any _ (tabs_below HT.out E2.out)).mono ?_
      rintro e w3 ⟨rfl, hb3⟩
      have Q1 := Lib.hid (P1'.out.below hb3)
      have Q2 := Lib.hid (P2.out.below hb3)
      have E3 := Lib.hid (after E2.out hb3)
      clear hb3 P1' P2 E2
      have HA1 := Lib.hid (fun W (h : Below w3.heap.size w3 W) (d a b : Int) => asked_any W B1 s hs (Q1.out.below h) d a b)
      have HA2 := Lib.hid (fun W (h : Below w3.heap.size w3 W) (d a b : Int) => asked_any W B2 t ht (Q2.out.below h) d a b)
      clear hs ht
      go_wp2_with fail
      go_loopw [11] (fun i wr => ∃ k : Nat, k ≤ 4096 ∧ i = .int .i64 k ∧ Hid (Below w3.heap.size w3 wr)) (fun i _ => 4097 - (intOf i).toNat)
      case atStart => exact ⟨0, Nat.zero_le _, rfl, Lib.hid (Below.refl _ _)⟩
      case round =>
        obtain ⟨k, hk, rfl, HB⟩ := hrel
        have hk0 : (0 : Int) ≤ (k : Int) := by omega
        have HBW := Lib.hid (after E3.out HB.out)
        by_cases h1 : k < L1.length
        · have e1 : (k : Int) < (L1.length : Int) := by omega
          obtain ⟨g1, o1, d1, x1, y1, rfl, hx1, p0, p1, p2⟩ := ask_in (HC1.out.below HBW.out) h1
          by_cases h2 : k < L2.length
          · have e2 : (k : Int) < (L2.length : Int) := by omega
            go_wp2_with fail
            refine (HA1.out _ HB.out d1 x1 y1).mono ?_
            rintro e w5 ⟨rfl, hb5⟩
            have HB5 := Lib.hid (after HB.out hb5)
            have HBW5 := Lib.hid (after HBW.out hb5)
            obtain ⟨g2, o2, d2, x2, y2, rfl, hx2, q0, q1, q2⟩ := ask_in (HC2.out.below HBW5.out) h2
            clear hb5 p0 p1 p2 hx1 hx2
            go_wp2_with fail
            refine (HA2.out _ HB5.out d2 x2 y2).mono ?_
            rintro e w6 ⟨rfl, hb6⟩
            have HB6 := Lib.hid (after HB5.out hb6)
            clear hb6 q0 q1 q2
            go_wp2_with fail
            go_roundw
            case rel => exact ⟨k + 1, by omega, by go_num, HB6⟩
            case measure => simp [intOf]; omega
          · have e2 : (L2.length : Int) ≤ (k : Int) := by omega
            go_wp2_with fail
            refine (HA1.out _ HB.out d1 x1 y1).mono ?_
            rintro e w5 ⟨rfl, hb5⟩
            have HB5 := Lib.hid (after HB.out hb5)
            clear hb5 p0 p1 p2 hx1
            go_wp2_with fail
            go_roundw
            case rel => exact ⟨k + 1, by omega, by go_num, HB5⟩
            case measure => simp [intOf]; omega
        · have e1 : (L1.length : Int) ≤ (k : Int) := by omega
          by_cases h2 : k < L2.length
          · have e2 : (k : Int) < (L2.length : Int) := by omega
            obtain ⟨g2, o2, d2, x2, y2, rfl, hx2, q0, q1, q2⟩ := ask_in (HC2.out.below HBW.out) h2
            clear hx2
            go_wp2_with fail
            refine (HA2.out _ HB.out d2 x2 y2).mono ?_
            rintro e w6 ⟨rfl, hb6⟩
            have HB6 := Lib.hid (after HB.out hb6)
            clear hb6 q0 q1 q2
            go_wp2_with fail
            go_roundw
            case rel => exact ⟨k + 1, by omega, by go_num, HB6⟩
            case measure => simp [intOf]; omega
          · have e2 : (L2.length : Int) ≤ (k : Int) := by omega
            clear h1 h2
            go_wp2_with fail
            refine (HA1.out _ HB.out 9 0 0).mono ?_
            rintro e w5 ⟨rfl, hb5⟩
            have HB5 := Lib.hid (after HB.out hb5)
            clear hb5
            go_wp2_with fail
            refine (HA2.out _ HB5.out 9 0 0).mono ?_
            rintro e w6 ⟨rfl, hb6⟩
            have HB6 := Lib.hid (after E3.out (after HB5.out hb6))
            clear hb6
            go_wp2_with fail
            go_ret
            exact ⟨rfl, HB6.out⟩

theorem places_walk (w : World) (s : ByteArray) (_hs : s.size ≤ 1048576) (t : ByteArray) (_ht : t.size ≤ 1048576) (a1 : Option Addr) (c1 : Nat) (L1 : List (Int × Int × Int)) (hn1 : L1.length ≤ 1048576) (ce1 : Cells w a1 (L1.flatMap askL))
    (a2 : Option Addr) (c2 : Nat) (L2 : List (Int × Int × Int)) (hn2 : L2.length ≤ 1048576) (ce2 : Cells w a2 (L2.flatMap askL)) (hT : Lib.Utf8Tabs 0 1 w) :
    Calls Tryd.prog 12 #[.string s, .string t, .slice a1 L1.length c1, .slice a2 L2.length c2] w fun e w' => e = .returned (.bool true) ∧ Below w.heap.size w w' := places_any w s t a1 c1 L1 a2 c2 L2 hn1 hn2 ce1 ce2 hT

end Go.Proofs.YthkehgmeaedflaaDoor
