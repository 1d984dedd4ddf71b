/-
  The walk of the law UtfOrder. Printed by a program of ours (genorder.py).
-/
import Derived.Test.YthkehgmeaedflaaDoorLives
import Derived.Test.YthkehgmeaedflaaDoorOrderM
import Derived.IntWalk
namespace Go.Proofs.YthkehgmeaedflaaDoor
open Go.RowKit

theorem get_head (l : List Int) (k : Nat) (x : Int) (h : l[k]? = some x) : l.drop k = x :: l.drop (k + 1) := by
  obtain ⟨hk, rfl⟩ := List.getElem?_eq_some_iff.1 h
  exact List.drop_eq_getElem_cons hk

/-- Where two lists part. -/
theorem part_at (A D : List Int) : ∃ k, k ≤ A.length ∧ k ≤ D.length ∧ A.take k = D.take k ∧ (k = A.length ∨ k = D.length ∨ A[k]? ≠ D[k]?) := by
  induction A generalizing D with
  | nil => exact ⟨0, Nat.zero_le _, Nat.zero_le _, rfl, .inl rfl⟩
  | cons a A ih =>
    cases D with
    | nil => exact ⟨0, Nat.zero_le _, Nat.zero_le _, rfl, .inr (.inl rfl)⟩
    | cons d D =>
      by_cases h : a = d
      · subst h
        obtain ⟨k, h1, h2, h3, h4⟩ := ih D
        refine ⟨k + 1, by simpa using h1, by simpa using h2, by simpa using h3, ?_⟩
        rcases h4 with h4 | h4 | h4
        · exact .inl (by simpa using h4)
        · exact .inr (.inl (by simpa using h4))
        · exact .inr (.inr (by simpa using h4))
      · exact ⟨0, Nat.zero_le _, Nat.zero_le _, rfl, .inr (.inr (by simpa using h))⟩
theorem take_get {A D : List Int} {k j : Nat} (h : A.take k = D.take k) (hj : j < k) : A[j]? = D[j]? := by
  have := congrArg (fun l => l[j]?) h
  simpa [List.getElem?_take, hj] using this

set_option maxRecDepth 20000 in
set_option maxHeartbeats 4000000 in
theorem order_off (w : World) (s t : ByteArray) (hs : s.size ≤ 1048576) (ht : t.size ≤ 1048576) (hT : Lib.Utf8Tabs 0 1 w) (hc : ¬ ((checkOf s).2 = 0 ∧ (checkOf t).2 = 0)) :
    Calls Tryd.prog 4 #[.string s, .string t] w fun e w' => e = .returned (.bool true) ∧ Below w.heap.size w w' := by
  have C := check_any w s (by omega) hT
  have D := fun W hT => check_any W t (by omega) hT
  generalize checkOf s = c at *
  generalize checkOf t = d at *
  obtain ⟨p, q⟩ := c
  obtain ⟨u, v⟩ := d
  simp only at hc
  have HT := Lib.hid hT
  have HC := Lib.hid C
  have HD := Lib.hid D
  clear C D hT
  by_cases h1 : q = 0
  · have hq : ((q : Int) != 0) = false := by simp [h1]
    have hv : ((v : Int) != 0) = true := by
      have : ¬ v = 0 := fun h => hc ⟨h1, h⟩
      simp [this]
    clear h1 hc
    go_enter Tryd.func4, Tryd.ntmps4
    go_wp2_with fail
    refine HC.out.mono ?_
    rintro e w1 ⟨rfl, hb1⟩
    have HB1 := Lib.hid hb1
    clear hb1
    go_wp2_with fail
    refine (HD.out _ (tabs_below HT.out HB1.out)).mono ?_
    rintro e w2 ⟨rfl, hb2⟩
    have HB2 := Lib.hid (after HB1.out hb2)
    clear hb2
    go_wp2_with (go_at_call 16; refine (lives_any _ ?_).mono ?_; exact tabs_below HT.out HB2.out; rintro e w3 ⟨rfl, hb3⟩)
    go_ret
    exact ⟨rfl, after HB2.out hb3⟩
  · have hq : ((q : Int) != 0) = true := by simp [h1]
    clear h1 hc
    go_enter Tryd.func4, Tryd.ntmps4
    go_wp2_with fail
    refine HC.out.mono ?_
    rintro e w1 ⟨rfl, hb1⟩
    have HB1 := Lib.hid hb1
    clear hb1
    go_wp2_with fail
    refine (HD.out _ (tabs_below HT.out HB1.out)).mono ?_
    rintro e w2 ⟨rfl, hb2⟩
    have HB2 := Lib.hid (after HB1.out hb2)
    clear hb2
    go_wp2_with (go_at_call 16; refine (lives_any _ ?_).mono ?_; exact tabs_below HT.out HB2.out; rintro e w3 ⟨rfl, hb3⟩)
    go_ret
    exact ⟨rfl, after HB2.out hb3⟩


set_option maxRecDepth 20000 in
set_option maxHeartbeats 8000000 in
theorem order_same (w : World) (s t : ByteArray) (hs : s.size ≤ 1048576) (ht : t.size ≤ 1048576) (hT : Lib.Utf8Tabs 0 1 w) (hc : (checkOf s).2 = 0) (hd : (checkOf t).2 = 0) (k0 : Nat) (hA : k0 ≤ (textRunes s).length) (hD : k0 ≤ (textRunes t).length) (hE : (textRunes s).take k0 = (textRunes t).take k0) (e1 : k0 = (textRunes s).length) (e2 : k0 = (textRunes t).length) :
    Calls Tryd.prog 4 #[.string s, .string t] w fun e w' => e = .returned (.bool true) ∧ Below w.heap.size w w' := by
  have hL := less_text hc hd
  have C := check_any w s (by omega) hT
  have CT := fun W hT => check_any W t (by omega) hT
  have RS := fun W => runes_any W s (by omega)
  have RT := fun W => runes_any W t (by omega)
  have ls := textRunes_le s
  have lt := textRunes_le t
  generalize textRunes s = A at *
  generalize textRunes t = D at *
  generalize checkOf s = c at *
  generalize checkOf t = d at *
  obtain ⟨p, q⟩ := c
  obtain ⟨u, v⟩ := d
  simp only at hc hd
  subst hc
  subst hd
  rw [lessI_take A D k0 hE hA hD] at hL
  have hless : Op.bytesLess s.toList t.toList = false := by
    rw [hL]
    rw [List.drop_eq_nil_of_le (show D.length ≤ k0 by omega)]
    cases A.drop k0 <;> rfl
  have HP := Lib.hid (fun j hj => take_get (A := A) (D := D) (k := k0) (j := j) hE hj)
  have HT := Lib.hid hT
  have HC := Lib.hid C
  have HCT := Lib.hid CT
  have HRS := Lib.hid RS
  have HRT := Lib.hid RT
  clear C CT hT RS RT hL hE
  go_enter Tryd.func4, Tryd.ntmps4
  go_wp2_with fail
  refine HC.out.mono ?_
  rintro e w1 ⟨rfl, hb1⟩
  have HB1 := Lib.hid hb1
  clear hb1 HC
  go_wp2_with fail
  refine (HCT.out _ (tabs_below HT.out HB1.out)).mono ?_
  rintro e w2 ⟨rfl, hb2⟩
  have HB2 := Lib.hid (after HB1.out hb2)
  clear hb2 HCT
  go_wp2_with fail
  refine (HRS.out _).mono ?_
  rintro e w3 ⟨a3, c3, rfl, hown3, hb3⟩
  have HO3 := Lib.hid hown3.toCells
  have HB3 := Lib.hid (after HB2.out hb3)
  clear hown3 hb3 HRS
  go_wp2_with fail
  refine (HRT.out _).mono ?_
  rintro e w4 ⟨a4, c4, rfl, hown4, hb4⟩
  have HD := Lib.hid hown4.toCells
  have HA := Lib.hid (HO3.out.below hb4)
  have HB4 := Lib.hid (after HB3.out hb4)
  clear hown4 hb4 HRT HO3
  go_wp2_with fail
  go_loopw [11] (fun i wr => ∃ k : Nat, k ≤ k0 ∧ i = .int .i64 k ∧ Below w4.heap.size w4 wr) (fun i _ => k0 - (intOf i).toNat)
  case atStart => exact ⟨0, Nat.zero_le _, rfl, Below.refl _ _⟩
  case round =>
    obtain ⟨k, hk, rfl, hb⟩ := hrel
    have HB := Lib.hid hb
    clear hb
    have hk0 : (0 : Int) ≤ (k : Int) := by omega
    by_cases hlt : k < k0
    · obtain ⟨b1, o1, x, rfl, hx, hc1⟩ := (HA.out.below HB.out).at (show k < A.length by omega)
      obtain ⟨b2, o2, y, rfl, hy, hc2⟩ := (HD.out.below HB.out).at (show k < D.length by omega)
      have ha2 : decide ((k : Int) < (A.length : Int)) = true := by simp; omega
      have ha3 : (k : Int) < (A.length : Int) := by omega
      have hd2 : decide ((k : Int) < (D.length : Int)) = true := by simp; omega
      have hd3 : (k : Int) < (D.length : Int) := by omega
      have hxy : x = y := by
        have := HP.out k hlt
        rw [hx, hy] at this
        exact Option.some.inj this
      subst hxy
      have hxx : (x == x) = true := by simp
      clear hx hy hless
      as_aux_lemma =>
        go_wp2
        go_quiet (fail)
        go_wp2
        go_roundw
        case rel => exact ⟨k + 1, by omega, by go_num, below_drewN HB.out _⟩
        case measure => simp [intOf]; omega
    · obtain rfl : k = k0 := by omega
      have ha2 : decide ((k : Int) < (A.length : Int)) = false := by simp; omega
      have ha2n : decide (k < A.length) = false := by simp; omega
      have hd2 : decide ((k : Int) < (D.length : Int)) = false := by simp; omega
      have hd2n : decide (k < D.length) = false := by simp; omega
      clear e1 e2
      as_aux_lemma =>
        go_wp2
        go_quiet (fail)
        have HBW := Lib.hid (below_drewN HB.out nq)

        generalize wr.drewN nq = W at *
        go_wp2
        go_quiet (fail)
        have HB6 := Lib.hid (HB4.out.trans ((below_drewN HBW.out nq).mono HB4.out.size))
        go_wp2_with (go_at_call 16; refine (lives_any _ ?_).mono ?_; exact tabs_below HT.out HB6.out; rintro e w6 ⟨rfl, hb6⟩)
        go_ret
        exact ⟨rfl, after HB6.out hb6⟩


set_option maxRecDepth 20000 in
set_option maxHeartbeats 8000000 in
theorem order_long (w : World) (s t : ByteArray) (hs : s.size ≤ 1048576) (ht : t.size ≤ 1048576) (hT : Lib.Utf8Tabs 0 1 w) (hc : (checkOf s).2 = 0) (hd : (checkOf t).2 = 0) (k0 : Nat) (hA : k0 ≤ (textRunes s).length) (hD : k0 ≤ (textRunes t).length) (hE : (textRunes s).take k0 = (textRunes t).take k0) (e2 : k0 = (textRunes t).length) (e1 : k0 < (textRunes s).length) :
    Calls Tryd.prog 4 #[.string s, .string t] w fun e w' => e = .returned (.bool true) ∧ Below w.heap.size w w' := by
  have hL := less_text hc hd
  have C := check_any w s (by omega) hT
  have CT := fun W hT => check_any W t (by omega) hT
  have RS := fun W => runes_any W s (by omega)
  have RT := fun W => runes_any W t (by omega)
  have ls := textRunes_le s
  have lt := textRunes_le t
  generalize textRunes s = A at *
  generalize textRunes t = D at *
  generalize checkOf s = c at *
  generalize checkOf t = d at *
  obtain ⟨p, q⟩ := c
  obtain ⟨u, v⟩ := d
  simp only at hc hd
  subst hc
  subst hd
  rw [lessI_take A D k0 hE hA hD] at hL
  have hless : Op.bytesLess s.toList t.toList = false := by
    rw [hL]
    rw [List.drop_eq_nil_of_le (show D.length ≤ k0 by omega)]
    cases A.drop k0 <;> rfl
  have HP := Lib.hid (fun j hj => take_get (A := A) (D := D) (k := k0) (j := j) hE hj)
  have HT := Lib.hid hT
  have HC := Lib.hid C
  have HCT := Lib.hid CT
  have HRS := Lib.hid RS
  have HRT := Lib.hid RT
  clear C CT hT RS RT hL hE
  go_enter Tryd.func4, Tryd.ntmps4
  go_wp2_with fail
  refine HC.out.mono ?_
  rintro e w1 ⟨rfl, hb1⟩
  have HB1 := Lib.hid hb1
  clear hb1 HC
  go_wp2_with fail
  refine (HCT.out _ (tabs_below HT.out HB1.out)).mono ?_
  rintro e w2 ⟨rfl, hb2⟩
  have HB2 := Lib.hid (after HB1.out hb2)
  clear hb2 HCT
  go_wp2_with fail
  refine (HRS.out _).mono ?_
  rintro e w3 ⟨a3, c3, rfl, hown3, hb3⟩
  have HO3 := Lib.hid hown3.toCells
  have HB3 := Lib.hid (after HB2.out hb3)
  clear hown3 hb3 HRS
  go_wp2_with fail
  refine (HRT.out _).mono ?_
  rintro e w4 ⟨a4, c4, rfl, hown4, hb4⟩
  have HD := Lib.hid hown4.toCells
  have HA := Lib.hid (HO3.out.below hb4)
  have HB4 := Lib.hid (after HB3.out hb4)
  clear hown4 hb4 HRT HO3
  go_wp2_with fail
  go_loopw [11] (fun i wr => ∃ k : Nat, k ≤ k0 ∧ i = .int .i64 k ∧ Below w4.heap.size w4 wr) (fun i _ => k0 - (intOf i).toNat)
  case atStart => exact ⟨0, Nat.zero_le _, rfl, Below.refl _ _⟩
  case round =>
    obtain ⟨k, hk, rfl, hb⟩ := hrel
    have HB := Lib.hid hb
    clear hb
    have hk0 : (0 : Int) ≤ (k : Int) := by omega
    by_cases hlt : k < k0
    · obtain ⟨b1, o1, x, rfl, hx, hc1⟩ := (HA.out.below HB.out).at (show k < A.length by omega)
      obtain ⟨b2, o2, y, rfl, hy, hc2⟩ := (HD.out.below HB.out).at (show k < D.length by omega)
      have ha2 : decide ((k : Int) < (A.length : Int)) = true := by simp; omega
      have ha3 : (k : Int) < (A.length : Int) := by omega
      have hd2 : decide ((k : Int) < (D.length : Int)) = true := by simp; omega
      have hd3 : (k : Int) < (D.length : Int) := by omega
      have hxy : x = y := by
        have := HP.out k hlt
        rw [hx, hy] at this
        exact Option.some.inj this
      subst hxy
      have hxx : (x == x) = true := by simp
      clear hx hy hless
      as_aux_lemma =>
        go_wp2
        go_quiet (fail)
        go_wp2
        go_roundw
        case rel => exact ⟨k + 1, by omega, by go_num, below_drewN HB.out _⟩
        case measure => simp [intOf]; omega
    · obtain rfl : k = k0 := by omega
      have ha2 : decide ((k : Int) < (A.length : Int)) = true := by simp; omega
      have ha2n : decide (k < A.length) = true := by simp; omega
      have hd2 : decide ((k : Int) < (D.length : Int)) = false := by simp; omega
      have hd2n : decide (k < D.length) = false := by simp; omega
      clear e1 e2
      as_aux_lemma =>
        go_wp2
        go_quiet (fail)
        have HBW := Lib.hid (below_drewN HB.out nq)

        generalize wr.drewN nq = W at *
        go_wp2
        go_quiet (fail)
        have HB6 := Lib.hid (HB4.out.trans ((below_drewN HBW.out nq).mono HB4.out.size))
        go_wp2_with (go_at_call 16; refine (lives_any _ ?_).mono ?_; exact tabs_below HT.out HB6.out; rintro e w6 ⟨rfl, hb6⟩)
        go_ret
        exact ⟨rfl, after HB6.out hb6⟩


set_option maxRecDepth 20000 in
set_option maxHeartbeats 8000000 in
theorem order_short (w : World) (s t : ByteArray) (hs : s.size ≤ 1048576) (ht : t.size ≤ 1048576) (hT : Lib.Utf8Tabs 0 1 w) (hc : (checkOf s).2 = 0) (hd : (checkOf t).2 = 0) (k0 : Nat) (hA : k0 ≤ (textRunes s).length) (hD : k0 ≤ (textRunes t).length) (hE : (textRunes s).take k0 = (textRunes t).take k0) (e1 : k0 = (textRunes s).length) (e2 : k0 < (textRunes t).length) :
    Calls Tryd.prog 4 #[.string s, .string t] w fun e w' => e = .returned (.bool true) ∧ Below w.heap.size w w' := by
  have hL := less_text hc hd
  have C := check_any w s (by omega) hT
  have CT := fun W hT => check_any W t (by omega) hT
  have RS := fun W => runes_any W s (by omega)
  have RT := fun W => runes_any W t (by omega)
  have ls := textRunes_le s
  have lt := textRunes_le t
  generalize textRunes s = A at *
  generalize textRunes t = D at *
  generalize checkOf s = c at *
  generalize checkOf t = d at *
  obtain ⟨p, q⟩ := c
  obtain ⟨u, v⟩ := d
  simp only at hc hd
  subst hc
  subst hd
  rw [lessI_take A D k0 hE hA hD] at hL
  have hless : Op.bytesLess s.toList t.toList = true := by
    rw [hL]
    rw [List.drop_eq_nil_of_le (show A.length ≤ k0 by omega), List.drop_eq_getElem_cons e2]
    rfl
  have HP := Lib.hid (fun j hj => take_get (A := A) (D := D) (k := k0) (j := j) hE hj)
  have HT := Lib.hid hT
  have HC := Lib.hid C
  have HCT := Lib.hid CT
  have HRS := Lib.hid RS
  have HRT := Lib.hid RT
  clear C CT hT RS RT hL hE
  go_enter Tryd.func4, Tryd.ntmps4
  go_wp2_with fail
  refine HC.out.mono ?_
  rintro e w1 ⟨rfl, hb1⟩
  have HB1 := Lib.hid hb1
  clear hb1 HC
  go_wp2_with fail
  refine (HCT.out _ (tabs_below HT.out HB1.out)).mono ?_
  rintro e w2 ⟨rfl, hb2⟩
  have HB2 := Lib.hid (after HB1.out hb2)
  clear hb2 HCT
  go_wp2_with fail
  refine (HRS.out _).mono ?_
  rintro e w3 ⟨a3, c3, rfl, hown3, hb3⟩
  have HO3 := Lib.hid hown3.toCells
  have HB3 := Lib.hid (after HB2.out hb3)
  clear hown3 hb3 HRS
  go_wp2_with fail
  refine (HRT.out _).mono ?_
  rintro e w4 ⟨a4, c4, rfl, hown4, hb4⟩
  have HD := Lib.hid hown4.toCells
  have HA := Lib.hid (HO3.out.below hb4)
  have HB4 := Lib.hid (after HB3.out hb4)
  clear hown4 hb4 HRT HO3
  go_wp2_with fail
  go_loopw [11] (fun i wr => ∃ k : Nat, k ≤ k0 ∧ i = .int .i64 k ∧ Below w4.heap.size w4 wr) (fun i _ => k0 - (intOf i).toNat)
  case atStart => exact ⟨0, Nat.zero_le _, rfl, Below.refl _ _⟩
  case round =>
    obtain ⟨k, hk, rfl, hb⟩ := hrel
    have HB := Lib.hid hb
    clear hb
    have hk0 : (0 : Int) ≤ (k : Int) := by omega
    by_cases hlt : k < k0
    · obtain ⟨b1, o1, x, rfl, hx, hc1⟩ := (HA.out.below HB.out).at (show k < A.length by omega)
      obtain ⟨b2, o2, y, rfl, hy, hc2⟩ := (HD.out.below HB.out).at (show k < D.length by omega)
      have ha2 : decide ((k : Int) < (A.length : Int)) = true := by simp; omega
      have ha3 : (k : Int) < (A.length : Int) := by omega
      have hd2 : decide ((k : Int) < (D.length : Int)) = true := by simp; omega
      have hd3 : (k : Int) < (D.length : Int) := by omega
      have hxy : x = y := by
        have := HP.out k hlt
        rw [hx, hy] at this
        exact Option.some.inj this
      subst hxy
      have hxx : (x == x) = true := by simp
      clear hx hy hless
      as_aux_lemma =>
        go_wp2
        go_quiet (fail)
        go_wp2
        go_roundw
        case rel => exact ⟨k + 1, by omega, by go_num, below_drewN HB.out _⟩
        case measure => simp [intOf]; omega
    · obtain rfl : k = k0 := by omega
      have ha2 : decide ((k : Int) < (A.length : Int)) = false := by simp; omega
      have ha2n : decide (k < A.length) = false := by simp; omega
      have hd2 : decide ((k : Int) < (D.length : Int)) = true := by simp; omega
      have hd2n : decide (k < D.length) = true := by simp; omega
      have ha4 : ((k : Int) == (A.length : Int)) = true := by simp; omega
      have ha4n : (k == A.length) = true := by simp; omega
      clear e1 e2
      as_aux_lemma =>
        go_wp2
        go_quiet (fail)
        have HBW := Lib.hid (below_drewN HB.out nq)

        generalize wr.drewN nq = W at *
        go_wp2
        go_quiet (fail)
        have HB6 := Lib.hid (HB4.out.trans ((below_drewN HBW.out nq).mono HB4.out.size))
        go_wp2_with (go_at_call 16; refine (lives_any _ ?_).mono ?_; exact tabs_below HT.out HB6.out; rintro e w6 ⟨rfl, hb6⟩)
        go_ret
        exact ⟨rfl, after HB6.out hb6⟩


set_option maxRecDepth 20000 in
set_option maxHeartbeats 8000000 in
theorem order_less (w : World) (s t : ByteArray) (hs : s.size ≤ 1048576) (ht : t.size ≤ 1048576) (hT : Lib.Utf8Tabs 0 1 w) (hc : (checkOf s).2 = 0) (hd : (checkOf t).2 = 0) (k0 : Nat) (hA : k0 ≤ (textRunes s).length) (hD : k0 ≤ (textRunes t).length) (hE : (textRunes s).take k0 = (textRunes t).take k0) (x y : Int) (hx : (textRunes s)[k0]? = some x) (hy : (textRunes t)[k0]? = some y) (hxy : x < y) :
    Calls Tryd.prog 4 #[.string s, .string t] w fun e w' => e = .returned (.bool true) ∧ Below w.heap.size w w' := by
  have hL := less_text hc hd
  have C := check_any w s (by omega) hT
  have CT := fun W hT => check_any W t (by omega) hT
  have RS := fun W => runes_any W s (by omega)
  have RT := fun W => runes_any W t (by omega)
  have ls := textRunes_le s
  have lt := textRunes_le t
  generalize textRunes s = A at *
  generalize textRunes t = D at *
  generalize checkOf s = c at *
  generalize checkOf t = d at *
  obtain ⟨p, q⟩ := c
  obtain ⟨u, v⟩ := d
  simp only at hc hd
  subst hc
  subst hd
  rw [lessI_take A D k0 hE hA hD] at hL
  have hless : Op.bytesLess s.toList t.toList = true := by
    rw [hL]
    rw [get_head A k0 x hx, get_head D k0 y hy]
    simp only [lessI]
    have h1 : ¬ x = y := by omega
    simp [h1]
    omega
  have HP := Lib.hid (fun j hj => take_get (A := A) (D := D) (k := k0) (j := j) hE hj)
  have HT := Lib.hid hT
  have HC := Lib.hid C
  have HCT := Lib.hid CT
  have HRS := Lib.hid RS
  have HRT := Lib.hid RT
  clear C CT hT RS RT hL hE
  go_enter Tryd.func4, Tryd.ntmps4
  go_wp2_with fail
  refine HC.out.mono ?_
  rintro e w1 ⟨rfl, hb1⟩
  have HB1 := Lib.hid hb1
  clear hb1 HC
  go_wp2_with fail
  refine (HCT.out _ (tabs_below HT.out HB1.out)).mono ?_
  rintro e w2 ⟨rfl, hb2⟩
  have HB2 := Lib.hid (after HB1.out hb2)
  clear hb2 HCT
  go_wp2_with fail
  refine (HRS.out _).mono ?_
  rintro e w3 ⟨a3, c3, rfl, hown3, hb3⟩
  have HO3 := Lib.hid hown3.toCells
  have HB3 := Lib.hid (after HB2.out hb3)
  clear hown3 hb3 HRS
  go_wp2_with fail
  refine (HRT.out _).mono ?_
  rintro e w4 ⟨a4, c4, rfl, hown4, hb4⟩
  have HD := Lib.hid hown4.toCells
  have HA := Lib.hid (HO3.out.below hb4)
  have HB4 := Lib.hid (after HB3.out hb4)
  clear hown4 hb4 HRT HO3
  go_wp2_with fail
  go_loopw [11] (fun i wr => ∃ k : Nat, k ≤ k0 ∧ i = .int .i64 k ∧ Below w4.heap.size w4 wr) (fun i _ => k0 - (intOf i).toNat)
  case atStart => exact ⟨0, Nat.zero_le _, rfl, Below.refl _ _⟩
  case round =>
    obtain ⟨k, hk, rfl, hb⟩ := hrel
    have HB := Lib.hid hb
    clear hb
    have hk0 : (0 : Int) ≤ (k : Int) := by omega
    by_cases hlt : k < k0
    · obtain ⟨b1, o1, x, rfl, hx, hc1⟩ := (HA.out.below HB.out).at (show k < A.length by omega)
      obtain ⟨b2, o2, y, rfl, hy, hc2⟩ := (HD.out.below HB.out).at (show k < D.length by omega)
      have ha2 : decide ((k : Int) < (A.length : Int)) = true := by simp; omega
      have ha3 : (k : Int) < (A.length : Int) := by omega
      have hd2 : decide ((k : Int) < (D.length : Int)) = true := by simp; omega
      have hd3 : (k : Int) < (D.length : Int) := by omega
      have hxy : x = y := by
        have := HP.out k hlt
        rw [hx, hy] at this
        exact Option.some.inj this
      subst hxy
      have hxx : (x == x) = true := by simp
      clear hx hy hless
      as_aux_lemma =>
        go_wp2
        go_quiet (fail)
        go_wp2
        go_roundw
        case rel => exact ⟨k + 1, by omega, by go_num, below_drewN HB.out _⟩
        case measure => simp [intOf]; omega
    · obtain rfl : k = k0 := by omega
      have l1 : k < A.length := (List.getElem?_eq_some_iff.1 hx).1
      have l2 : k < D.length := (List.getElem?_eq_some_iff.1 hy).1
      obtain ⟨b1, o1, x', rfl, hx', hc1⟩ := (HA.out.below HB.out).at (show k < A.length by omega)
      obtain ⟨b2, o2, y', rfl, hy', hc2⟩ := (HD.out.below HB.out).at (show k < D.length by omega)
      obtain rfl : x = x' := by rw [hx] at hx'; exact Option.some.inj hx'
      obtain rfl : y = y' := by rw [hy] at hy'; exact Option.some.inj hy'
      have ha2 : decide ((k : Int) < (A.length : Int)) = true := by simp; omega
      have ha2n : decide (k < A.length) = true := by simp; omega
      have ha3 : (k : Int) < (A.length : Int) := by omega
      have hd2 : decide ((k : Int) < (D.length : Int)) = true := by simp; omega
      have hd2n : decide (k < D.length) = true := by simp; omega
      have hd3 : (k : Int) < (D.length : Int) := by omega
      have ha4 : ((k : Int) == (A.length : Int)) = false := by simp; omega
      have ha4n : (k == A.length) = false := by simp; omega
      have hxx : (x == y) = false := by simp; omega
      have hxl : decide (x < y) = true := by simp; omega
      clear hx' hy'
      have hx1 := Lib.hid hx
      have hy1 := Lib.hid hy
      clear hx hy hxy
      as_aux_lemma =>
        go_wp2
        go_quiet (fail)
        have HBW := Lib.hid (below_drewN HB.out nq)
        replace hc1 : (wr.drewN nq).cell? _ = _ := hc1
        replace hc2 : (wr.drewN nq).cell? _ = _ := hc2
        generalize wr.drewN nq = W at *
        go_wp2
        go_quiet (fail)
        have HB6 := Lib.hid (HB4.out.trans ((below_drewN HBW.out nq).mono HB4.out.size))
        go_wp2_with (go_at_call 16; refine (lives_any _ ?_).mono ?_; exact tabs_below HT.out HB6.out; rintro e w6 ⟨rfl, hb6⟩)
        go_ret
        exact ⟨rfl, after HB6.out hb6⟩


set_option maxRecDepth 20000 in
set_option maxHeartbeats 8000000 in
theorem order_more (w : World) (s t : ByteArray) (hs : s.size ≤ 1048576) (ht : t.size ≤ 1048576) (hT : Lib.Utf8Tabs 0 1 w) (hc : (checkOf s).2 = 0) (hd : (checkOf t).2 = 0) (k0 : Nat) (hA : k0 ≤ (textRunes s).length) (hD : k0 ≤ (textRunes t).length) (hE : (textRunes s).take k0 = (textRunes t).take k0) (x y : Int) (hx : (textRunes s)[k0]? = some x) (hy : (textRunes t)[k0]? = some y) (hxy : y < x) :
    Calls Tryd.prog 4 #[.string s, .string t] w fun e w' => e = .returned (.bool true) ∧ Below w.heap.size w w' := by
  have hL := less_text hc hd
  have C := check_any w s (by omega) hT
  have CT := fun W hT => check_any W t (by omega) hT
  have RS := fun W => runes_any W s (by omega)
  have RT := fun W => runes_any W t (by omega)
  have ls := textRunes_le s
  have lt := textRunes_le t
  generalize textRunes s = A at *
  generalize textRunes t = D at *
  generalize checkOf s = c at *
  generalize checkOf t = d at *
  obtain ⟨p, q⟩ := c
  obtain ⟨u, v⟩ := d
  simp only at hc hd
  subst hc
  subst hd
  rw [lessI_take A D k0 hE hA hD] at hL
  have hless : Op.bytesLess s.toList t.toList = false := by
    rw [hL]
    rw [get_head A k0 x hx, get_head D k0 y hy]
    simp only [lessI]
    have h1 : ¬ x = y := by omega
    simp [h1]
    omega
  have HP := Lib.hid (fun j hj => take_get (A := A) (D := D) (k := k0) (j := j) hE hj)
  have HT := Lib.hid hT
  have HC := Lib.hid C
  have HCT := Lib.hid CT
  have HRS := Lib.hid RS
  have HRT := Lib.hid RT
  clear C CT hT RS RT hL hE
  go_enter Tryd.func4, Tryd.ntmps4
  go_wp2_with fail
  refine HC.out.mono ?_
  rintro e w1 ⟨rfl, hb1⟩
  have HB1 := Lib.hid hb1
  clear hb1 HC
  go_wp2_with fail
  refine (HCT.out _ (tabs_below HT.out HB1.out)).mono ?_
  rintro e w2 ⟨rfl, hb2⟩
  have HB2 := Lib.hid (after HB1.out hb2)
  clear hb2 HCT
  go_wp2_with fail
  refine (HRS.out _).mono ?_
  rintro e w3 ⟨a3, c3, rfl, hown3, hb3⟩
  have HO3 := Lib.hid hown3.toCells
  have HB3 := Lib.hid (after HB2.out hb3)
  clear hown3 hb3 HRS
  go_wp2_with fail
  refine (HRT.out _).mono ?_
  rintro e w4 ⟨a4, c4, rfl, hown4, hb4⟩
  have HD := Lib.hid hown4.toCells
  have HA := Lib.hid (HO3.out.below hb4)
  have HB4 := Lib.hid (after HB3.out hb4)
  clear hown4 hb4 HRT HO3
  go_wp2_with fail
  go_loopw [11] (fun i wr => ∃ k : Nat, k ≤ k0 ∧ i = .int .i64 k ∧ Below w4.heap.size w4 wr) (fun i _ => k0 - (intOf i).toNat)
  case atStart => exact ⟨0, Nat.zero_le _, rfl, Below.refl _ _⟩
  case round =>
    obtain ⟨k, hk, rfl, hb⟩ := hrel
    have HB := Lib.hid hb
    clear hb
    have hk0 : (0 : Int) ≤ (k : Int) := by omega
    by_cases hlt : k < k0
    · obtain ⟨b1, o1, x, rfl, hx, hc1⟩ := (HA.out.below HB.out).at (show k < A.length by omega)
      obtain ⟨b2, o2, y, rfl, hy, hc2⟩ := (HD.out.below HB.out).at (show k < D.length by omega)
      have ha2 : decide ((k : Int) < (A.length : Int)) = true := by simp; omega
      have ha3 : (k : Int) < (A.length : Int) := by omega
      have hd2 : decide ((k : Int) < (D.length : Int)) = true := by simp; omega
      have hd3 : (k : Int) < (D.length : Int) := by omega
      have hxy : x = y := by
        have := HP.out k hlt
        rw [hx, hy] at this
        exact Option.some.inj this
      subst hxy
      have hxx : (x == x) = true := by simp
      clear hx hy hless
      as_aux_lemma =>
        go_wp2
        go_quiet (fail)
        go_wp2
        go_roundw
        case rel => exact ⟨k + 1, by omega, by go_num, below_drewN HB.out _⟩
        case measure => simp [intOf]; omega
    · obtain rfl : k = k0 := by omega
      have l1 : k < A.length := (List.getElem?_eq_some_iff.1 hx).1
      have l2 : k < D.length := (List.getElem?_eq_some_iff.1 hy).1
      obtain ⟨b1, o1, x', rfl, hx', hc1⟩ := (HA.out.below HB.out).at (show k < A.length by omega)
      obtain ⟨b2, o2, y', rfl, hy', hc2⟩ := (HD.out.below HB.out).at (show k < D.length by omega)
      obtain rfl : x = x' := by rw [hx] at hx'; exact Option.some.inj hx'
      obtain rfl : y = y' := by rw [hy] at hy'; exact Option.some.inj hy'
      have ha2 : decide ((k : Int) < (A.length : Int)) = true := by simp; omega
      have ha2n : decide (k < A.length) = true := by simp; omega
      have ha3 : (k : Int) < (A.length : Int) := by omega
      have hd2 : decide ((k : Int) < (D.length : Int)) = true := by simp; omega
      have hd2n : decide (k < D.length) = true := by simp; omega
      have hd3 : (k : Int) < (D.length : Int) := by omega
      have ha4 : ((k : Int) == (A.length : Int)) = false := by simp; omega
      have ha4n : (k == A.length) = false := by simp; omega
      have hxx : (x == y) = false := by simp; omega
      have hxl : decide (x < y) = false := by simp; omega
      clear hx' hy'
      have hx1 := Lib.hid hx
      have hy1 := Lib.hid hy
      clear hx hy hxy
      as_aux_lemma =>
        go_wp2
        go_quiet (fail)
        have HBW := Lib.hid (below_drewN HB.out nq)
        replace hc1 : (wr.drewN nq).cell? _ = _ := hc1
        replace hc2 : (wr.drewN nq).cell? _ = _ := hc2
        generalize wr.drewN nq = W at *
        go_wp2
        go_quiet (fail)
        have HB6 := Lib.hid (HB4.out.trans ((below_drewN HBW.out nq).mono HB4.out.size))
        go_wp2_with (go_at_call 16; refine (lives_any _ ?_).mono ?_; exact tabs_below HT.out HB6.out; rintro e w6 ⟨rfl, hb6⟩)
        go_ret
        exact ⟨rfl, after HB6.out hb6⟩


theorem order_walk (w : World) (s : ByteArray) (hs : s.size ≤ 1048576) (t : ByteArray) (ht : t.size ≤ 1048576) (hT : Lib.Utf8Tabs 0 1 w) :
    Calls Tryd.prog 4 #[.string s, .string t] w fun e w' => e = .returned (.bool true) ∧ Below w.heap.size w w' := by
  by_cases hc : (checkOf s).2 = 0 ∧ (checkOf t).2 = 0
  · obtain ⟨k, h1, h2, h3, h4⟩ := part_at (textRunes s) (textRunes t)
    by_cases e1 : k = (textRunes s).length
    · by_cases e2 : k = (textRunes t).length
      · exact order_same w s t hs ht hT hc.1 hc.2 k h1 h2 h3 e1 e2
      · exact order_short w s t hs ht hT hc.1 hc.2 k h1 h2 h3 e1 (by omega)
    · by_cases e2 : k = (textRunes t).length
      · exact order_long w s t hs ht hT hc.1 hc.2 k h1 h2 h3 e2 (by omega)
      · have h5 : (textRunes s)[k]? ≠ (textRunes t)[k]? := by
          rcases h4 with h | h | h
          · exact (e1 h).elim
          · exact (e2 h).elim
          · exact h
        obtain ⟨x, hx⟩ : ∃ x, (textRunes s)[k]? = some x := ⟨_, List.getElem?_eq_getElem (by omega)⟩
        obtain ⟨y, hy⟩ : ∃ y, (textRunes t)[k]? = some y := ⟨_, List.getElem?_eq_getElem (by omega)⟩
        rw [hx, hy] at h5
        by_cases hlt : x < y
        · exact order_less w s t hs ht hT hc.1 hc.2 k h1 h2 h3 x y hx hy hlt
        · exact order_more w s t hs ht hT hc.1 hc.2 k h1 h2 h3 x y hx hy (by have : x ≠ y := fun e => h5 (by rw [e]); omega)
  · exact order_off w s t hs ht hT hc

end Go.Proofs.YthkehgmeaedflaaDoor

