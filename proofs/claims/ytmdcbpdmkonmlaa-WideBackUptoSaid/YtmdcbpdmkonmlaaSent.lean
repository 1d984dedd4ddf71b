/-
  What is laid is read: plain laws; the walk of the law WideSent.
-/
import Derived.Test.YtmdcbpdmkonmlaaRead
import Derived.Test.YtmdcbpdmkonmlaaSame
namespace Go.Proofs.Ytmdcbpdmkonmlaa
open Go.RowKit

theorem layBytes_two (o u : Int) : ∃ x y : UInt8, layBytes o u = [x, y] := by
  unfold layBytes
  split
  · exact ⟨_, _, rfl⟩
  · exact ⟨_, _, rfl⟩

theorem laid_at (o : Int) (us : List Int) (j : Nat) (u : Int) (h : us[j]? = some u) (x y : UInt8) (hb : layBytes o u = [x, y]) : (laidUnits o us)[2 * j]? = some x ∧ (laidUnits o us)[2 * j + 1]? = some y := by
  induction us generalizing j with
  | nil => simp at h
  | cons v us ih =>
    obtain ⟨a, b, hv⟩ := layBytes_two o v
    have e : laidUnits o (v :: us) = a :: b :: laidUnits o us := by simp [laidUnits, hv]
    rw [e]
    cases j with
    | zero =>
      simp at h
      subst h
      rw [hv] at hb
      simp at hb
      simp [hb]
    | succ j =>
      have := ih j (by simpa using h)
      rw [show 2 * (j + 1) = 2 * j + 1 + 1 from by omega]
      simpa using this

theorem byteN_list (l : List UInt8) (i : Nat) (x : UInt8) (h : l[i]? = some x) : byteN ⟨l.toArray⟩ i = x.toNat := by
  unfold byteN
  simp [List.getD_eq_getElem?_getD, h]

/-- A unit's two bytes give it back. -/
theorem unit_back (o : Int) (us : List Int) (j : Nat) (u : Int) (h : us[j]? = some u) (h0 : 0 ≤ u) (h1 : u ≤ 65535) (ho : o = 0 ∨ o = 1) : unitB o ⟨(laidUnits o us).toArray⟩ (2 * j) = u := by
  obtain ⟨x, y, hb⟩ := layBytes_two o u
  obtain ⟨hx, hy⟩ := laid_at o us j u h x y hb
  obtain ⟨n, rfl⟩ := Int.eq_ofNat_of_zero_le h0
  have hn : n ≤ 65535 := by omega
  rcases ho with rfl | rfl
  · rw [unitB_no (by decide), byteN_list _ _ x hx, byteN_list _ _ y hy]
    simp [layBytes] at hb
    obtain ⟨rfl, rfl⟩ := hb
    simp
    omega
  · rw [unitB_yes rfl, byteN_list _ _ x hx, byteN_list _ _ y hy]
    simp [layBytes] at hb
    obtain ⟨rfl, rfl⟩ := hb
    simp
    omega

theorem read_laid (o : Int) (us : List Int) (ho : o = 0 ∨ o = 1) (hwf : ∀ u ∈ us, 0 ≤ u ∧ u ≤ 65535) : readTo o ⟨(laidUnits o us).toArray⟩ us.length = us := by
  apply List.ext_getElem?
  intro i
  unfold readTo
  rw [List.getElem?_map]
  by_cases hi : i < us.length
  · obtain ⟨u, hu⟩ : ∃ u, us[i]? = some u := ⟨_, List.getElem?_eq_getElem hi⟩
    have := hwf u (List.mem_of_getElem? hu)
    rw [List.getElem?_range hi, hu]
    simp only [Option.map_some]
    rw [unit_back o us i u hu this.1 this.2 ho]
  · rw [List.getElem?_eq_none (l := List.range _) (by simpa using hi), List.getElem?_eq_none (by omega)]
    rfl

theorem laid_size (l : List UInt8) : (⟨l.toArray⟩ : ByteArray).size = l.length := by simp [ByteArray.size]

/-- Behind two bytes. -/
theorem behind_two (x y : UInt8) (l : List UInt8) : (⟨(x :: y :: l).toArray⟩ : ByteArray).extract 2 (⟨(x :: y :: l).toArray⟩ : ByteArray).size = ⟨l.toArray⟩ := by
  rw [laid_size]
  apply ByteArray.ext
  apply Array.toList_inj.1
  simp [ByteArray.data_extract]

theorem front_two (x y : UInt8) (l : List UInt8) : ((⟨(x :: y :: l).toArray⟩ : ByteArray).extract 0 2).toList = [x, y] := by
  have : (⟨(x :: y :: l).toArray⟩ : ByteArray).extract 0 2 = ⟨#[x, y]⟩ := by
    apply ByteArray.ext
    apply Array.toList_inj.1
    simp [ByteArray.data_extract]
  rw [this]
  simp [ByteArray.toList, ByteArray.toList.loop, ByteArray.size, ByteArray.get!]

theorem mark_two (x y : UInt8) (l : List UInt8) : markOf ⟨(x :: y :: l).toArray⟩ = if x = 254 ∧ y = 255 then some 0 else if x = 255 ∧ y = 254 then some 1 else none := by
  unfold markOf
  rw [laid_size, if_pos (by simp), front_two]
  by_cases h1 : x = 254 ∧ y = 255
  · obtain ⟨rfl, rfl⟩ := h1
    rfl
  · by_cases h2 : x = 255 ∧ y = 254
    · obtain ⟨rfl, rfl⟩ := h2
      rfl
    · rw [if_neg h1, if_neg h2]
      have e1 : ([x, y] == [(254 : UInt8), 255]) = false := by simpa using h1
      have e2 : ([x, y] == [(255 : UInt8), 254]) = false := by simpa using h2
      rw [e1, e2]
      rfl

theorem readOf_odd {o : Int} {s : ByteArray} (h : ¬ (o = 0 ∨ o = 1)) : readOf o s = ([], 0, 2) := by simp [readOf, h]

/-- With a mark: read by any order. -/
theorem read_marked (o p : Int) (us : List Int) (ho : o = 0 ∨ o = 1) (hp : p = 0 ∨ p = 1) (hwf : ∀ u ∈ us, 0 ≤ u ∧ u ≤ 65535) : readOf o ⟨(markBytes p true ++ laidUnits p us).toArray⟩ = (us, p, 0) := by
  have key : ∀ x y : UInt8, markBytes p true = [x, y] → markOf ⟨(x :: y :: laidUnits p us).toArray⟩ = some p → readOf o ⟨(markBytes p true ++ laidUnits p us).toArray⟩ = (us, p, 0) := by
    intro x y hm hk
    rw [hm]
    show readOf o ⟨(x :: y :: laidUnits p us).toArray⟩ = _
    have hl := laidUnits_length p us
    rw [readOf_some ho (by rw [laid_size]; simp only [List.length_cons]; omega) hk, behind_two, laid_size, hl, show 2 * us.length / 2 = us.length from by omega, read_laid p us hp hwf]
  rcases hp with rfl | rfl
  · exact key 254 255 rfl (by rw [mark_two]; rfl)
  · exact key 255 254 rfl (by rw [mark_two]; rfl)

/-- Without one. -/
theorem read_bare (o : Int) (us : List Int) (ho : o = 0 ∨ o = 1) (hwf : ∀ u ∈ us, 0 ≤ u ∧ u ≤ 65535) (h : us[0]? ≠ some 65279 ∧ us[0]? ≠ some 65534) : readOf o ⟨(markBytes o false ++ laidUnits o us).toArray⟩ = (us, o, 0) := by
  have hl := laidUnits_length o us
  have hm : markOf ⟨(laidUnits o us).toArray⟩ = none := by
    cases us with
    | nil => unfold markOf; rw [laid_size, hl, if_neg (by simp)]
    | cons u us =>
      obtain ⟨h2, h3⟩ := h
      simp at h2 h3
      obtain ⟨x, y, hb⟩ := layBytes_two o u
      have e : laidUnits o (u :: us) = x :: y :: laidUnits o us := by simp [laidUnits, hb]
      have hu := hwf u (by simp)
      obtain ⟨n, rfl⟩ := Int.eq_ofNat_of_zero_le hu.1
      have hn : n ≤ 65535 := by have := hu.2; omega
      rw [e, mark_two, if_neg, if_neg]
      · rintro ⟨rfl, rfl⟩
        rcases ho with rfl | rfl
        · simp [layBytes] at hb
          obtain ⟨b1, b2⟩ := hb
          have c1 := congrArg UInt8.toNat b1
          have c2 := congrArg UInt8.toNat b2
          simp at c1 c2
          omega
        · simp [layBytes] at hb
          obtain ⟨b1, b2⟩ := hb
          have c1 := congrArg UInt8.toNat b1
          have c2 := congrArg UInt8.toNat b2
          simp at c1 c2
          omega
      · rintro ⟨rfl, rfl⟩
        rcases ho with rfl | rfl
        · simp [layBytes] at hb
          obtain ⟨b1, b2⟩ := hb
          have c1 := congrArg UInt8.toNat b1
          have c2 := congrArg UInt8.toNat b2
          simp at c1 c2
          omega
        · simp [layBytes] at hb
          obtain ⟨b1, b2⟩ := hb
          have c1 := congrArg UInt8.toNat b1
          have c2 := congrArg UInt8.toNat b2
          simp at c1 c2
          omega
  show readOf o ⟨(laidUnits o us).toArray⟩ = _
  rw [readOf_none ho (by rw [laid_size, hl]; omega) hm, laid_size, hl, show 2 * us.length / 2 = us.length from by omega, read_laid o us ho hwf]

/-- .. where the first unit is a mark. -/
theorem read_lost (o : Int) (us : List Int) (ho : o = 0 ∨ o = 1) (h : us[0]? = some 65279 ∨ us[0]? = some 65534) : (readOf o ⟨(markBytes o false ++ laidUnits o us).toArray⟩).1.length = us.length - 1 ∧ (readOf o ⟨(markBytes o false ++ laidUnits o us).toArray⟩).2.2 = 0 := by
  cases us with
  | nil => simp at h
  | cons u us =>
    have hl := laidUnits_length o us
    obtain ⟨x, y, hb⟩ := layBytes_two o u
    have e : laidUnits o (u :: us) = x :: y :: laidUnits o us := by simp [laidUnits, hb]
    have key : ∀ p : Int, markOf ⟨(x :: y :: laidUnits o us).toArray⟩ = some p → (readOf o ⟨(markBytes o false ++ laidUnits o (u :: us)).toArray⟩).1.length = (u :: us).length - 1 ∧ (readOf o ⟨(markBytes o false ++ laidUnits o (u :: us)).toArray⟩).2.2 = 0 := by
      intro p hk
      have e2 : (⟨(markBytes o false ++ laidUnits o (u :: us)).toArray⟩ : ByteArray) = ⟨(x :: y :: laidUnits o us).toArray⟩ := by rw [e]; rfl
      rw [e2, readOf_some ho (by rw [laid_size]; simp only [List.length_cons]; omega) hk, behind_two, laid_size, hl]
      refine ⟨?_, rfl⟩
      simp only [readTo_length, List.length_cons]
      omega
    simp at h
    rcases h with rfl | rfl
    · rcases ho with rfl | rfl
      · simp [layBytes] at hb
        obtain ⟨rfl, rfl⟩ := hb
        exact key 0 (by rw [mark_two]; rfl)
      · simp [layBytes] at hb
        obtain ⟨rfl, rfl⟩ := hb
        exact key 1 (by rw [mark_two]; rfl)
    · rcases ho with rfl | rfl
      · simp [layBytes] at hb
        obtain ⟨rfl, rfl⟩ := hb
        exact key 1 (by rw [mark_two]; rfl)
      · simp [layBytes] at hb
        obtain ⟨rfl, rfl⟩ := hb
        exact key 0 (by rw [mark_two]; rfl)

theorem u16_of {l : List Int} (h : ∀ x ∈ l, (Lit.int .u16 x).wf = true) : ∀ u ∈ l, 0 ≤ u ∧ u ≤ 65535 := by
  intro u hu
  simpa [Lit.wf, IntKind.min, IntKind.max, IntKind.signed, IntKind.bits] using h u hu
theorem u8_of {x : Int} (h : (Lit.int .u8 x).wf = true) : 0 ≤ x ∧ x ≤ 255 := by
  simpa [Lit.wf, IntKind.min, IntKind.max, IntKind.signed, IntKind.bits] using h

theorem layOf_bad {o : Int} (m : Bool) (us : List Int) (h : ¬ (o = 0 ∨ o = 1)) : layOf o m us = (.empty, 2) := by simp [layOf, h]
theorem layOf_good {o : Int} (m : Bool) (us : List Int) (h : o = 0 ∨ o = 1) : layOf o m us = (⟨(markBytes o m ++ laidUnits o us).toArray⟩, 0) := by simp [layOf, h]

set_option maxRecDepth 20000 in
set_option maxHeartbeats 4000000 in
theorem sent_walk (w : World) (o : Int) (wo : (Lit.int .u8 o).wf = true) (p : Int) (wp : (Lit.int .u8 p).wf = true) (a : Option Addr) (c : Nat) (us : List Int) (hle : us.length ≤ c) (hc : c ≤ 1048576) (hr : Cells w a (us.map (Value.int .u16))) (hwf : ∀ x ∈ us, (Lit.int .u16 x).wf = true) :
    Calls Try.prog 11 #[.int .u8 o, .int .u8 p, .slice a us.length c] w fun e w' => e = .returned (.bool true) ∧ Below w.heap.size w w' := by
  obtain ⟨wo0, wo1⟩ := u8_of wo
  obtain ⟨wp0, wp1⟩ := u8_of wp
  have hwf2 := u16_of hwf
  have hn : us.length ≤ 1048576 := by omega
  have HR := Lib.hid hr
  have HW := Lib.hid hwf2
  clear wo wp hr hwf hwf2 hle hc
  by_cases ho : 1 < o
  · by_cases hpo : p ≤ o
    · have hmx : ¬ o < p := by omega
      have hm : ¬ (o = 0 ∨ o = 1) := by omega
      have hl := fun W h => lay_any W o true a c us (by omega) h HW.out
      rw [layOf_bad _ _ hm] at hl
      have hrd := fun W => read_any W o .empty (by decide)
      rw [readOf_odd hm] at hrd
      have HL := Lib.hid hl
      have HD := Lib.hid hrd
      clear hl hrd hm
      go_enter Try.func11, Try.ntmps11
      go_wp2_with (first
        | (go_at_call 39; refine (HL.out _ HR.out).mono ?_; rintro e w1 ⟨rfl, hb1⟩)
        | (go_at_call 42; refine (HD.out _).mono ?_; rintro e w2 ⟨a2, n2, c2, rfl, hown2, hb2⟩)
        | (go_at_call 20; refine (awake_any _).mono ?_; rintro e w3 ⟨rfl, hb3⟩))
      go_ret
      exact ⟨rfl, after (after hb1 hb2) hb3⟩
    · have hmx : o < p := by omega
      have hm : ¬ (p = 0 ∨ p = 1) := by omega
      have hl := fun W h => lay_any W p true a c us (by omega) h HW.out
      rw [layOf_bad _ _ hm] at hl
      have hrd := fun W => read_any W p .empty (by decide)
      rw [readOf_odd hm] at hrd
      have HL := Lib.hid hl
      have HD := Lib.hid hrd
      clear hl hrd hm
      go_enter Try.func11, Try.ntmps11
      go_wp2_with (first
        | (go_at_call 39; refine (HL.out _ HR.out).mono ?_; rintro e w1 ⟨rfl, hb1⟩)
        | (go_at_call 42; refine (HD.out _).mono ?_; rintro e w2 ⟨a2, n2, c2, rfl, hown2, hb2⟩)
        | (go_at_call 20; refine (awake_any _).mono ?_; rintro e w3 ⟨rfl, hb3⟩))
      go_ret
      exact ⟨rfl, after (after hb1 hb2) hb3⟩
  by_cases hp : 1 < p
  · have hmx : o < p := by omega
    have ho1 : o ≤ 1 := by omega
    have hod : decide (1 < o) = false := decide_eq_false ho
    have hm : ¬ (p = 0 ∨ p = 1) := by omega
    have hl := fun W h => lay_any W p true a c us (by omega) h HW.out
    rw [layOf_bad _ _ hm] at hl
    have hrd := fun W => read_any W p .empty (by decide)
    rw [readOf_odd hm] at hrd
    have HL := Lib.hid hl
    have HD := Lib.hid hrd
    clear hl hrd hm
    go_enter Try.func11, Try.ntmps11
    go_wp2_with (first
      | (go_at_call 39; refine (HL.out _ HR.out).mono ?_; rintro e w1 ⟨rfl, hb1⟩)
      | (go_at_call 42; refine (HD.out _).mono ?_; rintro e w2 ⟨a2, n2, c2, rfl, hown2, hb2⟩)
      | (go_at_call 20; refine (awake_any _).mono ?_; rintro e w3 ⟨rfl, hb3⟩))
    go_ret
    exact ⟨rfl, after (after hb1 hb2) hb3⟩
  have hod : decide (1 < o) = false := decide_eq_false ho
  have hpd : decide (1 < p) = false := decide_eq_false hp
  have hO : o = 0 ∨ o = 1 := by omega
  have hP : p = 0 ∨ p = 1 := by omega
  have hl1 := fun W h => lay_any W p true a c us (by omega) h HW.out
  rw [layOf_good _ _ hP] at hl1
  have hl2 := fun W h => lay_any W o false a c us (by omega) h HW.out
  rw [layOf_good _ _ hO] at hl2
  have hs1 : (⟨(markBytes p true ++ laidUnits p us).toArray⟩ : ByteArray).size = 2 * us.length + 2 := by rw [laid_size, List.length_append, laidUnits_length, markBytes_length]; simp; omega
  have hs2 : (⟨(markBytes o false ++ laidUnits o us).toArray⟩ : ByteArray).size = 2 * us.length := by rw [laid_size, List.length_append, laidUnits_length, markBytes_length]; simp
  have hr1 := fun W => read_any W o ⟨(markBytes p true ++ laidUnits p us).toArray⟩ (by omega)
  rw [read_marked o p us hO hP HW.out] at hr1
  have hr2 := fun W => read_any W o ⟨(markBytes o false ++ laidUnits o us).toArray⟩ (by omega)
  have rb := read_bare o us hO HW.out
  have rl := read_lost o us hO
  generalize (⟨(markBytes p true ++ laidUnits p us).toArray⟩ : ByteArray) = S1 at *
  generalize (⟨(markBytes o false ++ laidUnits o us).toArray⟩ : ByteArray) = S2 at *
  have HL1 := Lib.hid hl1
  have HL2 := Lib.hid hl2
  have HD1 := Lib.hid hr1
  have HD2 := Lib.hid hr2
  have RB := Lib.hid rb
  have RL := Lib.hid rl
  have HS2 := Lib.hid hs2
  clear hl1 hl2 hr1 hr2 rb rl hs2 hO hP ho hp
  have hsi : (S1.size : Int) = 2 * (us.length : Int) + 2 := by omega
  clear hs1
  go_enter Try.func11, Try.ntmps11
  go_wp2_with (first
    | (go_at_call 39; refine (HL1.out _ HR.out).mono ?_; rintro e w1 ⟨rfl, hb1⟩)
    | (go_at_call 42; refine (HD1.out _).mono ?_; rintro e w2 ⟨a2, n2, c2, rfl, hown2, hb2⟩))
  obtain rfl : n2 = us.length := by have := hown2.len; simpa using this.symm
  have hb12 := after hb1 hb2
  have HR2 := Lib.hid (HR.out.below hb12)
  have HB2 := Lib.hid hb12
  have hsm := same_any w2 a2 c2 us a c us (by omega) hown2.toCells HR2.out
  rw [decide_eq_true rfl] at hsm
  refine hsm.mono ?_
  rintro e w3 ⟨rfl, hb3⟩
  have HR3 := Lib.hid (HR2.out.below hb3)
  have HB3 := Lib.hid (after HB2.out hb3)
  clear hsm hown2 hb1 hb2 hb12 hb3
  go_wp2_with (go_at_call 39; refine (HL2.out _ HR3.out).mono ?_; rintro e w4 ⟨rfl, hb4⟩)
  have HR4 := Lib.hid (HR3.out.below hb4)
  have HB4 := Lib.hid (after HB3.out hb4)
  clear hb4
  have fin : ∀ (w5 w6 : World), Below w4.heap.size w4 w5 → Below w5.heap.size w5 w6 → Below w.heap.size w w6 := fun w5 w6 h5 h6 => after (after HB4.out h5) h6
  have FIN := Lib.hid fin
  clear fin
  cases us with
  | nil =>
    have hd2 := HD2.out w4
    rw [RB.out (by simp)] at hd2
    refine hd2.mono ?_
    rintro e w5 ⟨a5, n5, c5, rfl, hown5, hb5⟩
    obtain rfl : n5 = 0 := by have := hown5.len; simpa using this.symm
    have hsm := same_any w5 a5 c5 [] a c [] (by simp) hown5.toCells (Cells.nil _ _)
    rw [decide_eq_true rfl] at hsm
    have HSM := Lib.hid hsm
    clear hd2 hsm hown5
    go_wp2_with (first
      | (go_at_call 29; refine HSM.out.mono ?_; rintro e w6 ⟨rfl, hb6⟩)
      | (go_at_call 20; refine (awake_any _).mono ?_; rintro e w7 ⟨rfl, hb7⟩))
    go_ret
    exact ⟨rfl, after (FIN.out _ _ hb5 hb6) hb7⟩
  | cons u us =>
    generalize hU : u :: us = U at *
    have hU0 : U[0]? = some u := by rw [← hU]; rfl
    have hUl : 0 < U.length := by rw [← hU]; simp
    have hUi : (0 : Int) < (U.length : Int) := by omega
    have HU0 := Lib.hid hU0
    have HU := Lib.hid hU
    clear hU hU0
    by_cases hx : u = 65279
    ·
      have hd2 := HD2.out w4
      have hl5 := RL.out (.inl (by rw [HU0.out, hx]))
      generalize readOf o S2 = G at *
      obtain ⟨l5, q5, e5⟩ := G
      obtain ⟨hl5, he5⟩ := hl5
      simp only at hl5 he5 hd2
      subst he5
      refine hd2.mono ?_
      rintro e w5 ⟨a5, n5, c5, rfl, hown5, hb5⟩
      obtain rfl : n5 = l5.length := by have := hown5.len; simpa using this.symm
      have hni : (l5.length : Int) = (U.length : Int) - 1 := by omega
      obtain ⟨b, off, x, rfl, hx0, hc0⟩ := (HR4.out.below hb5).at hUl
      rw [HU0.out] at hx0
      cases hx0
      subst hx
      rw [Nat.add_zero] at hc0
      have HB5 := Lib.hid hb5
      clear hd2 hown5 hl5 hb5
      go_wp2_with (first
        | (go_at_call 20; refine (awake_any _).mono ?_; rintro e w7 ⟨rfl, hb7⟩))
      go_ret
      exact ⟨rfl, FIN.out _ _ HB5.out hb7⟩
    · by_cases hy : u = 65534
      ·
        have hd2 := HD2.out w4
        have hl5 := RL.out (.inr (by rw [HU0.out, hy]))
        generalize readOf o S2 = G at *
        obtain ⟨l5, q5, e5⟩ := G
        obtain ⟨hl5, he5⟩ := hl5
        simp only at hl5 he5 hd2
        subst he5
        refine hd2.mono ?_
        rintro e w5 ⟨a5, n5, c5, rfl, hown5, hb5⟩
        obtain rfl : n5 = l5.length := by have := hown5.len; simpa using this.symm
        have hni : (l5.length : Int) = (U.length : Int) - 1 := by omega
        obtain ⟨b, off, x, rfl, hx0, hc0⟩ := (HR4.out.below hb5).at hUl
        rw [HU0.out] at hx0
        cases hx0
        subst hy
        rw [Nat.add_zero] at hc0
        have HB5 := Lib.hid hb5
        clear hd2 hown5 hl5 hb5
        go_wp2_with (first
          | (go_at_call 20; refine (awake_any _).mono ?_; rintro e w7 ⟨rfl, hb7⟩))
        go_ret
        exact ⟨rfl, FIN.out _ _ HB5.out hb7⟩
      ·
        have hd2 := HD2.out w4
        rw [RB.out (by rw [HU0.out]; simp [hx, hy])] at hd2
        refine hd2.mono ?_
        rintro e w5 ⟨a5, n5, c5, rfl, hown5, hb5⟩
        obtain rfl : n5 = U.length := by have := hown5.len; simpa using this.symm
        have HR5 := HR4.out.below hb5
        have hsm := same_any w5 a5 c5 U a c U (by omega) hown5.toCells HR5
        rw [decide_eq_true rfl] at hsm
        have HSM := Lib.hid hsm
        obtain ⟨b, off, x, rfl, hx0, hc0⟩ := HR5.at hUl
        rw [HU0.out] at hx0
        cases hx0
        rw [Nat.add_zero] at hc0
        have hxb : (u == 65279) = false := by simpa using hx
        have hyb : (u == 65534) = false := by simpa using hy
        have HB5 := Lib.hid hb5
        clear hd2 hsm hown5 hb5 HR5 hx hy
        go_wp2_with (first
          | (go_at_call 29; refine HSM.out.mono ?_; rintro e w6 ⟨rfl, hb6⟩)
          | (go_at_call 20; refine (awake_any _).mono ?_; rintro e w7 ⟨rfl, hb7⟩))
        go_ret
        exact ⟨rfl, after (FIN.out _ _ HB5.out hb6) hb7⟩

end Go.Proofs.Ytmdcbpdmkonmlaa
