/-
  The reference's places; the walk of the law WidePlaces.
-/
import Derived.Test.YtmdcbpdmkonmlaaRSpots
namespace Go.Proofs.Ytmdcbpdmkonmlaa
open Go.RowKit

def runitL : List (Nat × Nat) → Nat → Nat → Nat → Int × Int
  | [], size, at_, n => if at_ = size then (n, 0) else (0, 23)
  | (i, r) :: rest, size, at_, n => if i = at_ then (n, 0) else runitL rest size at_ (n + (widthOf r).toNat)
def rbyteL : List (Nat × Nat) → Nat → Int → Nat → Int × Int
  | [], size, unit, n => if (n : Int) = unit then (size, 0) else if unit < 0 ∨ n < unit then (0, 2) else (0, 23)
  | (i, r) :: rest, size, unit, n => if (n : Int) = unit then (i, 0) else rbyteL rest size unit (n + (widthOf r).toNat)

theorem runit_past (s : ByteArray) (q : Nat) (m pos n : Nat) (hm : s.size ≤ pos + m) (hq : q < pos) (hq2 : q < s.size) : runitL (spotsFrom s pos) s.size q n = (0, 23) := by
  induction m generalizing pos n with
  | zero => rw [spotsFrom_end s pos (by omega)]; simp only [runitL]; rw [if_neg (by omega)]
  | succ m ih =>
    by_cases h : pos < s.size
    · have := decode_width s pos
      rw [spotsFrom_more s pos h]
      simp only [runitL]
      rw [if_neg (by omega)]
      exact ih _ _ (by omega) (by omega)
    · rw [spotsFrom_end s pos h]; simp only [runitL]; rw [if_neg (by omega)]

theorem runit_eq (s : ByteArray) (q : Nat) (hq : q ≤ s.size) (m pos n : Nat) (hm : s.size ≤ pos + m) : runitL (spotsFrom s pos) s.size q n = unitAtL (spotsFrom s pos) s.size q n := by
  induction m generalizing pos n with
  | zero =>
    rw [spotsFrom_end s pos (by omega)]
    simp only [runitL, unitAtL]
    by_cases h : q = s.size
    · rw [if_pos h, if_neg (by omega)]
    · rw [if_neg h, if_pos (by omega)]
  | succ m ih =>
    by_cases h : pos < s.size
    · have := decode_width s pos
      rw [spotsFrom_more s pos h]
      simp only [runitL, unitAtL]
      by_cases h1 : pos = q
      · rw [if_pos h1, if_pos h1]
      · rw [if_neg h1, if_neg h1]
        by_cases h2 : q < pos
        · rw [if_pos h2]
          exact runit_past s q m _ _ (by omega) (by omega) (by omega)
        · rw [if_neg h2]
          exact ih _ _ (by omega)
    · rw [spotsFrom_end s pos h]
      simp only [runitL, unitAtL]
      by_cases h : q = s.size
      · rw [if_pos h, if_neg (by omega)]
      · rw [if_neg h, if_pos (by omega)]

theorem rbyte_past (l : List (Nat × Nat)) (size : Nat) (v : Nat) (n : Nat) (h : v < n) : rbyteL l size v n = (0, 23) := by
  induction l generalizing n with
  | nil => simp only [rbyteL]; rw [if_neg (by omega), if_neg (by omega)]
  | cons x l ih =>
    obtain ⟨i, r⟩ := x
    simp only [rbyteL]
    rw [if_neg (by omega)]
    exact ih _ (by omega)

theorem rbyte_eq (l : List (Nat × Nat)) (size : Nat) (v : Nat) (n : Nat) (h : n ≤ v) : rbyteL l size v n = byteAtL l size v n := by
  induction l generalizing n with
  | nil =>
    simp only [rbyteL, byteAtL]
    by_cases h1 : n = v
    · rw [if_pos (by omega), if_neg (by omega)]
    · rw [if_neg (by omega), if_pos (by omega), if_pos (by omega)]
  | cons x l ih =>
    obtain ⟨i, r⟩ := x
    simp only [rbyteL, byteAtL]
    by_cases h1 : n = v
    · rw [if_pos (by omega), if_pos h1]
    · rw [if_neg (by omega), if_neg h1]
      by_cases h2 : v < n + (widthOf r).toNat
      · rw [if_pos h2, rbyte_past _ _ _ _ h2]
      · rw [if_neg h2]
        exact ih _ (by omega)

theorem rbyte_neg (l : List (Nat × Nat)) (size : Nat) (v : Int) (n : Nat) (h : v < 0) : rbyteL l size v n = (0, 2) := by
  induction l generalizing n with
  | nil => simp only [rbyteL]; rw [if_neg (by omega), if_pos (.inl h)]
  | cons x l ih =>
    obtain ⟨i, r⟩ := x
    simp only [rbyteL]
    rw [if_neg (by omega)]
    exact ih _

theorem rbyte_of (s : ByteArray) (v : Int) : rbyteL (spotsFrom s 0) s.size v 0 = byteAtOf s v := by
  unfold byteAtOf
  by_cases h : v < 0
  · rw [if_pos h, rbyte_neg _ _ _ _ h]
  · obtain ⟨n, rfl⟩ := Int.eq_ofNat_of_zero_le (Int.not_lt.1 h)
    rw [if_neg h, rbyte_eq _ _ _ _ (Nat.zero_le _)]
    rfl

set_option maxHeartbeats 2000000 in
theorem runitAt_any (w : World) (s : ByteArray) (hs : s.size ≤ 1099511627776) (p : Int) :
    Calls Try.prog 34 #[.string s, .int .i64 p] w fun e w' => e = .returned (.tuple #[.int .i64 (unitAtOf s p).1, .int .i64 (unitAtOf s p).2]) ∧ Below w.heap.size w w' := by
  by_cases hp : p < 0
  · have hu : unitAtOf s p = (0, 2) := by simp [unitAtOf, hp]
    rw [hu]
    clear hu
    go_enter Try.func34, Try.ntmps34
    go_wp2
    go_ret2
    exact ⟨rfl, Below.refl _ _⟩
  obtain ⟨q, rfl⟩ := Int.eq_ofNat_of_zero_le (Int.not_lt.1 hp)
  clear hp
  by_cases hq : s.size < q
  · have hu : unitAtOf s q = (0, 2) := by simp [unitAtOf]; intro h; omega
    rw [hu]
    clear hu
    go_enter Try.func34, Try.ntmps34
    go_wp2
    go_ret2
    exact ⟨rfl, Below.refl _ _⟩
  have hu : unitAtOf s q = runitL (spotsFrom s 0) s.size q 0 := by
    rw [runit_eq s q (by omega) s.size 0 0 (by omega)]
    simp [unitAtOf]; intro h; omega
  rw [hu]
  clear hu
  have hd0 : decide ((q : Int) < 0) = false := decide_eq_false (by omega)
  have hd1 : decide (s.size < q) = false := decide_eq_false hq
  have hd2 : decide ((s.size : Int) < (q : Int)) = false := decide_eq_false (by omega)
  obtain ⟨R, hR⟩ : ∃ R, R = runitL (spotsFrom s 0) s.size q 0 := ⟨_, rfl⟩
  rw [← hR]
  have HR := Lib.hid hR
  clear hR
  go_enter Try.func34, Try.ntmps34
  go_wp2_with (go_at_call 58; refine (spots_any _ s hs).mono ?_; rintro e w1 ⟨a1, c1, L, rfl, hown1, hL, hb1⟩)
  have hlen : L.length ≤ 1099511627776 := by
    have h1 := congrArg List.length hL
    have h2 := spotsN_le s s.size 0
    rw [List.length_map] at h1
    unfold spotsFrom at h1
    omega
  have HO1 := Lib.hid hown1
  have HB1 := Lib.hid hb1
  have HL := Lib.hid hL
  clear hown1 hb1 hL
  go_loopw [7, 8] (fun v x wr => w1 = wr ∧ ∃ (k n : Nat), k ≤ L.length ∧ n ≤ 2 * k ∧ x = .int .i64 k ∧ v = .int .i64 n ∧ R = runitL ((L.drop k).map spotK) s.size q n) (fun _ x _ => L.length - (intOf x).toNat)
  case atStart => exact ⟨rfl, 0, 0, Nat.zero_le _, Nat.le_refl _, rfl, rfl, by rw [HR.out, ← HL.out]; rfl⟩
  case round =>
    obtain ⟨rfl, k, n, hk, hnk, rfl, rfl, hRk⟩ := hrel
    by_cases hlt : k < L.length
    · obtain ⟨x, hx⟩ : ∃ x, L[k]? = some x := ⟨_, List.getElem?_eq_getElem hlt⟩
      obtain ⟨g, hg, q1, q2, q3, q4⟩ := HO1.out.addr (by have := HO1.out.le; omega)
      subst hg
      have hc0 : w1.cell? ⟨g, k * 4, none⟩ = some (.int .i64 x.1) := q3 _ _ (by have := spotL_at L k x hx 0 (by omega); rw [Nat.add_zero] at this; rw [this]; rfl)
      have hc2 : w1.cell? ⟨g, k * 4 + 2, none⟩ = some (.int .i32 x.2.2.1) := q3 _ _ (by rw [spotL_at L k x hx 2 (by omega)]; rfl)
      have hdr : L.drop k = x :: L.drop (k + 1) := by
        rw [List.drop_eq_getElem_cons hlt]
        congr 1
        rw [List.getElem?_eq_getElem hlt] at hx
        exact Option.some.inj hx
      rw [hdr] at hRk
      have h0 : (0 : Int) ≤ (k : Int) := by omega
      have h1 : (k : Int) < (L.length : Int) := by omega
      obtain ⟨b, wd, r, c⟩ := x
      simp only [List.map_cons, spotK] at hRk hc0 hc2
      have H1 := Lib.hid hRk
      clear hRk hx hdr q3 q4
      obtain ⟨hw1, hw2, hw3⟩ := widthOf_nat r
      obtain ⟨wu, hwu⟩ : ∃ wu, wu = (widthOf r).toNat := ⟨_, rfl⟩
      rw [← hwu] at hw1 hw2 hw3
      have HW1 := Lib.hid hw1
      have HWU := Lib.hid hwu
      clear hw1 hwu
      by_cases hbq : b = q
      · have hbb : ((b : Int) == (q : Int)) = true := by simp; omega
        have hv : R = ((n : Int), 0) := by rw [H1.out]; simp only [runitL]; rw [if_pos hbq]
        have HV := Lib.hid hv
        clear hv hbq
        go_wp2
        go_ret2
        have hv := HV.out
        exact ⟨by subst hv; rfl, HB1.out⟩
      · have hbb : ((b : Int) == (q : Int)) = false := by simp; omega
        have HBQ := Lib.hid hbq
        clear hbq
        go_wp2_with (go_at_call 19; refine (rwidth_any _ _).mono ?_; rw [HW1.out]; rintro e w' ⟨rfl, rfl⟩)
        go_roundw
        case rel => exact ⟨by trivial, k + 1, n + wu, by omega, by omega, by go_num, by go_num, by rw [H1.out, HWU.out]; simp only [runitL]; rw [if_neg HBQ.out]⟩
        case measure => simp [intOf]; omega
    · rw [List.drop_eq_nil_of_le (by omega)] at hRk
      have H1 := Lib.hid hRk
      clear hRk
      by_cases hqs : q = s.size
      · have hbb : ((q : Int) == (s.size : Int)) = true := by simp; omega
        have hv : R = ((n : Int), 0) := by rw [H1.out]; simp only [List.map_nil, runitL]; rw [if_pos hqs]
        have HV := Lib.hid hv
        clear hv hqs
        go_wp2
        go_ret2
        have hv := HV.out
        exact ⟨by subst hv; rfl, HB1.out⟩
      · have hbb : ((q : Int) == (s.size : Int)) = false := by simp; omega
        have hv : R = (0, 23) := by rw [H1.out]; simp only [List.map_nil, runitL]; rw [if_neg hqs]
        have HV := Lib.hid hv
        clear hv hqs
        go_wp2
        go_ret2
        have hv := HV.out
        exact ⟨by subst hv; rfl, HB1.out⟩

set_option maxHeartbeats 2000000 in
theorem rbyteAt_any (w : World) (s : ByteArray) (hs : s.size ≤ 1099511627776) (p : Int) :
    Calls Try.prog 36 #[.string s, .int .i64 p] w fun e w' => e = .returned (.tuple #[.int .i64 (byteAtOf s p).1, .int .i64 (byteAtOf s p).2]) ∧ Below w.heap.size w w' := by
  obtain ⟨R, hR⟩ : ∃ R, R = byteAtOf s p := ⟨_, rfl⟩
  rw [← hR]
  rw [← rbyte_of s p] at hR
  have HR := Lib.hid hR
  clear hR
  go_enter Try.func36, Try.ntmps36
  go_wp2_with (go_at_call 58; refine (spots_any _ s hs).mono ?_; rintro e w1 ⟨a1, c1, L, rfl, hown1, hL, hb1⟩)
  have hlen : L.length ≤ 1099511627776 := by
    have h1 := congrArg List.length hL
    have h2 := spotsN_le s s.size 0
    rw [List.length_map] at h1
    unfold spotsFrom at h1
    omega
  have HO1 := Lib.hid hown1
  have HB1 := Lib.hid hb1
  have HL := Lib.hid hL
  clear hown1 hb1 hL
  go_loopw [7, 8] (fun v x wr => w1 = wr ∧ ∃ (k n : Nat), k ≤ L.length ∧ n ≤ 2 * k ∧ x = .int .i64 k ∧ v = .int .i64 n ∧ R = rbyteL ((L.drop k).map spotK) s.size p n) (fun _ x _ => L.length - (intOf x).toNat)
  case atStart => exact ⟨rfl, 0, 0, Nat.zero_le _, Nat.le_refl _, rfl, rfl, by rw [HR.out, ← HL.out]; rfl⟩
  case round =>
    obtain ⟨rfl, k, n, hk, hnk, rfl, rfl, hRk⟩ := hrel
    by_cases hlt : k < L.length
    · obtain ⟨x, hx⟩ : ∃ x, L[k]? = some x := ⟨_, List.getElem?_eq_getElem hlt⟩
      obtain ⟨g, hg, q1, q2, q3, q4⟩ := HO1.out.addr (by have := HO1.out.le; omega)
      subst hg
      have hc0 : w1.cell? ⟨g, k * 4, none⟩ = some (.int .i64 x.1) := q3 _ _ (by have := spotL_at L k x hx 0 (by omega); rw [Nat.add_zero] at this; rw [this]; rfl)
      have hc2 : w1.cell? ⟨g, k * 4 + 2, none⟩ = some (.int .i32 x.2.2.1) := q3 _ _ (by rw [spotL_at L k x hx 2 (by omega)]; rfl)
      have hdr : L.drop k = x :: L.drop (k + 1) := by
        rw [List.drop_eq_getElem_cons hlt]
        congr 1
        rw [List.getElem?_eq_getElem hlt] at hx
        exact Option.some.inj hx
      rw [hdr] at hRk
      have h0 : (0 : Int) ≤ (k : Int) := by omega
      have h1 : (k : Int) < (L.length : Int) := by omega
      obtain ⟨b, wd, r, c⟩ := x
      simp only [List.map_cons, spotK] at hRk hc0 hc2
      have H1 := Lib.hid hRk
      clear hRk hx hdr q3 q4
      obtain ⟨hw1, hw2, hw3⟩ := widthOf_nat r
      obtain ⟨wu, hwu⟩ : ∃ wu, wu = (widthOf r).toNat := ⟨_, rfl⟩
      rw [← hwu] at hw1 hw2 hw3
      have HW1 := Lib.hid hw1
      have HWU := Lib.hid hwu
      clear hw1 hwu
      by_cases hbq : (n : Int) = p
      · have hbb : ((n : Int) == p) = true := by simp [hbq]
        have hv : R = ((b : Int), 0) := by rw [H1.out]; simp only [rbyteL]; rw [if_pos hbq]
        have HV := Lib.hid hv
        clear hv hbq
        go_wp2
        go_ret2
        have hv := HV.out
        exact ⟨by subst hv; rfl, HB1.out⟩
      · have hbb : ((n : Int) == p) = false := by simp [hbq]
        have HBQ := Lib.hid hbq
        clear hbq
        go_wp2_with (go_at_call 19; refine (rwidth_any _ _).mono ?_; rw [HW1.out]; rintro e w' ⟨rfl, rfl⟩)
        go_roundw
        case rel => exact ⟨by trivial, k + 1, n + wu, by omega, by omega, by go_num, by go_num, by rw [H1.out, HWU.out]; simp only [rbyteL]; rw [if_neg HBQ.out]⟩
        case measure => simp [intOf]; omega
    · rw [List.drop_eq_nil_of_le (by omega)] at hRk
      have H1 := Lib.hid hRk
      clear hRk
      by_cases hbq : (n : Int) = p
      · have hbb : ((n : Int) == p) = true := by simp [hbq]
        have hv : R = ((s.size : Int), 0) := by rw [H1.out]; simp only [List.map_nil, rbyteL]; rw [if_pos hbq]
        have HV := Lib.hid hv
        clear hv hbq
        go_wp2
        go_ret2
        have hv := HV.out
        exact ⟨by subst hv; rfl, HB1.out⟩
      · have hbb : ((n : Int) == p) = false := by simp [hbq]
        by_cases hng : p < 0
        · have hv : R = (0, 2) := by rw [H1.out]; simp only [List.map_nil, rbyteL]; rw [if_neg hbq, if_pos (.inl hng)]
          have HV := Lib.hid hv
          clear hv hbq
          go_wp2
          go_ret2
          have hv := HV.out
          exact ⟨by subst hv; rfl, HB1.out⟩
        · have hngd : decide (p < 0) = false := decide_eq_false hng
          by_cases hgt : (n : Int) < p
          · have hv : R = (0, 2) := by rw [H1.out]; simp only [List.map_nil, rbyteL]; rw [if_neg hbq, if_pos (.inr hgt)]
            have HV := Lib.hid hv
            clear hv hbq
            go_wp2
            go_ret2
            have hv := HV.out
            exact ⟨by subst hv; rfl, HB1.out⟩
          · have hgtd : decide ((n : Int) < p) = false := decide_eq_false hgt
            have hv : R = (0, 23) := by rw [H1.out]; simp only [List.map_nil, rbyteL]; rw [if_neg hbq, if_neg (by omega)]
            have HV := Lib.hid hv
            clear hv hbq
            go_wp2
            go_ret2
            have hv := HV.out
            exact ⟨by subst hv; rfl, HB1.out⟩

set_option maxHeartbeats 1000000 in
theorem places_walk (w : World) (s : ByteArray) (hs : s.size ≤ 1048576) (p : Int) (hp : (Lit.int .i64 p).wf = true) (q : Int) (hq : (Lit.int .i64 q).wf = true) :
    Calls Try.prog 8 #[.string s, .int .i64 p, .int .i64 q] w fun e w' => e = .returned (.bool true) ∧ Below w.heap.size w w' := by
  have hq2 : q ≤ 9223372036854775807 := by
    have : -9223372036854775808 ≤ q ∧ q ≤ 9223372036854775807 := by simpa [Lit.wf, IntKind.min, IntKind.max, IntKind.signed, IntKind.bits] using hq
    exact this.2
  have HQ := Lib.hid hq2
  clear hp hq hq2
  go_enter Try.func8, Try.ntmps8
  go_wp2_with (first
    | (go_at_call 28; refine (unitAt_any _ s (by omega) p).mono ?_; rintro e w1 ⟨rfl, hb1⟩)
    | (go_at_call 34; refine (runitAt_any _ s (by omega) p).mono ?_; rintro e w2 ⟨rfl, hb2⟩)
    | (go_at_call 35; refine (byteAt_any _ s (by omega) q HQ.out).mono ?_; rintro e w3 ⟨rfl, hb3⟩)
    | (go_at_call 36; refine (rbyteAt_any _ s (by omega) q).mono ?_; rintro e w4 ⟨rfl, hb4⟩)
    | (go_at_call 20; refine (awake_any _).mono ?_; rintro e w5 ⟨rfl, hb5⟩))
  go_ret
  exact ⟨rfl, after (after (after (after hb1 hb2) hb3) hb4) hb5⟩

end Go.Proofs.Ytmdcbpdmkonmlaa
