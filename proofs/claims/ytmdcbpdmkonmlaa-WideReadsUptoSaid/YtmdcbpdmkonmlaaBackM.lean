/-
  There and back: plain laws.
-/
import Derived.Test.YtmdcbpdmkonmlaaCheck
import Derived.Test.YtmdcbpdmkonmlaaSeamM
namespace Go.Proofs.Ytmdcbpdmkonmlaa
open Go.RowKit

/-- A number as a character: itself, or the one for what is none. -/
def mendR (r : Int) : Int := if scalarB r then r else 65533
/-- Is it a surrogate? -/
def surB (u : Int) : Bool := highB u || lowB u

theorem wide_of {r : Int} (h : wideB r = true) : 65536 ≤ r ∧ r ≤ 1114111 := by simpa [wideB] using h
theorem scalar_of {r : Int} (h : scalarB r = true) : 0 ≤ r ∧ r ≤ 1114111 ∧ (r < 55296 ∨ 57343 < r) := by simpa [scalarB] using h
theorem wide_pair {r : Int} (h : wideB r = true) : joinOf (hiOf r) (loOf r) = (r, true) ∧ mendR r = r := by
  obtain ⟨h1, h2⟩ := wide_of h
  have hh : highB (hiOf r) = true := by unfold highB hiOf; simp; omega
  have hl : lowB (loOf r) = true := by unfold lowB loOf; simp; omega
  constructor
  · rw [joinOf_yes hh hl]
    have : joinR (hiOf r) (loOf r) = r := by unfold joinR hiOf loOf; omega
    rw [this]
  · have : scalarB r = true := by unfold scalarB; simp; omega
    simp [mendR, this]
theorem units_lone {r : Int} (h : wideB r = false) : ∃ x, unitsOf r = [x] ∧ mendR r = x ∧ highB x = false ∧ lowB x = false ∧ 0 ≤ x ∧ x ≤ 65535 := by
  have hw : ¬ (65536 ≤ r ∧ r ≤ 1114111) := by simpa [wideB] using h
  cases hs : scalarB r
  · exact ⟨65533, by simp [unitsOf, h, hs], by simp [mendR, hs], by decide, by decide, by decide, by decide⟩
  · obtain ⟨h1, h2, h3⟩ := scalar_of hs
    refine ⟨r, by simp [unitsOf, h, hs], by simp [mendR, hs], ?_, ?_, h1, by omega⟩
    · unfold highB; simp; omega
    · unfold lowB; simp; omega
theorem runes_single {x : Int} (hh : highB x = false) (hl : lowB x = false) (rest : List Int) : runesOf (x :: rest) = x :: runesOf rest := by
  cases rest with
  | nil => rw [runesOf_one, loneR_no hh hl]; rfl
  | cons v r =>
    have hj : (joinOf x v).2 = false := by rw [joinOf_no1 hh]
    rw [runesOf_lone hj, loneR_no hh hl]

theorem units_ok (l : List Int) : ∀ u ∈ unitsAll l, 0 ≤ u ∧ u ≤ 65535 := by
  intro u hu
  obtain ⟨r, _, hr⟩ := List.mem_flatMap.1 hu
  cases hw : wideB r
  · obtain ⟨x, hx, _, _, _, h0, h1⟩ := units_lone hw
    rw [hx] at hr
    simp at hr
    subst hr
    exact ⟨h0, h1⟩
  · obtain ⟨h1, h2⟩ := wide_of hw
    simp [unitsOf, hw] at hr
    rcases hr with rfl | rfl
    · unfold hiOf; omega
    · unfold loOf; omega

theorem unitsAll_cons (r : Int) (l : List Int) : unitsAll (r :: l) = unitsOf r ++ unitsAll l := by simp [unitsAll]

/-- Numbers as units and back: each as a character. -/
theorem runes_units (l : List Int) : runesOf (unitsAll l) = l.map mendR := by
  induction l with
  | nil => rfl
  | cons r l ih =>
    rw [unitsAll_cons, List.map_cons]
    cases hw : wideB r
    · obtain ⟨x, hx, hm, hh, hl, _⟩ := units_lone hw
      rw [hx, hm]
      show runesOf (x :: unitsAll l) = _
      rw [runes_single hh hl, ih]
    · obtain ⟨hj, hm⟩ := wide_pair hw
      have hu : unitsOf r = [hiOf r, loOf r] := by simp [unitsOf, hw]
      rw [hu, hm]
      show runesOf (hiOf r :: loOf r :: unitsAll l) = _
      rw [runesOf_pair (by rw [hj]), hj, ih]

theorem decode_sc (s : ByteArray) (i : Nat) : scalarB ((Utf8.decode s i).1 : Int) = true := by
  have h1 := decode_rune s i
  have h2 := decode_scalar s i
  unfold scalarB
  simp
  omega

theorem spots_scalar (s : ByteArray) (m i : Nat) : ∀ x ∈ spotsN s m i, scalarB (x.2 : Int) = true := by
  induction m generalizing i with
  | zero => intro x hx; simp [spotsN] at hx
  | succ m ih =>
    intro x hx
    unfold spotsN at hx
    split at hx
    · rcases List.mem_cons.1 hx with rfl | h
      · exact decode_sc s i
      · exact ih _ _ h
    · simp at hx
theorem text_scalar (s : ByteArray) : ∀ r ∈ textRunes s, scalarB r = true := by
  intro r hr
  obtain ⟨x, hx, rfl⟩ := List.mem_map.1 hr
  exact spots_scalar s _ _ x hx
theorem mend_scalars (l : List Int) (h : ∀ r ∈ l, scalarB r = true) : l.map mendR = l := by
  induction l with
  | nil => rfl
  | cons r l ih =>
    rw [List.map_cons, ih (fun x hx => h x (List.mem_cons_of_mem _ hx))]
    simp [mendR, h r (by simp)]
theorem text_back (s : ByteArray) : textOf (unitsAll (textRunes s)) = runesBytes (textRunes s) := by
  unfold textOf
  rw [runes_units, mend_scalars _ (text_scalar s)]

theorem ofNat_to (n : Nat) (h : n < 256) : (UInt8.ofNat n).toNat = n := by simp; omega

/-- What is encoded is read. -/
theorem enc_dec (r : Int) (t : ByteArray) : Utf8.decode (Utf8.encode r ++ t) 0 = ((mendR r).toNat, (Utf8.encode r).size) := by
  obtain ⟨c, hc⟩ : ∃ c, c = if Utf8.valid r then r.toNat else Utf8.runeError := ⟨_, rfl⟩
  have hm : (mendR r).toNat = c := by
    rw [hc]
    unfold mendR scalarB Utf8.valid Utf8.runeError
    by_cases h : 0 ≤ r ∧ r ≤ 1114111 ∧ (r < 55296 ∨ 57343 < r)
    · rw [decide_eq_true h, if_pos rfl, if_pos]
      simp; omega
    · rw [decide_eq_false h, if_neg (by decide), if_neg]
      · rfl
      · simp; omega
  have hr : c < 55296 ∨ (57344 ≤ c ∧ c ≤ 1114111) := by
    rw [hc]
    split
    · rename_i h
      unfold Utf8.valid at h
      simp at h
      omega
    · unfold Utf8.runeError; omega
  have he : Utf8.encode r = if c < 0x80 then ⟨#[UInt8.ofNat c]⟩ else if c < 0x800 then ⟨#[UInt8.ofNat (0xC0 + c / 64), UInt8.ofNat (0x80 + c % 64)]⟩ else if c < 0x10000 then ⟨#[UInt8.ofNat (0xE0 + c / 4096), UInt8.ofNat (0x80 + c / 64 % 64), UInt8.ofNat (0x80 + c % 64)]⟩ else ⟨#[UInt8.ofNat (0xF0 + c / 262144), UInt8.ofNat (0x80 + c / 4096 % 64), UInt8.ofNat (0x80 + c / 64 % 64), UInt8.ofNat (0x80 + c % 64)]⟩ := by
    rw [hc]; rfl
  rw [hm, he]
  clear hc hm he
  by_cases h1 : c < 0x80
  · rw [if_pos h1]
    have g0 : (((⟨#[UInt8.ofNat c]⟩ : ByteArray) ++ t).get! 0).toNat = c := by
      rw [get_append_left _ _ 0 (by show 0 < 1; omega)]
      exact ofNat_to _ (by omega)
    rw [dec_one g0 h1]
    rfl
  · rw [if_neg h1]
    by_cases h2 : c < 0x800
    · rw [if_pos h2]
      have hsz : ((⟨#[UInt8.ofNat (0xC0 + c / 64), UInt8.ofNat (0x80 + c % 64)]⟩ : ByteArray) ++ t).size = 2 + t.size := by rw [ByteArray.size_append]; rfl
      have g0 : (((⟨#[UInt8.ofNat (0xC0 + c / 64), UInt8.ofNat (0x80 + c % 64)]⟩ : ByteArray) ++ t).get! 0).toNat = 0xC0 + c / 64 := by
        rw [get_append_left _ _ 0 (by show 0 < 2; omega)]
        exact ofNat_to _ (by omega)
      have g1 : (((⟨#[UInt8.ofNat (0xC0 + c / 64), UInt8.ofNat (0x80 + c % 64)]⟩ : ByteArray) ++ t).get! (0 + 1)).toNat = 0x80 + c % 64 := by
        rw [get_append_left _ _ (0 + 1) (by show 0 + 1 < 2; omega)]
        exact ofNat_to _ (by omega)
      rw [dec_two (x := c) g0 g1 (by rw [hsz]; omega) (by omega) (by omega) (by omega) (by omega) (by omega), if_pos (by omega)]
      rfl
    · rw [if_neg h2]
      by_cases h3 : c < 0x10000
      · rw [if_pos h3]
        have hsz : ((⟨#[UInt8.ofNat (0xE0 + c / 4096), UInt8.ofNat (0x80 + c / 64 % 64), UInt8.ofNat (0x80 + c % 64)]⟩ : ByteArray) ++ t).size = 3 + t.size := by rw [ByteArray.size_append]; rfl
        have g0 : (((⟨#[UInt8.ofNat (0xE0 + c / 4096), UInt8.ofNat (0x80 + c / 64 % 64), UInt8.ofNat (0x80 + c % 64)]⟩ : ByteArray) ++ t).get! 0).toNat = 0xE0 + c / 4096 := by
          rw [get_append_left _ _ 0 (by show 0 < 3; omega)]
          exact ofNat_to _ (by omega)
        have g1 : (((⟨#[UInt8.ofNat (0xE0 + c / 4096), UInt8.ofNat (0x80 + c / 64 % 64), UInt8.ofNat (0x80 + c % 64)]⟩ : ByteArray) ++ t).get! (0 + 1)).toNat = 0x80 + c / 64 % 64 := by
          rw [get_append_left _ _ (0 + 1) (by show 0 + 1 < 3; omega)]
          exact ofNat_to _ (by omega)
        have g2 : (((⟨#[UInt8.ofNat (0xE0 + c / 4096), UInt8.ofNat (0x80 + c / 64 % 64), UInt8.ofNat (0x80 + c % 64)]⟩ : ByteArray) ++ t).get! (0 + 2)).toNat = 0x80 + c % 64 := by
          rw [get_append_left _ _ (0 + 2) (by show 0 + 2 < 3; omega)]
          exact ofNat_to _ (by omega)
        rw [dec_three (x := c) g0 g1 g2 (by rw [hsz]; omega) (by rw [hsz]; omega) (by omega) (by omega) (by omega) (by omega) (by omega) (by omega) (by omega), if_pos ⟨by omega, by unfold Utf8.valid; simp; omega⟩]
        rfl
      · rw [if_neg h3]
        have hsz : ((⟨#[UInt8.ofNat (0xF0 + c / 262144), UInt8.ofNat (0x80 + c / 4096 % 64), UInt8.ofNat (0x80 + c / 64 % 64), UInt8.ofNat (0x80 + c % 64)]⟩ : ByteArray) ++ t).size = 4 + t.size := by rw [ByteArray.size_append]; rfl
        have g0 : (((⟨#[UInt8.ofNat (0xF0 + c / 262144), UInt8.ofNat (0x80 + c / 4096 % 64), UInt8.ofNat (0x80 + c / 64 % 64), UInt8.ofNat (0x80 + c % 64)]⟩ : ByteArray) ++ t).get! 0).toNat = 0xF0 + c / 262144 := by
          rw [get_append_left _ _ 0 (by show 0 < 4; omega)]
          exact ofNat_to _ (by omega)
        have g1 : (((⟨#[UInt8.ofNat (0xF0 + c / 262144), UInt8.ofNat (0x80 + c / 4096 % 64), UInt8.ofNat (0x80 + c / 64 % 64), UInt8.ofNat (0x80 + c % 64)]⟩ : ByteArray) ++ t).get! (0 + 1)).toNat = 0x80 + c / 4096 % 64 := by
          rw [get_append_left _ _ (0 + 1) (by show 0 + 1 < 4; omega)]
          exact ofNat_to _ (by omega)
        have g2 : (((⟨#[UInt8.ofNat (0xF0 + c / 262144), UInt8.ofNat (0x80 + c / 4096 % 64), UInt8.ofNat (0x80 + c / 64 % 64), UInt8.ofNat (0x80 + c % 64)]⟩ : ByteArray) ++ t).get! (0 + 2)).toNat = 0x80 + c / 64 % 64 := by
          rw [get_append_left _ _ (0 + 2) (by show 0 + 2 < 4; omega)]
          exact ofNat_to _ (by omega)
        have g3 : (((⟨#[UInt8.ofNat (0xF0 + c / 262144), UInt8.ofNat (0x80 + c / 4096 % 64), UInt8.ofNat (0x80 + c / 64 % 64), UInt8.ofNat (0x80 + c % 64)]⟩ : ByteArray) ++ t).get! (0 + 3)).toNat = 0x80 + c % 64 := by
          rw [get_append_left _ _ (0 + 3) (by show 0 + 3 < 4; omega)]
          exact ofNat_to _ (by omega)
        rw [dec_four (x := c) g0 g1 g2 g3 (by rw [hsz]; omega) (by rw [hsz]; omega) (by rw [hsz]; omega) (by omega) (by omega) (by omega) (by omega) (by omega) (by omega) (by omega) (by omega) (by omega), if_pos ⟨by omega, by unfold Utf8.valid; simp; omega⟩]
        rfl

theorem enc_pos (r : Int) : 0 < (Utf8.encode r).size := by
  unfold Utf8.encode
  dsimp only
  generalize (if Utf8.valid r = true then r.toNat else Utf8.runeError) = c
  split
  · show 0 < 1; omega
  · split
    · show 0 < 2; omega
    · split
      · show 0 < 3; omega
      · show 0 < 4; omega

theorem mend_nat (r : Int) : ((mendR r).toNat : Int) = mendR r := by
  have : 0 ≤ mendR r := by
    unfold mendR
    split
    · rename_i h; exact (scalar_of h).1
    · decide
  omega

theorem text_enc_step (r : Int) (t : ByteArray) : textRunes (Utf8.encode r ++ t) = mendR r :: textRunes t := by
  have hs := ByteArray.size_append (a := Utf8.encode r) (b := t)
  have hp := enc_pos r
  rw [runes_snd, runes_snd, spotsFrom_more _ 0 (by rw [hs]; omega), enc_dec]
  simp only [List.map_cons]
  rw [mend_nat, Nat.zero_add]
  have := spots_behind (Utf8.encode r) t t.size 0 (by omega)
  rw [Nat.add_zero] at this
  rw [this]

theorem runesBytes_go (rs : List Int) (a : ByteArray) : rs.foldl (fun r n => r ++ Utf8.encode n) a = a ++ rs.foldl (fun r n => r ++ Utf8.encode n) ByteArray.empty := by
  induction rs generalizing a with
  | nil => simp
  | cons r rs ih =>
    rw [List.foldl_cons, List.foldl_cons, ih (a ++ Utf8.encode r), ih (ByteArray.empty ++ Utf8.encode r), ByteArray.append_assoc]
    simp
theorem runesBytes_cons (r : Int) (rs : List Int) : runesBytes (r :: rs) = Utf8.encode r ++ runesBytes rs := by
  unfold runesBytes
  rw [List.foldl_cons, runesBytes_go]
  simp

/-- The text of numbers, read: each as a character. -/
theorem text_enc (rs : List Int) : textRunes (runesBytes rs) = rs.map mendR := by
  induction rs with
  | nil => decide +kernel
  | cons r rs ih =>
    rw [List.map_cons, ← ih, ← text_enc_step, runesBytes_cons]

/-- Are there no lone ones? -/
def okU : List Int → Bool
  | [] => true
  | [u] => !surB u
  | u :: v :: r => if (joinOf u v).2 then okU r else !surB u && okU (v :: r)

theorem loneR_sur {u : Int} (h : surB u = true) : loneR u = 65533 ∧ u ≠ 65533 := by
  constructor
  · unfold surB at h
    simp [loneR, h]
  · rintro rfl
    exact absurd h (by decide)
theorem loneR_not {u : Int} (h : surB u = false) : loneR u = u := by
  unfold surB at h
  simp [loneR, h]
theorem sur_split {u : Int} (h : surB u = false) : highB u = false ∧ lowB u = false := by simpa [surB] using h
theorem join_big {u v : Int} (h : (joinOf u v).2 = true) : highB u = true ∧ lowB v = true := by
  unfold joinOf at h
  cases h1 : highB u <;> cases h2 : lowB v <;> simp_all
theorem high_of {u : Int} (h : highB u = true) : 55296 ≤ u ∧ u < 56320 := by simpa [highB] using h
theorem low_of {u : Int} (h : lowB u = true) : 56320 ≤ u ∧ u < 57344 := by simpa [lowB] using h

theorem marks_find (w : List Int) (us : List Int) (k : Nat) (hd : w.drop k = us) :
    (okU us = true → (marksFrom us k).find? (badAt w) = none) ∧ (okU us = false → ∃ x, (marksFrom us k).find? (badAt w) = some x ∧ x.1 < w.length ∧ surB (w[x.1]?.getD 0) = true) := by
  have hget : ∀ u, us[0]? = some u → w[k]? = some u := by
    intro u hu
    rw [← hd, List.getElem?_drop, Nat.add_zero] at hu
    exact hu
  have hlt : ∀ u, us[0]? = some u → k < w.length := fun u hu => (List.getElem?_eq_some_iff.1 (hget u hu)).1
  have lone : ∀ u, us[0]? = some u → badAt w (k, loneR u) = surB u := by
    intro u hu
    unfold badAt
    simp only [hget u hu, Option.getD_some]
    cases hs : surB u
    · rw [loneR_not hs]
      by_cases h : u = 65533 <;> simp [h]
    · obtain ⟨h1, h2⟩ := loneR_sur hs
      rw [h1]
      simp [h2]
  match us, hd, hget, hlt, lone with
  | [], _, _, _, _ => exact ⟨fun _ => rfl, fun h => by simp [okU] at h⟩
  | [u], hd, hget, hlt, lone =>
    have hl := lone u rfl
    constructor
    · intro h
      have hs : surB u = false := by simpa [okU] using h
      rw [hs] at hl
      simp [marksFrom, hl]
    · intro h
      have hs : surB u = true := by simpa [okU] using h
      rw [hs] at hl
      exact ⟨(k, loneR u), by simp [marksFrom, hl], hlt u rfl, by simp [hget u rfl, hs]⟩
  | u :: v :: r, hd, hget, hlt, lone =>
    have hl := lone u rfl
    cases hj : (joinOf u v).2
    · have ih := marks_find w (v :: r) (k + 1) (by rw [← List.drop_drop, hd]; rfl)
      have hm : marksFrom (u :: v :: r) k = (k, loneR u) :: marksFrom (v :: r) (k + 1) := by simp [marksFrom, hj]
      have ho : okU (u :: v :: r) = (!surB u && okU (v :: r)) := by simp [okU, hj]
      rw [hm, ho]
      cases hs : surB u
      · rw [hs] at hl
        simp only [List.find?_cons, hl, Bool.not_false, Bool.true_and]
        exact ih
      · rw [hs] at hl
        refine ⟨fun h => by simp at h, fun _ => ⟨(k, loneR u), by simp [List.find?_cons, hl], hlt u rfl, by simp [hget u rfl, hs]⟩⟩
    · have ih := marks_find w r (k + 2) (by rw [← List.drop_drop, hd]; rfl)
      have hm : marksFrom (u :: v :: r) k = (k, (joinOf u v).1) :: marksFrom r (k + 2) := by simp [marksFrom, hj]
      have ho : okU (u :: v :: r) = okU r := by simp [okU, hj]
      have hb : badAt w (k, (joinOf u v).1) = false := by
        obtain ⟨h1, h2⟩ := join_big hj
        obtain ⟨a1, a2⟩ := high_of h1
        obtain ⟨b1, b2⟩ := low_of h2
        rw [joinOf_yes h1 h2]
        have : joinR u v ≠ 65533 := by unfold joinR; omega
        simp [badAt, this]
      rw [hm, ho]
      simp only [List.find?_cons, hb]
      exact ih
  termination_by us.length

theorem check_ok {us : List Int} (h : okU us = true) : checkOf us = (0, 0) := by
  unfold checkOf
  rw [(marks_find us us 0 rfl).1 h]
theorem check_bad {us : List Int} (h : okU us = false) : ∃ k : Nat, ∃ q : Int, checkOf us = ((k : Int), q) ∧ q ≠ 0 ∧ k < us.length ∧ surB (us[k]?.getD 0) = true := by
  obtain ⟨x, hx, hk, hs⟩ := (marks_find us us 0 rfl).2 h
  refine ⟨x.1, codeAt us x, ?_, ?_, hk, hs⟩
  · unfold checkOf
    rw [hx]
  · unfold codeAt
    split <;> decide

theorem okU_single {x : Int} (hh : highB x = false) (hl : lowB x = false) (rest : List Int) : okU (x :: rest) = okU rest := by
  have hs : surB x = false := by simp [surB, hh, hl]
  cases rest with
  | nil => simp [okU, hs]
  | cons v r =>
    have hj : (joinOf x v).2 = false := by rw [joinOf_no1 hh]
    simp [okU, hj, hs]
theorem okU_units (l : List Int) : okU (unitsAll l) = true := by
  induction l with
  | nil => rfl
  | cons r l ih =>
    rw [unitsAll_cons]
    cases hw : wideB r
    · obtain ⟨x, hx, _, hh, hl, _⟩ := units_lone hw
      rw [hx]
      show okU (x :: unitsAll l) = _
      rw [okU_single hh hl, ih]
    · obtain ⟨hj, _⟩ := wide_pair hw
      have hu : unitsOf r = [hiOf r, loOf r] := by simp [unitsOf, hw]
      rw [hu]
      show okU (hiOf r :: loOf r :: unitsAll l) = _
      simp [okU, hj, ih]

theorem join_units {u v : Int} (h : (joinOf u v).2 = true) : unitsOf (joinOf u v).1 = [u, v] := by
  obtain ⟨h1, h2⟩ := join_big h
  obtain ⟨a1, a2⟩ := high_of h1
  obtain ⟨b1, b2⟩ := low_of h2
  rw [joinOf_yes h1 h2]
  have hw : wideB (joinR u v) = true := by unfold wideB joinR; simp; omega
  have e1 : hiOf (joinR u v) = u := by unfold hiOf joinR; omega
  have e2 : loOf (joinR u v) = v := by unfold loOf joinR; omega
  simp [unitsOf, hw, e1, e2]
theorem one_units {u : Int} (hs : surB u = false) (h0 : 0 ≤ u) (h1 : u ≤ 65535) : unitsOf u = [u] := by
  obtain ⟨hh, hl⟩ := sur_split hs
  have hh2 : ¬ (55296 ≤ u ∧ u < 56320) := by simpa [highB] using hh
  have hl2 : ¬ (56320 ≤ u ∧ u < 57344) := by simpa [lowB] using hl
  have hw : wideB u = false := by unfold wideB; simp; omega
  have hsc : scalarB u = true := by unfold scalarB; simp; omega
  simp [unitsOf, hw, hsc]

/-- Units without lone ones, there and back. -/
theorem units_runes (us : List Int) (hwf : ∀ u ∈ us, 0 ≤ u ∧ u ≤ 65535) (h : okU us = true) : unitsAll (runesOf us) = us := by
  match us, hwf, h with
  | [], _, _ => rfl
  | [u], hwf, h =>
    have hs : surB u = false := by simpa [okU] using h
    obtain ⟨h0, h1⟩ := hwf u (by simp)
    rw [runesOf_one, loneR_not hs, unitsAll_cons, one_units hs h0 h1]
    rfl
  | u :: v :: r, hwf, h =>
    cases hj : (joinOf u v).2
    · have ho : okU (u :: v :: r) = (!surB u && okU (v :: r)) := by simp [okU, hj]
      rw [ho] at h
      have hs : surB u = false := by cases hq : surB u <;> simp_all
      have hr : okU (v :: r) = true := by cases hq : okU (v :: r) <;> simp_all
      obtain ⟨h0, h1⟩ := hwf u (by simp)
      have ih := units_runes (v :: r) (fun x hx => hwf x (List.mem_cons_of_mem _ hx)) hr
      rw [runesOf_lone hj, loneR_not hs, unitsAll_cons, one_units hs h0 h1, ih]
      rfl
    · have ho : okU (u :: v :: r) = okU r := by simp [okU, hj]
      rw [ho] at h
      have ih := units_runes r (fun x hx => hwf x (List.mem_cons_of_mem _ (List.mem_cons_of_mem _ hx))) h
      rw [runesOf_pair hj, unitsAll_cons, join_units hj, ih]
      rfl
  termination_by us.length

theorem runes_scalar (us : List Int) (hwf : ∀ u ∈ us, 0 ≤ u ∧ u ≤ 65535) : ∀ r ∈ runesOf us, scalarB r = true := by
  have lone : ∀ u, 0 ≤ u → u ≤ 65535 → scalarB (loneR u) = true := by
    intro u h0 h1
    cases hs : surB u
    · obtain ⟨hh, hl⟩ := sur_split hs
      have hh2 : ¬ (55296 ≤ u ∧ u < 56320) := by simpa [highB] using hh
      have hl2 : ¬ (56320 ≤ u ∧ u < 57344) := by simpa [lowB] using hl
      rw [loneR_not hs]
      unfold scalarB; simp; omega
    · rw [(loneR_sur hs).1]; decide
  match us, hwf with
  | [], _ => intro r hr; simp [runesOf_nil] at hr
  | [u], hwf =>
    intro r hr
    rw [runesOf_one] at hr
    simp at hr
    subst hr
    exact lone u (hwf u (by simp)).1 (hwf u (by simp)).2
  | u :: v :: t, hwf =>
    intro r hr
    cases hj : (joinOf u v).2
    · rw [runesOf_lone hj] at hr
      rcases List.mem_cons.1 hr with rfl | h
      · exact lone u (hwf u (by simp)).1 (hwf u (by simp)).2
      · exact runes_scalar (v :: t) (fun x hx => hwf x (List.mem_cons_of_mem _ hx)) r h
    · rw [runesOf_pair hj] at hr
      rcases List.mem_cons.1 hr with rfl | h
      · obtain ⟨h1, h2⟩ := join_big hj
        obtain ⟨a1, a2⟩ := high_of h1
        obtain ⟨b1, b2⟩ := low_of h2
        rw [joinOf_yes h1 h2]
        unfold scalarB joinR; simp; omega
      · exact runes_scalar t (fun x hx => hwf x (List.mem_cons_of_mem _ (List.mem_cons_of_mem _ hx))) r h
  termination_by us.length

theorem text_units (us : List Int) (hwf : ∀ u ∈ us, 0 ≤ u ∧ u ≤ 65535) (h : okU us = true) : unitsAll (textRunes (textOf us)) = us := by
  unfold textOf
  rw [text_enc, mend_scalars _ (runes_scalar us hwf), units_runes us hwf h]

theorem again_ne {us : List Int} (h : okU us = false) : unitsAll (runesOf us) ≠ us := by
  intro e
  have := okU_units (runesOf us)
  rw [e, h] at this
  cases this

end Go.Proofs.Ytmdcbpdmkonmlaa
