/-
  Texts and units; where a character begins; units laid as bytes; what each statement asks first: walked.
-/
import Derived.Test.YtmdcbpdmkonmlaaRunes
import Derived.Test.YtmdcbpdmkonmlaaSpots
namespace Go.Proofs.Ytmdcbpdmkonmlaa
open Go.RowKit

set_option maxHeartbeats 400000 in
theorem encode_any (w : World) (a : Option Addr) (c : Nat) (rs : List Int) (hr : Cells w a (rs.map (Value.int .i32))) :
    Calls Try.prog 59 #[.slice a rs.length c] w fun e w' => e = .returned (.string (runesBytes rs)) ∧ w = w' := by
  have hcv := run_text (P := Try.prog) (w := w) 30 9 21 Try.underlying30 Try.underlying21 Try.underlying9 a rs.length c rs rfl hr
  clear hr
  go_enter Try.func59, Try.ntmps59
  go_wp2
  go_ret
  exact ⟨rfl, rfl⟩

/-- The text of units. -/
def textOf (us : List Int) : ByteArray := runesBytes (runesOf us)

set_option maxHeartbeats 400000 in
theorem text_any (w : World) (a : Option Addr) (c : Nat) (us : List Int) (hn : us.length ≤ 17592186044416) (hr : Cells w a (us.map (Value.int .u16))) (hwf : ∀ u ∈ us, 0 ≤ u ∧ u ≤ 65535) :
    Calls Try.prog 32 #[.slice a us.length c] w fun e w' => e = .returned (.string (textOf us)) ∧ Below w.heap.size w w' := by
  have HR := Lib.hid hr
  have HW := Lib.hid hwf
  clear hr hwf
  go_enter Try.func32, Try.ntmps32
  go_wp2_with (first
    | (go_at_call 30; refine (runes_any _ a c us hn HR.out HW.out).mono ?_; rintro e w1 ⟨a1, c1, rfl, hown1, hb1⟩)
    | (go_at_call 59; refine (encode_any _ a1 c1 _ hown1.toCells).mono ?_; rintro e w2 ⟨rfl, rfl⟩))
  go_ret
  exact ⟨rfl, hb1⟩

set_option maxHeartbeats 400000 in
theorem fromText_any (w : World) (s : ByteArray) (hs : s.size ≤ 17592186044416) :
    Calls Try.prog 25 #[.string s] w fun e w' => ∃ a c, e = .returned (.slice a (unitsAll (textRunes s)).length c) ∧ Own w' w.heap.size 1 a (unitsAll (textRunes s)).length c ((unitsAll (textRunes s)).map (Value.int .u16)) ∧ Below w.heap.size w w' := by
  have hle := textRunes_le s
  go_enter Try.func25, Try.ntmps25
  go_wp2_with (first
    | (with_reducible refine wpList_runes rfl _ 9 30 21 rfl Try.underlying9 Try.underlying30 Try.underlying21 s rfl (by omega) ?_; intro g1 c1 w1 hown1 hb1)
    | (go_at_call 21; refine (from_any _ (some ⟨g1, 0, none⟩) c1 (textRunes s) (by omega) hown1.toCells).mono ?_; rintro e w2 ⟨a2, n2, c2, rfl, hown2, hb2⟩))
  go_ret
  have hl : n2 = (unitsAll (textRunes s)).length := by have := hown2.len; simpa using this.symm
  subst hl
  exact ⟨a2, c2, rfl, hown2.mono hb1.size, after hb1 hb2⟩

/-- Units up to a byte, over what is still to come. -/
def unitAtL : List (Nat × Nat) → Nat → Nat → Nat → Int × Int
  | [], size, at_, units => if at_ < size then (0, 23) else (units, 0)
  | (i, r) :: rest, size, at_, units => if i = at_ then (units, 0) else if at_ < i then (0, 23) else unitAtL rest size at_ (units + (widthOf r).toNat)

/-- What UnitAt answers. -/
def unitAtOf (s : ByteArray) (at_ : Int) : Int × Int := if at_ < 0 ∨ (s.size : Int) < at_ then (0, 2) else unitAtL (spotsFrom s 0) s.size at_.toNat 0

theorem widthOf_nat (r : Int) : widthOf r = ((widthOf r).toNat : Int) ∧ 1 ≤ (widthOf r).toNat ∧ (widthOf r).toNat ≤ 2 := by
  unfold widthOf
  split <;> simp

set_option maxHeartbeats 1000000 in
theorem unitAt_any (w : World) (s : ByteArray) (hs : s.size ≤ 140737488355328) (p : Int) :
    Calls Try.prog 28 #[.string s, .int .i64 p] w fun e w' => e = .returned (.tuple #[.int .i64 (unitAtOf s p).1, .int .i64 (unitAtOf s p).2]) ∧ Below w.heap.size w w' := by
  by_cases hp : p < 0
  · have hu : unitAtOf s p = (0, 2) := by simp [unitAtOf, hp]
    rw [hu]
    clear hu
    go_enter Try.func28, Try.ntmps28
    go_wp2
    go_ret2
    exact ⟨rfl, Below.refl _ _⟩
  obtain ⟨q, rfl⟩ := Int.eq_ofNat_of_zero_le (Int.not_lt.1 hp)
  clear hp
  by_cases hq : s.size < q
  · have hu : unitAtOf s q = (0, 2) := by simp [unitAtOf]; intro h; omega
    rw [hu]
    clear hu
    go_enter Try.func28, Try.ntmps28
    go_wp2
    go_ret2
    exact ⟨rfl, Below.refl _ _⟩
  have hu : unitAtOf s q = unitAtL (spotsFrom s 0) s.size q 0 := by simp [unitAtOf]; intro h; omega
  rw [hu]
  clear hu
  have hq' : q ≤ s.size := by omega
  obtain ⟨R, hR⟩ : ∃ R, R = unitAtL (spotsFrom s 0) s.size q 0 := ⟨_, rfl⟩
  rw [← hR]
  have HR := Lib.hid hR
  clear hR
  have hd0 : decide ((q : Int) < 0) = false := decide_eq_false (by omega)
  have hd1 : decide (s.size < q) = false := decide_eq_false hq
  have hd2 : decide ((s.size : Int) < (q : Int)) = false := decide_eq_false (by omega)
  go_enter Try.func28, Try.ntmps28
  go_wp2
  go_loopw [6] (fun x wr => ∃ pos units : Nat, wr = w.iter s pos ∧ x = .int .i64 units ∧ units ≤ 2 * pos ∧ R = unitAtL (spotsFrom s pos) s.size q units) (fun _ wr => s.size - wr.iterPos w.heap.size)
  case atStart => exact ⟨0, 0, rfl, rfl, Nat.le_refl _, HR.out⟩
  case round =>
    obtain ⟨pos, units, rfl, rfl, hun, hRl⟩ := hrel
    have hbel : ∀ p, Below w.heap.size w (w.iter s p) := fun p => (Below.refl _ _).alloc (Nat.le_refl _) _
    by_cases hlt : pos < s.size
    · have hnx := fun ty => run_next_any (P := Try.prog) w s pos ty hlt
      rw [spotsFrom_more s pos hlt] at hRl
      have hdr := decode_rune s pos
      have hdw := decode_width s pos
      obtain ⟨D, hD⟩ : ∃ D, D = Utf8.decode s pos := ⟨_, rfl⟩
      rw [← hD] at hnx hRl hdr hdw
      obtain ⟨r, wd⟩ := D
      simp only at hnx hRl hdr hdw
      have H1 := Lib.hid hRl
      clear hRl hD
      obtain ⟨hw1, hw2, hw3⟩ := widthOf_nat r
      obtain ⟨wu, hwu⟩ : ∃ wu, wu = (widthOf r).toNat := ⟨_, rfl⟩
      rw [← hwu] at hw1 hw2 hw3
      have HW1 := Lib.hid hw1
      have HWU := Lib.hid hwu
      clear hw1 hwu
      rcases (show pos = q ∨ q < pos ∨ pos < q from by omega) with rfl | h | h
      · go_wp2
        go_ret2
        have hv : R = ((units : Int), 0) := by rw [H1.out]; simp only [unitAtL]; rw [if_pos trivial]
        exact ⟨by subst hv; rfl, hbel _⟩
      · go_wp2
        go_ret2
        have hv : R = (0, 23) := by rw [H1.out]; simp only [unitAtL]; rw [if_neg (by omega), if_pos h]
        exact ⟨by subst hv; rfl, hbel _⟩
      · go_wp2_with (go_at_call 18; refine (width_any _ _).mono ?_; rw [HW1.out]; rintro e w' ⟨rfl, rfl⟩)
        go_roundw
        case rel => exact ⟨pos + wd, units + wu, rfl, by go_num, by omega, by rw [H1.out, HWU.out]; simp only [unitAtL]; rw [if_neg (by omega), if_neg (by omega)]⟩
        case measure => simp; omega
    · rw [spotsFrom_end s pos hlt] at hRl
      have hnx := fun ty => run_next_end (P := Try.prog) w s pos ty hlt
      have H1 := Lib.hid hRl
      clear hRl
      by_cases hqs : q < s.size
      · go_wp2
        go_ret2
        exact ⟨by rw [H1.out]; simp [unitAtL, hqs], hbel _⟩
      · go_wp2
        go_ret2
        exact ⟨by rw [H1.out]; simp [unitAtL, hqs], hbel _⟩

theorem info5 : (Try.prog.info? 5).map (fun i => (i.zero, i.size, i.bytes)) = some (some (.int .u8 0), 1, 1) := by kernel_rfl

/-- The two bytes of a unit, by an order. -/
def layBytes (o u : Int) : List UInt8 := if o = 0 then [UInt8.ofNat (u.toNat / 256), UInt8.ofNat (u.toNat % 256)] else [UInt8.ofNat (u.toNat % 256), UInt8.ofNat (u.toNat / 256)]

theorem layBytes_first (u : Int) (h0 : 0 ≤ u) (h1 : u ≤ 65535) : (layBytes 0 u).map byteV = [.int .u8 (u / 256), .int .u8 (u % 256)] := by
  obtain ⟨n, rfl⟩ := Int.eq_ofNat_of_zero_le h0
  simp [layBytes, byteV]
  omega
theorem layBytes_second (o u : Int) (ho : ¬ o = 0) (h0 : 0 ≤ u) (h1 : u ≤ 65535) : (layBytes o u).map byteV = [.int .u8 (u % 256), .int .u8 (u / 256)] := by
  obtain ⟨n, rfl⟩ := Int.eq_ofNat_of_zero_le h0
  simp [layBytes, ho, byteV]
  omega

set_option maxHeartbeats 1000000 in
theorem layUnit_any (w : World) (B : Nat) (a : Option Addr) (n c : Nat) (bs : List UInt8) (hown : Own w B 1 a n c (bs.map byteV)) (hB : B ≤ w.heap.size) (hn : n + 2 ≤ 140737488355328) (o u : Int) (h0 : 0 ≤ u) (h1 : u ≤ 65535) :
    Calls Try.prog 61 #[.slice a n c, .int .u8 o, .int .u16 u] w fun e w' => ∃ a' c', e = .returned (.slice a' (n + 2) c') ∧ Own w' B 1 a' (n + 2) c' ((bs ++ layBytes o u).map byteV) ∧ Below B w w' := by
  obtain ⟨i0, hi, hz0, hz1, hz2⟩ := info_parts info5
  by_cases ho : o = 0
  · subst ho
    have hl := layBytes_first u h0 h1
    have HL := Lib.hid hl
    clear hl
    go_enter Try.func61, Try.ntmps61
    go_wp2_with (at_builtin; refine wpList_app rfl _ _ 80 80 rfl 5 i0 (.int .u8 0) 1 1 Try.underlying80 hi hz0 hz1 hz2 rfl (by simp [Value.cells, Value.oneCell']) B _ _ _ _ rfl (hown.alloc _) _ 2 [.int .u8 (u / 256), .int .u8 (u % 256)] rfl (Src.ofCells Try.underlying80 _ _ _ _ rfl (Cells.new _ _ _) (by simp [Value.oneCell']) (by decide)) (by simp [maxLen]; omega) (by omega) (by simp; omega) ?_; intro a4 c4 w4 hown4 hap4)
    go_ret
    rw [← HL.out, ← List.map_append] at hown4
    exact ⟨_, _, rfl, hown4, ((Below.refl _ _).alloc hB _).trans (hap4.below (hown.alloc _) (by simp; omega))⟩
  · have hl := layBytes_second o u ho h0 h1
    have HL := Lib.hid hl
    have ho2 : (o == 0) = false := by simpa using ho
    clear hl
    go_enter Try.func61, Try.ntmps61
    go_wp2_with (at_builtin; refine wpList_app rfl _ _ 80 80 rfl 5 i0 (.int .u8 0) 1 1 Try.underlying80 hi hz0 hz1 hz2 rfl (by simp [Value.cells, Value.oneCell']) B _ _ _ _ rfl (hown.alloc _) _ 2 [.int .u8 (u % 256), .int .u8 (u / 256)] rfl (Src.ofCells Try.underlying80 _ _ _ _ rfl (Cells.new _ _ _) (by simp [Value.oneCell']) (by decide)) (by simp [maxLen]; omega) (by omega) (by simp; omega) ?_; intro a4 c4 w4 hown4 hap4)
    go_ret
    rw [← HL.out, ← List.map_append] at hown4
    exact ⟨_, _, rfl, hown4, ((Below.refl _ _).alloc hB _).trans (hap4.below (hown.alloc _) (by simp; omega))⟩

/-- Units laid by an order. -/
def laidUnits (o : Int) (us : List Int) : List UInt8 := us.flatMap (layBytes o)
theorem layBytes_length (o u : Int) : (layBytes o u).length = 2 := by unfold layBytes; split <;> rfl
theorem laidUnits_length (o : Int) (us : List Int) : (laidUnits o us).length = 2 * us.length := by
  induction us with
  | nil => rfl
  | cons u us ih => simp only [laidUnits, List.flatMap_cons, List.length_append, layBytes_length, List.length_cons] at ih ⊢; omega
theorem laidUnits_snoc (o : Int) (us : List Int) (k : Nat) (u : Int) (h : us[k]? = some u) : laidUnits o (us.take (k + 1)) = laidUnits o (us.take k) ++ layBytes o u := by
  rw [List.take_add_one, h]
  simp [laidUnits]

/-- What Lay answers. -/
def markBytes (o : Int) (m : Bool) : List UInt8 := if m then layBytes o 65279 else []
def layOf (o : Int) (m : Bool) (us : List Int) : ByteArray × Int := if o = 0 ∨ o = 1 then (⟨(markBytes o m ++ laidUnits o us).toArray⟩, 0) else (.empty, 2)

theorem markBytes_length (o : Int) (m : Bool) : (markBytes o m).length = if m then 2 else 0 := by
  cases m
  · rfl
  · exact layBytes_length _ _

set_option maxHeartbeats 400000 in
theorem known_any (o : Int) (w : World) : Calls Try.prog 60 #[.int .u8 o] w fun e w' => e = .returned (.bool (decide (o = 0 ∨ o = 1))) ∧ w = w' := by
  by_cases h0 : o = 0
  · subst h0
    go_enter Try.func60, Try.ntmps60
    go_wp2
    go_ret
    exact ⟨rfl, rfl⟩
  · have h0' : (o == 0) = false := by simpa using h0
    by_cases h1 : o = 1
    · subst h1
      go_enter Try.func60, Try.ntmps60
      go_wp2
      go_ret
      exact ⟨rfl, rfl⟩
    · have h1' : (o == 1) = false := by simpa using h1
      go_enter Try.func60, Try.ntmps60
      go_wp2
      go_ret
      exact ⟨by simp [h0, h1], rfl⟩

set_option maxHeartbeats 2000000 in
/-- The loop of Lay, behind the mark. -/
theorem lay_any (w : World) (o : Int) (m : Bool) (a : Option Addr) (c : Nat) (us : List Int) (hn : us.length ≤ 35184372088832) (hr : Cells w a (us.map (Value.int .u16))) (hwf : ∀ u ∈ us, 0 ≤ u ∧ u ≤ 65535) :
    Calls Try.prog 39 #[.int .u8 o, .bool m, .slice a us.length c] w fun e w' => e = .returned (.tuple #[.string (layOf o m us).1, .int .i64 (layOf o m us).2]) ∧ Below w.heap.size w w' := by
  by_cases hk : o = 0 ∨ o = 1
  · have hd : decide (o = 0 ∨ o = 1) = true := decide_eq_true hk
    have hO : layOf o m us = (⟨(markBytes o m ++ laidUnits o us).toArray⟩, 0) := by simp [layOf, hk]
    have hmk : (markBytes o m).length ≤ 2 := by rw [markBytes_length]; split <;> omega
    rw [hO]
    have HR := Lib.hid hr
    have HWF := Lib.hid hwf
    clear hr hwf hk hO
    cases m
    · go_enter Try.func39, Try.ntmps39
      go_wp2_with (go_at_call 60; refine (known_any o _).mono ?_; rw [hd]; rintro e w' ⟨rfl, rfl⟩)
      go_loopw [8, 20] (fun v i wr => ∃ (k n : Nat) (a' : Option Addr) (c' : Nat), k ≤ us.length ∧ i = .int .i64 k ∧ v = .slice a' n c' ∧ Own wr w.heap.size 1 a' n c' ((markBytes o false ++ laidUnits o (us.take k)).map byteV) ∧ Below w.heap.size w wr) (fun _ i _ => us.length - (intOf i).toNat)
      case atStart => exact ⟨0, _, _, _, Nat.zero_le _, rfl, rfl, by simpa [laidUnits, markBytes] using Own.nil w w.heap.size 1, Below.refl _ _⟩
      case round =>
        obtain ⟨k, n2, a2, c2, hk, rfl, rfl, hown, hb⟩ := hrel
        by_cases hlt : k < us.length
        · obtain ⟨b, off, u, rfl, huk, hck⟩ := (HR.out.below hb).at hlt
          have hu := HWF.out u (List.mem_of_getElem? huk)
          obtain ⟨hu0, hu1⟩ := hu
          have hn2 : n2 + 2 ≤ 140737488355328 := by
            have h1 := hown.len
            rw [List.length_map, List.length_append, laidUnits_length, List.length_take, Nat.min_eq_left hk] at h1
            omega
          have H1 := Lib.hid huk
          have H2 := Lib.hid hown
          have H3 := Lib.hid hb
          clear huk hown hb
          have h0 : (0 : Int) ≤ (k : Int) := by omega
          have h1 : (k : Int) < (us.length : Int) := by omega
          go_wp2_with (go_at_call 61; refine (layUnit_any _ w.heap.size a2 n2 c2 _ H2.out H3.out.size hn2 o u hu0 hu1).mono ?_; rintro e w4 ⟨a4, c4, rfl, hown4, hb4⟩)
          have H4 := Lib.hid hown4
          have H5 := Lib.hid hb4
          clear hown4 hb4
          go_roundw
          case rel => exact ⟨k + 1, n2 + 2, a4, c4, by omega, by go_num, rfl, by have := H4.out; rwa [List.append_assoc, ← laidUnits_snoc o us k u H1.out] at this, H3.out.trans H5.out⟩
          case measure => simp [intOf]; omega
        · obtain rfl : us.length = k := by omega
          rw [List.take_of_length_le (Nat.le_refl _)] at hown
          have hcv : (convert 80 9 (.slice a2 n2 c2)).run Try.prog wr = .ok (.string ⟨(markBytes o false ++ laidUnits o us).toArray⟩) wr := run_str (w := wr) (P := Try.prog) 80 9 5 Try.underlying80 Try.underlying5 Try.underlying9 a2 n2 c2 _ (by have := hown.len; simpa using this) hown.toCells
          have H3 := Lib.hid hb
          clear hown hb
          go_wp2
          go_ret2
          exact ⟨rfl, H3.out⟩
    · go_enter Try.func39, Try.ntmps39
      go_wp2_with (first
        | (go_at_call 60; refine (known_any o _).mono ?_; rw [hd]; rintro e w' ⟨rfl, rfl⟩)
        | (go_at_call 61; refine (layUnit_any _ w.heap.size none 0 0 [] (Own.nil _ _ _) (Nat.le_refl _) (by omega) o 65279 (by omega) (by omega)).mono ?_; rintro e w1 ⟨a1, c1, rfl, hown1, hb1⟩))
      have H0 := Lib.hid hown1
      have HB0 := Lib.hid hb1
      clear hown1 hb1
      go_loopw [8, 20] (fun v i wr => ∃ (k n : Nat) (a' : Option Addr) (c' : Nat), k ≤ us.length ∧ i = .int .i64 k ∧ v = .slice a' n c' ∧ Own wr w.heap.size 1 a' n c' ((markBytes o true ++ laidUnits o (us.take k)).map byteV) ∧ Below w.heap.size w wr) (fun _ i _ => us.length - (intOf i).toNat)
      case atStart => exact ⟨0, _, _, _, Nat.zero_le _, rfl, rfl, by simpa [laidUnits, markBytes] using H0.out, HB0.out⟩
      case round =>
        obtain ⟨k, n2, a2, c2, hk, rfl, rfl, hown, hb⟩ := hrel
        by_cases hlt : k < us.length
        · obtain ⟨b, off, u, rfl, huk, hck⟩ := (HR.out.below hb).at hlt
          have hu := HWF.out u (List.mem_of_getElem? huk)
          obtain ⟨hu0, hu1⟩ := hu
          have hn2 : n2 + 2 ≤ 140737488355328 := by
            have h1 := hown.len
            rw [List.length_map, List.length_append, laidUnits_length, List.length_take, Nat.min_eq_left hk] at h1
            omega
          have H1 := Lib.hid huk
          have H2 := Lib.hid hown
          have H3 := Lib.hid hb
          clear huk hown hb
          have h0 : (0 : Int) ≤ (k : Int) := by omega
          have h1 : (k : Int) < (us.length : Int) := by omega
          go_wp2_with (go_at_call 61; refine (layUnit_any _ w.heap.size a2 n2 c2 _ H2.out H3.out.size hn2 o u hu0 hu1).mono ?_; rintro e w4 ⟨a4, c4, rfl, hown4, hb4⟩)
          have H4 := Lib.hid hown4
          have H5 := Lib.hid hb4
          clear hown4 hb4
          go_roundw
          case rel => exact ⟨k + 1, n2 + 2, a4, c4, by omega, by go_num, rfl, by have := H4.out; rwa [List.append_assoc, ← laidUnits_snoc o us k u H1.out] at this, H3.out.trans H5.out⟩
          case measure => simp [intOf]; omega
        · obtain rfl : us.length = k := by omega
          rw [List.take_of_length_le (Nat.le_refl _)] at hown
          have hcv : (convert 80 9 (.slice a2 n2 c2)).run Try.prog wr = .ok (.string ⟨(markBytes o true ++ laidUnits o us).toArray⟩) wr := run_str (w := wr) (P := Try.prog) 80 9 5 Try.underlying80 Try.underlying5 Try.underlying9 a2 n2 c2 _ (by have := hown.len; simpa using this) hown.toCells
          have H3 := Lib.hid hb
          clear hown hb
          go_wp2
          go_ret2
          exact ⟨rfl, H3.out⟩
  · have hd : decide (o = 0 ∨ o = 1) = false := decide_eq_false hk
    have hO : layOf o m us = (.empty, 2) := by simp [layOf, hk]
    rw [hO]
    clear hO hk hr
    go_enter Try.func39, Try.ntmps39
    go_wp2_with (go_at_call 60; refine (known_any o _).mono ?_; rw [hd]; rintro e w' ⟨rfl, rfl⟩)
    go_ret2
    exact ⟨rfl, Below.refl _ _⟩

theorem aw_join : joinOf 55357 56832 = (128512, true) := by decide +kernel
theorem aw_from : unitsAll (textRunes ⟨#[97, 255]⟩) = [97, 65533] := by decide +kernel
theorem aw_at : unitAtOf ⟨#[240, 159, 152, 128, 97]⟩ 4 = (2, 0) := by decide +kernel
theorem aw_lay : layOf 1 true [97] = (⟨#[255, 254, 97, 0]⟩, 0) := by decide +kernel
theorem aw_text : textOf [97, 65533] = ⟨#[97, 239, 191, 189]⟩ := by decide +kernel

set_option maxHeartbeats 2000000 in
/-- What each statement asks first. -/
theorem awake_any (w : World) : Calls Try.prog 20 #[] w fun e w' => e = .returned (.bool true) ∧ Below w.heap.size w w' := by
  go_enter Try.func20, Try.ntmps20
  go_wp2_with (go_at_call 16; refine (join_any _ _ _).mono ?_; rw [aw_join]; rintro e w' ⟨rfl, rfl⟩)
  have hf := fromText_any w ⟨#[97, 255]⟩ (by decide)
  rw [aw_from] at hf
  refine hf.mono ?_
  rintro e w1 ⟨a1, c1, rfl, hown1, hb1⟩
  clear hf
  have H1 := Lib.hid hown1
  have B1 := Lib.hid hb1
  clear hown1 hb1
  go_wp2_with fail
  refine (unitAt_any w1 ⟨#[240, 159, 152, 128, 97]⟩ (by decide) 4).mono ?_
  rw [aw_at]
  rintro e w2 ⟨rfl, hb2⟩
  have B2 := Lib.hid hb2
  clear hb2
  go_wp2_with fail
  have hl := lay_any (w2.alloc (.cells #[.int .u16 97] 22)) 1 true (some ⟨w2.heap.size, 0, none⟩) 1 [97] (by decide) (Cells.new w2 [.int .u16 97] 22) (by simp)
  rw [aw_lay] at hl
  refine hl.mono ?_
  rintro e w3 ⟨rfl, hb3⟩
  clear hl
  have B3 := Lib.hid hb3
  clear hb3
  have H3 := (H1.out.below (after B2.out ((Below.refl _ _).alloc (Nat.le_refl _) _))).below B3.out
  obtain ⟨g, rfl, hg1, hg2, hg3, hg4⟩ := H3.addr (by have := H3.le; simp at this; omega)
  have hc0 : w3.cell? ⟨g, 0, none⟩ = some (.int .u16 97) := hg3 0 _ rfl
  have hc1 : w3.cell? ⟨g, 1, none⟩ = some (.int .u16 65533) := hg3 1 _ rfl
  have HC := Lib.hid H3.toCells
  have ht := fun W h => text_any W (some ⟨g, 0, none⟩) c1 [97, 65533] (by decide) h (by simp)
  rw [aw_text] at ht
  have HT := Lib.hid ht
  clear hg1 hg2 hg3 hg4 H3 ht
  go_wp2_with fail
  refine (HT.out _ HC.out).mono ?_
  rintro e w4 ⟨rfl, hb4⟩
  go_wp2
  go_ret
  exact ⟨rfl, after (after (after B1.out B2.out) ((Below.refl _ _).alloc (Nat.le_refl _) _)) (B3.out.trans (hb4.mono B3.out.size))⟩

end Go.Proofs.Ytmdcbpdmkonmlaa
