/-
  Places of units and bytes, as the language's own range over a text tells them: plain laws; the walk of the law WideGo.
-/
import Derived.Test.YtmdcbpdmkonmlaaAwake
import Derived.Test.YtmdcbpdmkonmlaaSame
namespace Go.Proofs.Ytmdcbpdmkonmlaa
open Go.RowKit

/-- A sequence never runs over the text's end. -/
theorem decode_fits (s : ByteArray) (i : Nat) (h : i < s.size) : i + (Utf8.decode s i).2 ≤ s.size := by
  simp only [Utf8.decode]
  repeat' split
  all_goals simp_all
  all_goals omega

/-- Bytes up to a unit, over what is still to come. -/
def byteAtL : List (Nat × Nat) → Nat → Nat → Nat → Int × Int
  | [], size, unit, units => if units < unit then (0, 2) else (size, 0)
  | (i, r) :: rest, size, unit, units => if units = unit then (i, 0) else if unit < units + (widthOf r).toNat then (0, 23) else byteAtL rest size unit (units + (widthOf r).toNat)

/-- What ByteAt answers. -/
def byteAtOf (s : ByteArray) (unit : Int) : Int × Int := if unit < 0 then (0, 2) else byteAtL (spotsFrom s 0) s.size unit.toNat 0

set_option maxHeartbeats 1000000 in
theorem byteAt_any (w : World) (s : ByteArray) (hs : s.size ≤ 140737488355328) (p : Int) (hp63 : p ≤ 9223372036854775807) :
    Calls Try.prog 35 #[.string s, .int .i64 p] w fun e w' => e = .returned (.tuple #[.int .i64 (byteAtOf s p).1, .int .i64 (byteAtOf s p).2]) ∧ Below w.heap.size w w' := by
  by_cases hp : p < 0
  · have hu : byteAtOf s p = (0, 2) := by simp [byteAtOf, hp]
    rw [hu]
    clear hu hp63
    go_enter Try.func35, Try.ntmps35
    go_wp2
    go_ret2
    exact ⟨rfl, Below.refl _ _⟩
  obtain ⟨q, rfl⟩ := Int.eq_ofNat_of_zero_le (Int.not_lt.1 hp)
  clear hp
  have hu : byteAtOf s q = byteAtL (spotsFrom s 0) s.size q 0 := by simp [byteAtOf]; intro h; omega
  rw [hu]
  clear hu hp63
  obtain ⟨R, hR⟩ : ∃ R, R = byteAtL (spotsFrom s 0) s.size q 0 := ⟨_, rfl⟩
  rw [← hR]
  have HR := Lib.hid hR
  clear hR
  have hd0 : decide ((q : Int) < 0) = false := decide_eq_false (by omega)
  go_enter Try.func35, Try.ntmps35
  go_wp2
  go_loopw [6] (fun x wr => ∃ pos units : Nat, wr = w.iter s pos ∧ x = .int .i64 units ∧ units ≤ 2 * pos ∧ units ≤ q ∧ R = byteAtL (spotsFrom s pos) s.size q units) (fun _ wr => s.size - wr.iterPos w.heap.size)
  case atStart => exact ⟨0, 0, rfl, rfl, Nat.le_refl _, Nat.zero_le _, HR.out⟩
  case round =>
    obtain ⟨pos, units, rfl, rfl, hun, huq, hRl⟩ := hrel
    have hbel : ∀ p, Below w.heap.size w (w.iter s p) := fun p => (Below.refl _ _).alloc (Nat.le_refl _) _
    by_cases hlt : pos < s.size
    · have hnx := fun ty => run_next_any (P := Try.prog) w s pos ty hlt
      rw [spotsFrom_more s pos hlt] at hRl
      have hdr := decode_rune s pos
      have hdw := decode_width s pos
      obtain ⟨D, hD⟩ : ∃ D, D = Utf8.decode s pos := ⟨_, rfl⟩
      rw [← hD] at hnx hRl hdr hdw
      obtain ⟨r, wd⟩ := D
      simp only at hnx hRl hdr hdw
      have H1 := Lib.hid hRl
      clear hRl hD
      obtain ⟨hw1, hw2, hw3⟩ := widthOf_nat r
      obtain ⟨wu, hwu⟩ : ∃ wu, wu = (widthOf r).toNat := ⟨_, rfl⟩
      rw [← hwu] at hw1 hw2 hw3
      have HW1 := Lib.hid hw1
      have HWU := Lib.hid hwu
      clear hw1 hwu
      rcases (show units = q ∨ (units < q ∧ q < units + wu) ∨ (units < q ∧ units + wu ≤ q) from by omega) with h | ⟨h, h'⟩ | ⟨h, h'⟩
      · have hbq : ((units : Int) == (q : Int)) = true := by simp; omega
        have hv : R = ((pos : Int), 0) := by rw [H1.out]; simp only [byteAtL]; rw [if_pos h]
        have HV := Lib.hid hv
        clear hv h
        go_wp2
        go_ret2
        have hv := HV.out
        exact ⟨by subst hv; rfl, hbel _⟩
      · have hbq : ((units : Int) == (q : Int)) = false := by simp; omega
        have hv : R = (0, 23) := by rw [H1.out, HWU.out] at *; simp only [byteAtL]; rw [if_neg (by omega), if_pos h']
        have HV := Lib.hid hv
        clear hv
        go_wp2_with (go_at_call 18; refine (width_any _ _).mono ?_; rw [HW1.out]; rintro e w' ⟨rfl, rfl⟩)
        go_ret2
        have hv := HV.out
        exact ⟨by subst hv; rfl, hbel _⟩
      · have hbq : ((units : Int) == (q : Int)) = false := by simp; omega
        go_wp2_with (go_at_call 18; refine (width_any _ _).mono ?_; rw [HW1.out]; rintro e w' ⟨rfl, rfl⟩)
        go_roundw
        case rel => exact ⟨pos + wd, units + wu, rfl, by go_num, by omega, h', by rw [H1.out, HWU.out] at *; simp only [byteAtL]; rw [if_neg (by omega), if_neg (by omega)]⟩
        case measure => simp; omega
    · rw [spotsFrom_end s pos hlt] at hRl
      have hnx := fun ty => run_next_end (P := Try.prog) w s pos ty hlt
      have H1 := Lib.hid hRl
      clear hRl
      by_cases hqs : units < q
      · go_wp2
        go_ret2
        exact ⟨by rw [H1.out]; simp [byteAtL, hqs], hbel _⟩
      · go_wp2
        go_ret2
        exact ⟨by rw [H1.out]; simp [byteAtL, hqs], hbel _⟩

theorem or_hi (n : Nat) (h : n < 1024) : bits BinOp.or IntKind.u32 55296 (n : Int) = 55296 + (n : Int) := by
  show IntKind.u32.wrap ((BitVec.ofInt 32 55296 ||| BitVec.ofInt 32 (n : Int)).toNat : Int) = _
  have e1 : (BitVec.ofInt 32 55296).toNat = 54 * 1024 := by decide
  have e2 : (BitVec.ofInt 32 (n : Int)).toNat = n := by simp only [BitVec.toNat_ofInt]; omega
  have := Nat.two_pow_add_eq_or_of_lt (i := 10) (b := n) (by omega) 54
  rw [show (2 : Nat) ^ 10 = 1024 from rfl, Nat.mul_comm] at this
  rw [BitVec.toNat_or, e1, e2, ← this]
  simp [IntKind.wrap, IntKind.signed, IntKind.bits]
  omega
theorem or_lo (n : Nat) (h : n < 1024) : bits BinOp.or IntKind.u32 56320 (n : Int) = 56320 + (n : Int) := by
  show IntKind.u32.wrap ((BitVec.ofInt 32 56320 ||| BitVec.ofInt 32 (n : Int)).toNat : Int) = _
  have e1 : (BitVec.ofInt 32 56320).toNat = 55 * 1024 := by decide
  have e2 : (BitVec.ofInt 32 (n : Int)).toNat = n := by simp only [BitVec.toNat_ofInt]; omega
  have := Nat.two_pow_add_eq_or_of_lt (i := 10) (b := n) (by omega) 55
  rw [show (2 : Nat) ^ 10 = 1024 from rfl, Nat.mul_comm] at this
  rw [BitVec.toNat_or, e1, e2, ← this]
  simp [IntKind.wrap, IntKind.signed, IntKind.bits]
  omega
theorem and_1023u (n : Nat) (h : n < 4294967296) : bits BinOp.and IntKind.u32 (n : Int) 1023 = ((n % 1024 : Nat) : Int) := by
  show IntKind.u32.wrap ((BitVec.ofInt 32 (n : Int) &&& BitVec.ofInt 32 1023).toNat : Int) = _
  have e1 : (BitVec.ofInt 32 (n : Int)).toNat = n := by simp only [BitVec.toNat_ofInt]; omega
  have e2 : (BitVec.ofInt 32 1023).toNat = 1023 := by decide
  have := Nat.and_two_pow_sub_one_eq_mod n 10
  rw [show (2 : Nat) ^ 10 - 1 = 1023 from rfl, show (2 : Nat) ^ 10 = 1024 from rfl] at this
  rw [BitVec.toNat_and, e1, e2, this]
  simp [IntKind.wrap, IntKind.signed, IntKind.bits]
  omega

set_option maxHeartbeats 1000000 in
/-- A character's units by plain reckoning, behind some. -/
theorem add_any (w : World) (B : Nat) (a : Option Addr) (n c : Nat) (us : List Int) (hown : Own w B 1 a n c (us.map (Value.int .u16))) (hB : B ≤ w.heap.size) (hn : n + 2 ≤ 35184372088832) (r : Int) (hr0 : 0 ≤ r) (hr : r ≤ 1114111) (hnb : ¬ (55296 ≤ r ∧ r < 57344)) :
    Calls Try.prog 37 #[.slice a n c, .int .i32 r] w fun e w' => ∃ a' m c', e = .returned (.slice a' m c') ∧ Own w' B 1 a' m c' ((us ++ unitsOf r).map (Value.int .u16)) ∧ Below B w w' := by
  obtain ⟨i0, hi, hz0, hz1, hz2⟩ := info_parts info22
  by_cases hw : r < 65536
  · have hU : unitsOf r = [r] := by
      have h1 : wideB r = false := by unfold wideB; simp; omega
      have h2 : scalarB r = true := by unfold scalarB; simp; omega
      simp [unitsOf, h1, h2]
    have HU := Lib.hid hU
    clear hU
    rcases (show r < 55296 ∨ 57344 ≤ r from by omega) with h1 | h1
    all_goals
      clear hnb
      go_enter Try.func37, Try.ntmps37
      go_wp2_with (at_builtin; refine wpList_app rfl _ _ 31 31 rfl 22 i0 (.int .u16 0) 1 2 Try.underlying31 hi hz0 hz1 hz2 rfl (by simp [Value.cells, Value.oneCell']) B _ _ _ _ rfl (hown.alloc _) _ 1 [.int .u16 r] rfl (Src.ofCells Try.underlying31 _ _ _ _ rfl (Cells.new _ _ _) (by simp [Value.oneCell']) (by decide)) (by simp [maxLen]; omega) (by omega) (by simp; omega) ?_; intro a4 c4 w4 hown4 hap4)
      go_ret
      exact ⟨a4, n + 1, c4, rfl, by first | (rw [HU.out, List.map_append]; exact hown4) | (rw [HU.out]; exact hown4), ((Below.refl _ _).alloc hB _).trans (hap4.below (hown.alloc _) (by simp; omega))⟩
  · obtain ⟨k, hk⟩ := Int.eq_ofNat_of_zero_le (show 0 ≤ r - 65536 by omega)
    have hk2 : k < 1048576 := by omega
    have hU : unitsOf r = [55296 + ((k / 1024 : Nat) : Int), 56320 + ((k % 1024 : Nat) : Int)] := by
      have h1 : wideB r = true := by unfold wideB; simp; omega
      simp only [unitsOf, h1, if_true, hiOf, loOf]
      rw [hk]
      congr 1
    have HU := Lib.hid hU
    clear hU
    have ha := and_1023u k (by omega)
    obtain ⟨kh, hkh⟩ : ∃ kh : Nat, kh = k / 1024 := ⟨_, rfl⟩
    obtain ⟨kl, hkl⟩ : ∃ kl : Nat, kl = k % 1024 := ⟨_, rfl⟩
    have ho := or_hi kh (by omega)
    have hl := or_lo kl (by omega)
    rw [← hkl] at ha
    rw [← hk] at ha
    have hq : (r - 65536) / 1024 = (kh : Int) := by omega
    have kh1 : (kh : Int) < 1024 := by omega
    have kl1 : (kl : Int) < 1024 := by omega
    have HKH := Lib.hid hkh
    have HKL := Lib.hid hkl
    have HO := Lib.hid ho
    have HL := Lib.hid hl
    have HQ := Lib.hid hq
    have HA := Lib.hid ha
    have HK2 := Lib.hid hk2
    clear hk2 hnb hkh hkl hk ho hl ha hq kh1 kl1
    go_enter Try.func37, Try.ntmps37
    go_wp2_with (at_builtin; refine wpList_app rfl _ _ 31 31 rfl 22 i0 (.int .u16 0) 1 2 Try.underlying31 hi hz0 hz1 hz2 rfl (by simp [Value.cells, Value.oneCell']) B _ _ _ _ rfl (hown.alloc _) _ 2 [.int .u16 (IntKind.u16.wrap (bits BinOp.or IntKind.u32 55296 ((r - 65536) / 1024))), .int .u16 (IntKind.u16.wrap (bits BinOp.or IntKind.u32 56320 (bits BinOp.and IntKind.u32 (r - 65536) 1023)))] rfl (Src.ofCells Try.underlying31 _ _ _ _ rfl (Cells.new _ _ _) (by simp [Value.oneCell']) (by decide)) (by simp [maxLen]; omega) (by omega) (by simp; omega) ?_; intro a4 c4 w4 hown4 hap4)
    go_ret
    have e1 : IntKind.u16.wrap (bits BinOp.or IntKind.u32 55296 ((r - 65536) / 1024)) = 55296 + ((k / 1024 : Nat) : Int) := by
      have := HK2.out
      rw [HQ.out, HO.out, HKH.out]
      simp [IntKind.wrap, IntKind.signed, IntKind.bits]
      omega
    have e2 : IntKind.u16.wrap (bits BinOp.or IntKind.u32 56320 (bits BinOp.and IntKind.u32 (r - 65536) 1023)) = 56320 + ((k % 1024 : Nat) : Int) := by
      have := HK2.out
      rw [HA.out, HL.out, HKL.out]
      simp [IntKind.wrap, IntKind.signed, IntKind.bits]
      omega
    rw [e1, e2] at hown4
    exact ⟨a4, n + 2, c4, rfl, by first | (rw [HU.out, List.map_append]; exact hown4) | (rw [HU.out]; exact hown4), ((Below.refl _ _).alloc hB _).trans (hap4.below (hown.alloc _) (by simp; omega))⟩

theorem decode_scalar (s : ByteArray) (i : Nat) : ¬ (55296 ≤ ((Utf8.decode s i).1 : Int) ∧ ((Utf8.decode s i).1 : Int) < 57344) := by
  have hb : ∀ k, (s.get! (i + k)).toNat < 256 := fun k => (s.get! (i + k)).toNat_lt
  have h0 := hb 0
  have h1 := hb 1
  have h2 := hb 2
  have h3 := hb 3
  simp only [Utf8.decode]
  repeat' split
  all_goals simp_all [Utf8.runeError, Utf8.valid]
  all_goals omega

/-- The units of what is still to come. -/
def unitsFrom (s : ByteArray) (i : Nat) : List Int := unitsAll ((spotsFrom s i).map fun x => (x.2 : Int))

theorem unitsFrom_more (s : ByteArray) (i : Nat) (h : i < s.size) : unitsFrom s i = unitsOf ((Utf8.decode s i).1 : Int) ++ unitsFrom s (i + (Utf8.decode s i).2) := by
  unfold unitsFrom
  rw [spotsFrom_more s i h]
  simp [unitsAll]
theorem unitsFrom_end (s : ByteArray) (i : Nat) (h : ¬ i < s.size) : unitsFrom s i = [] := by
  unfold unitsFrom
  rw [spotsFrom_end s i h]
  rfl
theorem unitsOf_width (r : Int) : (unitsOf r).length = (widthOf r).toNat := by
  unfold unitsOf widthOf
  split
  · rfl
  · split <;> rfl

/-- Where a character begins, k units having come: what both places' answers come to from there on. -/
structure Come (s : ByteArray) (pos units : Nat) : Prop where
  unit : ∀ q, pos ≤ q → unitAtL (spotsFrom s 0) s.size q 0 = unitAtL (spotsFrom s pos) s.size q units
  byte : ∀ v, units ≤ v → byteAtL (spotsFrom s 0) s.size v 0 = byteAtL (spotsFrom s pos) s.size v units
  le : pos ≤ s.size
  small : units ≤ 2 * pos

theorem Come.start (s : ByteArray) : Come s 0 0 := ⟨fun _ _ => rfl, fun _ _ => rfl, Nat.zero_le _, Nat.le_refl _⟩

theorem Come.next {s : ByteArray} {pos units : Nat} (h : Come s pos units) (hlt : pos < s.size) : Come s (pos + (Utf8.decode s pos).2) (units + (widthOf ((Utf8.decode s pos).1 : Int)).toNat) := by
  have hw := decode_width s pos
  have hf := decode_fits s pos hlt
  have hu := widthOf_nat ((Utf8.decode s pos).1 : Int)
  have hm := spotsFrom_more s pos hlt
  refine ⟨fun q hq => ?_, fun v hv => ?_, hf, ?_⟩
  · rw [h.unit q (by omega), hm]
    simp only [unitAtL]
    rw [if_neg (by omega), if_neg (by omega)]
  · rw [h.byte v (by omega), hm]
    simp only [byteAtL]
    rw [if_neg (by omega), if_neg (by omega)]
  · have := h.small
    omega

theorem Come.unit_here {s : ByteArray} {pos units : Nat} (h : Come s pos units) : unitAtOf s pos = ((units : Int), 0) := by
  have := h.le
  unfold unitAtOf
  rw [if_neg (by omega), Int.toNat_natCast, h.unit pos (Nat.le_refl _)]
  by_cases hlt : pos < s.size
  · rw [spotsFrom_more s pos hlt]
    simp [unitAtL]
  · rw [spotsFrom_end s pos hlt]
    simp [unitAtL, hlt]

theorem Come.byte_here {s : ByteArray} {pos units : Nat} (h : Come s pos units) : byteAtOf s units = ((pos : Int), 0) := by
  have := h.le
  unfold byteAtOf
  rw [if_neg (by omega), Int.toNat_natCast, h.byte units (Nat.le_refl _)]
  by_cases hlt : pos < s.size
  · rw [spotsFrom_more s pos hlt]
    simp [byteAtL]
  · rw [spotsFrom_end s pos hlt]
    simp [byteAtL]
    omega

theorem Own.iterAt {w : World} {B size n c : Nat} {a : Option Addr} {xs : List Value} (h : Own w B size a n c xs) (k : Nat) (s : ByteArray) (pos : Nat) (hk : k < B) : Own (w.iterAt k s pos) B size a n c xs :=
  h.same (by rw [Lib.iterAt_size]; exact Nat.le_refl _) fun g hg => by
    rcases h.row with ⟨h0, _⟩ | ⟨g', ha, h1, _⟩
    · rw [h0] at hg; cases hg
    · rw [ha] at hg
      simp at hg
      subst hg
      exact Lib.iterAt_other w k g' s pos (by omega)

/-- '[]rune(s)' as a law for whatever world it is met in. -/
theorem runes_fn (s : ByteArray) (hs : s.size ≤ 17592186044416) : ∃ (cf : World → Nat) (nw : World → World), (∀ W, (convert 9 30 (.string s)).run Try.prog W = .ok (.slice (some ⟨W.heap.size, 0, none⟩) (textRunes s).length (cf W)) (nw W)) ∧
    ∀ W, Cells (nw W) (some ⟨W.heap.size, 0, none⟩) ((textRunes s).map (Value.int .i32)) ∧ Below W.heap.size W (nw W) := by
  have hle := textRunes_le s
  have hsz : (Conv.runesFrom s s.size 0 #[]).size = (textRunes s).length := by rw [runesFrom_text]; simp
  refine ⟨fun W => grownCap W (textRunes s).length 0 21, fun W => W.drew.alloc (.cells (((textRunes s).map (Value.int .i32)).toArray ++ Array.replicate (grownCap W (textRunes s).length 0 21 - (textRunes s).length) (.int .i32 0)) 21), fun W => ?_, fun W => ⟨?_, ((Below.refl _ _).drew).alloc (by simp) _⟩⟩
  · have hr := run_runes_of_string (P := Try.prog) W 9 30 21 s Try.underlying9 Try.underlying30 Try.underlying21 (by rw [hsz]; omega)
    rw [hsz, runesFrom_text] at hr
    exact hr
  · intro _
    refine ⟨W.heap.size, 0, rfl, fun j u hu => ?_⟩
    rw [Nat.zero_add]
    have hc := World.cell?_alloc_new W.drew (((textRunes s).map (Value.int .i32)).toArray ++ Array.replicate (grownCap W (textRunes s).length 0 21 - (textRunes s).length) (.int .i32 0)) 21 j
    refine hc.trans ?_
    rw [Array.getElem?_append_left (by
      have := (List.getElem?_eq_some_iff.1 hu).1
      simpa using this)]
    simpa using hu

set_option maxRecDepth 20000 in
set_option maxHeartbeats 4000000 in
theorem go_walk (w : World) (s : ByteArray) (hs : s.size ≤ 1048576) : Calls Try.prog 9 #[.string s] w fun e w' => e = .returned (.bool true) ∧ Below w.heap.size w w' := by
  go_enter Try.func9, Try.ntmps9
  go_wp2
  go_loopw [3] (fun x wr => ∃ (pos units : Nat) (a : Option Addr) (c : Nat) (want : List Int), Come s pos units ∧ x = .slice a units c ∧ Own wr (w.heap.size + 1) 1 a units c (want.map (Value.int .u16)) ∧ want ++ unitsFrom s pos = unitsAll (textRunes s) ∧ wr.heap[w.heap.size]? = some (.stringIter s pos) ∧ Below w.heap.size w wr) (fun _ wr => s.size - wr.iterPos w.heap.size)
  case atStart => exact ⟨0, 0, none, 0, [], Come.start s, rfl, Own.nil _ _ _, rfl, World.iter_heap w s 0, (Below.refl _ _).alloc (Nat.le_refl _) _⟩
  case round =>
    obtain ⟨pos, units, a, c, want, hcm, rfl, hown, hwant, hit, hbel⟩ := hrel
    have hle := hcm.le
    have hsm := hcm.small
    have hK : w.heap.size < wr.heap.size := (Array.getElem?_eq_some_iff.1 hit).1
    by_cases hlt : pos < s.size
    · have hnx := fun ty => Lib.run_next_any_at (P := Try.prog) wr w.heap.size s pos ty hit hlt
      have hr1 := decode_rune s pos
      have hr2 := decode_scalar s pos
      have hnext := hcm.next hlt
      have hmore := unitsFrom_more s pos hlt
      have hU := hcm.unit_here
      have hBt := hcm.byte_here
      have hpw := decode_width s pos
      have hpos : wr.iterPos w.heap.size = pos := by simp [World.iterPos, hit]
      obtain ⟨D, hD⟩ : ∃ D, D = Utf8.decode s pos := ⟨_, rfl⟩
      rw [← hD] at hnx hr1 hr2 hnext hmore hpw
      obtain ⟨r, wd⟩ := D
      simp only at hnx hr1 hr2 hnext hmore hpw
      have hown1 := hown.iterAt w.heap.size s (pos + wd) (by omega)
      have hit1 := Lib.iterAt_heap wr w.heap.size s pos (pos + wd) hit
      have hbel1 := Lib.below_iterAt hbel (Nat.le_refl _) s (pos + wd)
      obtain ⟨W1, hW1⟩ : ∃ W1, W1 = wr.iterAt w.heap.size s (pos + wd) := ⟨_, rfl⟩
      rw [← hW1] at hnx hown1 hit1 hbel1
      have HNEXT := Lib.hid hnext
      have HMORE := Lib.hid hmore
      have hua := fun W => unitAt_any W s (by omega) pos
      rw [hU] at hua
      have hba := fun W => byteAt_any W s (by omega) units (by omega)
      rw [hBt] at hba
      have HU := Lib.hid hua
      have HBT := Lib.hid hba
      clear hua hba
      have HO1 := Lib.hid hown1
      have HI1 := Lib.hid hit1
      have HB1 := Lib.hid hbel1
      have HWANT := Lib.hid hwant
      have HR1 := Lib.hid hr1
      have HR2 := Lib.hid hr2
      have HPOS := Lib.hid hpos
      clear hcm hown hwant hit hbel hU hBt hnext hmore hown1 hit1 hbel1 hW1 hD hr1 hr2 hpos hK
      have hun : units + 2 ≤ 35184372088832 := by omega
      go_wp2_with (first
        | (go_at_call 28; refine (HU.out _).mono ?_; rintro e w2 ⟨rfl, hb2⟩)
        | (go_at_call 35; refine (HBT.out _).mono ?_; rintro e w3 ⟨rfl, hb3⟩)
        | (go_at_call 37; have hb13 := after hb2 hb3; refine (add_any _ (w.heap.size + 1) a units c want (HO1.out.below hb13) (by have h1 := (Array.getElem?_eq_some_iff.1 HI1.out).1; have h2 := hb13.size; omega) hun (r : Int) (by omega) (by have := HR1.out; omega) HR2.out).mono ?_; rintro e w4 ⟨a4, n4, c4, rfl, hown4, hb4⟩))
      have hb13 := after hb2 hb3
      have hi2 := (hb13.block w.heap.size (Array.getElem?_eq_some_iff.1 HI1.out).1).trans HI1.out
      have hi4 := (hb4.block w.heap.size (by omega)).trans hi2
      have hn4 : n4 = units + (widthOf (r : Int)).toNat := by
        have h1 := hown4.len
        have h2 := HO1.out.len
        rw [List.length_map, List.length_append, unitsOf_width] at h1
        rw [List.length_map] at h2
        omega
      have hbw : Below w.heap.size w w4 := (HB1.out.trans (hb13.mono HB1.out.size)).trans (hb4.mono (by omega))
      have HN4 := Lib.hid hn4
      have HO4 := Lib.hid hown4
      have HI4 := Lib.hid hi4
      have HBW := Lib.hid hbw
      clear hb2 hb3 hb4 hb13 hi2 hi4 hn4 hown4 hbw
      go_roundw
      case rel => exact ⟨pos + wd, n4, a4, c4, want ++ unitsOf r, by rw [HN4.out]; exact HNEXT.out, rfl, HO4.out, by rw [← HWANT.out, HMORE.out, List.append_assoc], HI4.out, HBW.out⟩
      case measure =>
        have h1 : w4.iterPos w.heap.size = pos + wd := by have := HI4.out; simp [World.iterPos, this]
        rw [h1, HPOS.out]
        omega
    · obtain rfl : pos = s.size := by omega
      have hnx := fun ty => Lib.run_next_end_at (P := Try.prog) wr w.heap.size s s.size ty hit hlt
      have hua := fun W => unitAt_any W s (by omega) s.size
      rw [hcm.unit_here] at hua
      have hba := fun W => byteAt_any W s (by omega) units (by omega)
      rw [hcm.byte_here] at hba
      rw [unitsFrom_end s s.size hlt, List.append_nil] at hwant
      obtain rfl : units = want.length := by have := hown.len; simpa using this.symm
      have hft := fun W => fromText_any W s (by omega)
      obtain ⟨cf, nw, hcv, hnw⟩ := runes_fn s (by omega)
      have hfr := fun W h => from_any W (some ⟨W.heap.size, 0, none⟩) 0 (textRunes s) (by have := textRunes_le s; omega) h
      rw [← hwant] at hft
      have HU := Lib.hid hua
      have HBT := Lib.hid hba
      have HFT := Lib.hid hft
      have HNW := Lib.hid hnw
      have HO := Lib.hid hown
      have HBEL := Lib.hid hbel
      have HWANT := Lib.hid hwant
      clear hcm hua hba hft hnw hown hbel hwant hfr
      go_wp2_with fail
      refine (HU.out _).mono ?_
      rintro e w2 ⟨rfl, hb2⟩
      go_wp2_with fail
      refine (HBT.out _).mono ?_
      rintro e w3 ⟨rfl, hb3⟩
      go_wp2_with fail
      refine (HFT.out _).mono ?_
      rintro e w4 ⟨a4, c4, rfl, hown4, hb4⟩
      have hB4 := after (after hb2 hb3) hb4
      have hc4 := (HO.out.below hB4).toCells
      have hs5 := same_any w4 a4 c4 want a c want (by have := HO.out.le; have := HO.out.ml; simp [maxLen] at *; omega) hown4.toCells hc4
      rw [decide_eq_true rfl] at hs5
      have HS5 := Lib.hid hs5
      have HB4 := Lib.hid hB4
      clear hs5 hB4 hc4 hown4 hb2 hb3 hb4
      go_wp2_with fail
      refine HS5.out.mono ?_
      rintro e w5 ⟨rfl, hb5⟩
      have HB5 := Lib.hid (after HB4.out hb5)
      clear hb5
      go_wp2_with fail
      have hn5 := HNW.out w5
      refine (from_any _ (some ⟨w5.heap.size, 0, none⟩) (cf w5) (textRunes s) (by have := textRunes_le s; omega) hn5.1).mono ?_
      rintro e w6 ⟨a6, n6, c6, rfl, hown6, hb6⟩
      rw [← HWANT.out] at hown6
      obtain rfl : n6 = want.length := by have := hown6.len; simpa using this.symm
      have HB6 := Lib.hid (after (after HB5.out hn5.2) hb6)
      have hs7 := same_any w6 a6 c6 want a c want (by have := HO.out.le; have := HO.out.ml; simp [maxLen] at *; omega) hown6.toCells (HO.out.below HB6.out).toCells
      rw [decide_eq_true rfl] at hs7
      have HS7 := Lib.hid hs7
      clear hs7 hown6 hb6 hn5 hcv
      go_wp2_with (first
        | (go_at_call 29; refine HS7.out.mono ?_; rintro e w7 ⟨rfl, hb7⟩)
        | (go_at_call 20; refine (awake_any _).mono ?_; rintro e w8 ⟨rfl, hb8⟩))
      go_ret
      exact ⟨rfl, HBEL.out.trans (((after HB6.out hb7).trans (hb8.mono (after HB6.out hb7).size)).mono HBEL.out.size)⟩

end Go.Proofs.Ytmdcbpdmkonmlaa
