/-
  Units read from bytes: the program's and the reference's, walked. Printed by a program of ours (genread.py).
-/
import Derived.Test.YtmdcbpdmkonmlaaAwake
namespace Go.Proofs.Ytmdcbpdmkonmlaa
open Go.RowKit

/-- A byte of a text. -/
def byteN (s : ByteArray) (i : Nat) : Nat := (s.data.toList.getD i 0).toNat
theorem byteN_lt (s : ByteArray) (i : Nat) : byteN s i < 256 := (s.data.toList.getD i 0).toNat_lt
theorem byteN_at (s : ByteArray) (i : Nat) (h : i < s.size) : s[i].toNat = byteN s i := by
  unfold byteN
  rw [List.getD_eq_getElem?_getD, List.getElem?_eq_getElem (by simpa using h)]
  rfl

theorem byteN_extract (s : ByteArray) (f i : Nat) (h : f + i < s.size) : byteN (s.extract f s.size) i = byteN s (f + i) := by
  unfold byteN
  simp only [List.getD_eq_getElem?_getD, ByteArray.data_extract, Array.toList_extract]
  congr 2
  rw [List.extract_eq_take_drop, List.getElem?_take_of_lt (by omega), List.getElem?_drop]

/-- The unit that stands at a byte, by an order. -/
def unitB (o : Int) (s : ByteArray) (i : Nat) : Int := if o = 1 then (byteN s (i + 1) : Int) * 256 + byteN s i else (byteN s i : Int) * 256 + byteN s (i + 1)
/-- The first units of bytes. -/
def readTo (o : Int) (s : ByteArray) (k : Nat) : List Int := (List.range k).map fun j => unitB o s (2 * j)
theorem readTo_succ (o : Int) (s : ByteArray) (k : Nat) : readTo o s (k + 1) = readTo o s k ++ [unitB o s (2 * k)] := by simp [readTo, List.range_succ]
theorem readTo_length (o : Int) (s : ByteArray) (k : Nat) : (readTo o s k).length = k := by simp [readTo]
theorem unitB_yes {o : Int} (h : o = 1) (s : ByteArray) (i : Nat) : unitB o s i = (byteN s (i + 1) : Int) * 256 + byteN s i := by simp [unitB, h]
theorem unitB_no {o : Int} (h : ¬ o = 1) (s : ByteArray) (i : Nat) : unitB o s i = (byteN s i : Int) * 256 + byteN s (i + 1) := by simp [unitB, h]

theorem wrap16 (y : Nat) (h : y < 256) : IntKind.u16.wrap (y : Int) = y := by
  simp [IntKind.wrap, IntKind.signed, IntKind.bits]
  omega

theorem or_bytes (a b : Nat) (ha : a < 256) (hb : b < 256) : bits BinOp.or IntKind.u16 ((a : Int) * 256) (b : Int) = (a : Int) * 256 + b := by
  show IntKind.u16.wrap ((BitVec.ofInt 16 ((a : Int) * 256) ||| BitVec.ofInt 16 (b : Int)).toNat : Int) = _
  have e1 : (BitVec.ofInt 16 ((a : Int) * 256)).toNat = a * 256 := by simp only [BitVec.toNat_ofInt]; omega
  have e2 : (BitVec.ofInt 16 (b : Int)).toNat = b := by simp only [BitVec.toNat_ofInt]; omega
  have := Nat.two_pow_add_eq_or_of_lt (i := 8) (b := b) (by omega) a
  rw [show (2 : Nat) ^ 8 = 256 from rfl, Nat.mul_comm] at this
  rw [BitVec.toNat_or, e1, e2, ← this]
  simp [IntKind.wrap, IntKind.signed, IntKind.bits]
  omega

/-- Do the first two bytes mark an order? -/
def markOf (s : ByteArray) : Option Int :=
  if 2 ≤ s.size then (if (s.extract 0 2).toList == [254, 255] then some 0 else if (s.extract 0 2).toList == [255, 254] then some 1 else none) else none

/-- What Read answers. -/
def readOf (o : Int) (s : ByteArray) : List Int × Int × Int :=
  if ¬ (o = 0 ∨ o = 1) then ([], 0, 2) else if s.size % 2 = 1 then ([], 0, 22)
  else match markOf s with
  | some p => (readTo p (s.extract 2 s.size) ((s.extract 2 s.size).size / 2), p, 0)
  | none => (readTo o s (s.size / 2), o, 0)

theorem readOf_some {o p : Int} {s : ByteArray} (hk : o = 0 ∨ o = 1) (he : ¬ s.size % 2 = 1) (hm : markOf s = some p) : readOf o s = (readTo p (s.extract 2 s.size) ((s.extract 2 s.size).size / 2), p, 0) := by
  unfold readOf
  rw [if_neg (not_not_intro hk), if_neg he, hm]
theorem readOf_none {o : Int} {s : ByteArray} (hk : o = 0 ∨ o = 1) (he : ¬ s.size % 2 = 1) (hm : markOf s = none) : readOf o s = (readTo o s (s.size / 2), o, 0) := by
  unfold readOf
  rw [if_neg (not_not_intro hk), if_neg he, hm]

theorem extract_size (s : ByteArray) (h : 2 ≤ s.size) : (s.extract 2 s.size).size = s.size - 2 := by
  rw [ByteArray.size_extract]
  omega

set_option maxHeartbeats 4000000 in
theorem read_any (w : World) (o : Int) (s : ByteArray) (hs : s.size ≤ 17592186044416) :
    Calls Try.prog 42 #[.int .u8 o, .string s] w fun e w' => ∃ a n c, e = .returned (.tuple #[.slice a n c, .int .u8 (readOf o s).2.1, .int .i64 (readOf o s).2.2]) ∧ Own w' w.heap.size 1 a n c ((readOf o s).1.map (Value.int .u16)) ∧ Below w.heap.size w w' := by
  obtain ⟨i0, hi, hz0, hz1, hz2⟩ := info_parts info22
  by_cases hk : o = 0 ∨ o = 1
  · have hd : decide (o = 0 ∨ o = 1) = true := decide_eq_true hk
    by_cases hodd : s.size % 2 = 1
    · have hO : readOf o s = ([], 0, 22) := by simp [readOf, hk, hodd]
      rw [hO]
      have hod : (s.size : Int) % 2 = 1 := by omega
      clear hO hk hodd
      go_enter Try.func42, Try.ntmps42
      go_wp2_with (go_at_call 60; refine (known_any o _).mono ?_; rw [hd]; rintro e w' ⟨rfl, rfl⟩)
      go_ret3
      exact ⟨none, 0, 0, rfl, Own.nil _ _ _, Below.refl _ _⟩
    · have hevb : ((s.size : Int) % 2 == 1) = false := by simp; omega
      have HEV := Lib.hid hodd
      by_cases h2 : 2 ≤ s.size
      · have h2i : (2 : Int) ≤ (s.size : Int) := by omega
        have h2d : decide ((2 : Int) ≤ (s.size : Int)) = true := decide_eq_true h2i
        cases hA0 : ((s.extract 0 2).toList == [254, 255])
        · cases hB0 : ((s.extract 0 2).toList == [255, 254])
          · have hm : markOf s = none := by unfold markOf; rw [if_pos h2, hA0, hB0]; rfl
            rw [readOf_none hk hodd hm]
            have HTE := Lib.hid (show s.size % 2 = 0 by omega)
            clear hm hk hodd
            go_enter Try.func42, Try.ntmps42
            go_wp2_with (go_at_call 60; refine (known_any o _).mono ?_; rw [hd]; rintro e w' ⟨rfl, rfl⟩)
            clear hd
            go_loopw [7, 8] (fun v x wr => ∃ (i : Nat) (a : Option Addr) (n c : Nat), i ≤ s.size ∧ i % 2 = 0 ∧ x = .int .i64 i ∧ v = .slice a n c ∧ Own wr w.heap.size 1 a n c ((readTo o s (i / 2)).map (Value.int .u16)) ∧ Below w.heap.size w wr) (fun _ x _ => s.size - (intOf x).toNat)
            case atStart => exact ⟨0, none, 0, 0, Nat.zero_le _, rfl, rfl, rfl, Own.nil _ _ _, Below.refl _ _⟩
            case round =>
              obtain ⟨i, a2, n2, c2, hi2, hie, rfl, rfl, hown, hb⟩ := hrel
              have hn2 : n2 = i / 2 := by have := hown.len; rw [List.length_map, readTo_length] at this; simpa using this.symm
              by_cases hlt : i < s.size
              · have hlt1 : i + 1 < s.size := by have := HTE.out; omega
                have hA := byteN_at s i hlt
                have hB := byteN_at s (i + 1) hlt1
                have hwA := wrap16 (byteN s i) (byteN_lt s i)
                have hwB := wrap16 (byteN s (i + 1)) (byteN_lt s (i + 1))
                have hlA := byteN_lt s i
                have hlB := byteN_lt s (i + 1)
                have h0 : (0 : Int) ≤ (i : Int) := by omega
                have h1 : (i : Int) < (s.size : Int) := by omega
                have h3 : (0 : Int) ≤ (i : Int) + 1 := by omega
                have h4 : (i : Int) + 1 < (s.size : Int) := by omega
                have hnb : n2 + 1 ≤ 35184372088832 := by omega
                clear hn2
                cases hob : (o == 1)
                · have ho1 := Lib.hid (show ¬ o = 1 by simpa using hob)
                  go_wp2
                  go_quiet (fail)
                  go_wp2_with (at_builtin; refine wpList_app rfl _ _ 31 31 rfl 22 i0 (.int .u16 0) 1 2 Try.underlying31 hi hz0 hz1 hz2 rfl (by simp [Value.cells, Value.oneCell']) w.heap.size _ _ _ _ rfl ((hown.below (below_drewN (Below.refl _ _) nq)).alloc _) _ 1 [.int .u16 (bits BinOp.or IntKind.u16 ((byteN s i : Int) * 256) (byteN s (i + 1) : Int))] rfl (Src.ofCells Try.underlying31 _ _ _ _ rfl (Cells.new _ _ _) (by simp [Value.oneCell']) (by decide)) (by simp [maxLen]; omega) (by omega) (by have := hb.size; simp; omega) ?_; intro a4 c4 w4 hown4 hap4; have hb4 := Lib.hid (((below_drewN hb nq).alloc hb.size _).trans (hap4.below ((hown.below (below_drewN (Below.refl _ _) nq)).alloc _) (by have := hb.size; simp; omega))); have HO4 := Lib.hid hown4; clear hown4 hap4 hown hb)
                  go_roundw
                  case rel => exact ⟨i + 2, a4, _, c4, by omega, by omega, by go_num, rfl, by have := HO4.out; rw [show (i + 2) / 2 = i / 2 + 1 from by omega, readTo_succ, List.map_append, unitB_no ho1.out, show 2 * (i / 2) = i from by omega]; rwa [or_bytes _ _ (byteN_lt _ _) (byteN_lt _ _)] at this, hb4.out⟩
                  case measure => simp [intOf]; omega
                · have ho1 := Lib.hid (show o = 1 by simpa using hob)
                  go_wp2
                  go_quiet (fail)
                  go_wp2_with (at_builtin; refine wpList_app rfl _ _ 31 31 rfl 22 i0 (.int .u16 0) 1 2 Try.underlying31 hi hz0 hz1 hz2 rfl (by simp [Value.cells, Value.oneCell']) w.heap.size _ _ _ _ rfl ((hown.below (below_drewN (Below.refl _ _) nq)).alloc _) _ 1 [.int .u16 (bits BinOp.or IntKind.u16 ((byteN s (i + 1) : Int) * 256) (byteN s i : Int))] rfl (Src.ofCells Try.underlying31 _ _ _ _ rfl (Cells.new _ _ _) (by simp [Value.oneCell']) (by decide)) (by simp [maxLen]; omega) (by omega) (by have := hb.size; simp; omega) ?_; intro a4 c4 w4 hown4 hap4; have hb4 := Lib.hid (((below_drewN hb nq).alloc hb.size _).trans (hap4.below ((hown.below (below_drewN (Below.refl _ _) nq)).alloc _) (by have := hb.size; simp; omega))); have HO4 := Lib.hid hown4; clear hown4 hap4 hown hb)
                  go_roundw
                  case rel => exact ⟨i + 2, a4, _, c4, by omega, by omega, by go_num, rfl, by have := HO4.out; rw [show (i + 2) / 2 = i / 2 + 1 from by omega, readTo_succ, List.map_append, unitB_yes ho1.out, show 2 * (i / 2) = i from by omega]; rwa [or_bytes _ _ (byteN_lt _ _) (byteN_lt _ _)] at this, hb4.out⟩
                  case measure => simp [intOf]; omega
              · obtain rfl : s.size = i := by omega
                have H2 := Lib.hid hown
                have H3 := Lib.hid hb
                clear hown hb
                go_wp2
                go_ret3
                exact ⟨a2, n2, c2, rfl, H2.out, H3.out⟩
          · have hm : markOf s = some 1 := by unfold markOf; rw [if_pos h2, hA0, hB0]; rfl
            rw [readOf_some hk hodd hm]
            have hsz := extract_size s h2
            have hsl0 := fun W : World => run_slice_string_from_if (P := Try.prog) (w := W) 9 s .i64 2 Try.underlying9
            have hsl : ∀ W : World, (Instr.slice 9 (.string s) (some (.int .i64 2)) none none).run Try.prog W = .ok (.string (s.extract 2 s.size)) W := fun W => by rw [hsl0, if_pos ⟨by omega, h2i⟩]; rfl
            clear hsl0
            generalize s.extract 2 s.size = T at *
            have HTE := Lib.hid (show T.size % 2 = 0 by omega)
            have hTs : T.size ≤ 17592186044416 := by omega
            clear hm hk hodd hsz
            go_enter Try.func42, Try.ntmps42
            go_wp2_with (go_at_call 60; refine (known_any o _).mono ?_; rw [hd]; rintro e w' ⟨rfl, rfl⟩)
            go_quiet (fail)
            go_wp2
            clear hd hsl
            go_loopw [7, 8] (fun v x wr => ∃ (i : Nat) (a : Option Addr) (n c : Nat), i ≤ T.size ∧ i % 2 = 0 ∧ x = .int .i64 i ∧ v = .slice a n c ∧ Own wr w.heap.size 1 a n c ((readTo 1 T (i / 2)).map (Value.int .u16)) ∧ Below w.heap.size w wr) (fun _ x _ => T.size - (intOf x).toNat)
            case atStart => exact ⟨0, none, 0, 0, Nat.zero_le _, rfl, rfl, rfl, Own.nil _ _ _, below_drewN (Below.refl _ _) _⟩
            case round =>
              obtain ⟨i, a2, n2, c2, hi2, hie, rfl, rfl, hown, hb⟩ := hrel
              have hn2 : n2 = i / 2 := by have := hown.len; rw [List.length_map, readTo_length] at this; simpa using this.symm
              by_cases hlt : i < T.size
              · have hlt1 : i + 1 < T.size := by have := HTE.out; omega
                have hA := byteN_at T i hlt
                have hB := byteN_at T (i + 1) hlt1
                have hwA := wrap16 (byteN T i) (byteN_lt T i)
                have hwB := wrap16 (byteN T (i + 1)) (byteN_lt T (i + 1))
                have hlA := byteN_lt T i
                have hlB := byteN_lt T (i + 1)
                have h0 : (0 : Int) ≤ (i : Int) := by omega
                have h1 : (i : Int) < (T.size : Int) := by omega
                have h3 : (0 : Int) ≤ (i : Int) + 1 := by omega
                have h4 : (i : Int) + 1 < (T.size : Int) := by omega
                have hnb : n2 + 1 ≤ 35184372088832 := by omega
                clear hn2
                go_wp2
                go_quiet (fail)
                go_wp2_with (at_builtin; refine wpList_app rfl _ _ 31 31 rfl 22 i0 (.int .u16 0) 1 2 Try.underlying31 hi hz0 hz1 hz2 rfl (by simp [Value.cells, Value.oneCell']) w.heap.size _ _ _ _ rfl ((hown.below (below_drewN (Below.refl _ _) nq)).alloc _) _ 1 [.int .u16 (bits BinOp.or IntKind.u16 ((byteN T (i + 1) : Int) * 256) (byteN T i : Int))] rfl (Src.ofCells Try.underlying31 _ _ _ _ rfl (Cells.new _ _ _) (by simp [Value.oneCell']) (by decide)) (by simp [maxLen]; omega) (by omega) (by have := hb.size; simp; omega) ?_; intro a4 c4 w4 hown4 hap4; have hb4 := Lib.hid (((below_drewN hb nq).alloc hb.size _).trans (hap4.below ((hown.below (below_drewN (Below.refl _ _) nq)).alloc _) (by have := hb.size; simp; omega))); have HO4 := Lib.hid hown4; clear hown4 hap4 hown hb)
                go_roundw
                case rel => exact ⟨i + 2, a4, _, c4, by omega, by omega, by go_num, rfl, by have := HO4.out; rw [show (i + 2) / 2 = i / 2 + 1 from by omega, readTo_succ, List.map_append, unitB_yes rfl, show 2 * (i / 2) = i from by omega]; rwa [or_bytes _ _ (byteN_lt _ _) (byteN_lt _ _)] at this, hb4.out⟩
                case measure => simp [intOf]; omega
              · obtain rfl : T.size = i := by omega
                have H2 := Lib.hid hown
                have H3 := Lib.hid hb
                clear hown hb
                go_wp2
                go_ret3
                exact ⟨a2, n2, c2, rfl, H2.out, H3.out⟩
        · have hm : markOf s = some 0 := by unfold markOf; rw [if_pos h2, hA0]; rfl
          rw [readOf_some hk hodd hm]
          have hsz := extract_size s h2
          have hsl0 := fun W : World => run_slice_string_from_if (P := Try.prog) (w := W) 9 s .i64 2 Try.underlying9
          have hsl : ∀ W : World, (Instr.slice 9 (.string s) (some (.int .i64 2)) none none).run Try.prog W = .ok (.string (s.extract 2 s.size)) W := fun W => by rw [hsl0, if_pos ⟨by omega, h2i⟩]; rfl
          clear hsl0
          generalize s.extract 2 s.size = T at *
          have HTE := Lib.hid (show T.size % 2 = 0 by omega)
          have hTs : T.size ≤ 17592186044416 := by omega
          clear hm hk hodd hsz
          go_enter Try.func42, Try.ntmps42
          go_wp2_with (go_at_call 60; refine (known_any o _).mono ?_; rw [hd]; rintro e w' ⟨rfl, rfl⟩)
          go_quiet (fail)
          go_wp2
          clear hd hsl
          go_loopw [7, 8] (fun v x wr => ∃ (i : Nat) (a : Option Addr) (n c : Nat), i ≤ T.size ∧ i % 2 = 0 ∧ x = .int .i64 i ∧ v = .slice a n c ∧ Own wr w.heap.size 1 a n c ((readTo 0 T (i / 2)).map (Value.int .u16)) ∧ Below w.heap.size w wr) (fun _ x _ => T.size - (intOf x).toNat)
          case atStart => exact ⟨0, none, 0, 0, Nat.zero_le _, rfl, rfl, rfl, Own.nil _ _ _, below_drewN (Below.refl _ _) _⟩
          case round =>
            obtain ⟨i, a2, n2, c2, hi2, hie, rfl, rfl, hown, hb⟩ := hrel
            have hn2 : n2 = i / 2 := by have := hown.len; rw [List.length_map, readTo_length] at this; simpa using this.symm
            by_cases hlt : i < T.size
            · have hlt1 : i + 1 < T.size := by have := HTE.out; omega
              have hA := byteN_at T i hlt
              have hB := byteN_at T (i + 1) hlt1
              have hwA := wrap16 (byteN T i) (byteN_lt T i)
              have hwB := wrap16 (byteN T (i + 1)) (byteN_lt T (i + 1))
              have hlA := byteN_lt T i
              have hlB := byteN_lt T (i + 1)
              have h0 : (0 : Int) ≤ (i : Int) := by omega
              have h1 : (i : Int) < (T.size : Int) := by omega
              have h3 : (0 : Int) ≤ (i : Int) + 1 := by omega
              have h4 : (i : Int) + 1 < (T.size : Int) := by omega
              have hnb : n2 + 1 ≤ 35184372088832 := by omega
              clear hn2
              go_wp2
              go_quiet (fail)
              go_wp2_with (at_builtin; refine wpList_app rfl _ _ 31 31 rfl 22 i0 (.int .u16 0) 1 2 Try.underlying31 hi hz0 hz1 hz2 rfl (by simp [Value.cells, Value.oneCell']) w.heap.size _ _ _ _ rfl ((hown.below (below_drewN (Below.refl _ _) nq)).alloc _) _ 1 [.int .u16 (bits BinOp.or IntKind.u16 ((byteN T i : Int) * 256) (byteN T (i + 1) : Int))] rfl (Src.ofCells Try.underlying31 _ _ _ _ rfl (Cells.new _ _ _) (by simp [Value.oneCell']) (by decide)) (by simp [maxLen]; omega) (by omega) (by have := hb.size; simp; omega) ?_; intro a4 c4 w4 hown4 hap4; have hb4 := Lib.hid (((below_drewN hb nq).alloc hb.size _).trans (hap4.below ((hown.below (below_drewN (Below.refl _ _) nq)).alloc _) (by have := hb.size; simp; omega))); have HO4 := Lib.hid hown4; clear hown4 hap4 hown hb)
              go_roundw
              case rel => exact ⟨i + 2, a4, _, c4, by omega, by omega, by go_num, rfl, by have := HO4.out; rw [show (i + 2) / 2 = i / 2 + 1 from by omega, readTo_succ, List.map_append, unitB_no (by decide), show 2 * (i / 2) = i from by omega]; rwa [or_bytes _ _ (byteN_lt _ _) (byteN_lt _ _)] at this, hb4.out⟩
              case measure => simp [intOf]; omega
            · obtain rfl : T.size = i := by omega
              have H2 := Lib.hid hown
              have H3 := Lib.hid hb
              clear hown hb
              go_wp2
              go_ret3
              exact ⟨a2, n2, c2, rfl, H2.out, H3.out⟩
      · have hm : markOf s = none := by unfold markOf; rw [if_neg h2]
        rw [readOf_none hk hodd hm]
        have h2d : decide ((2 : Int) ≤ (s.size : Int)) = false := decide_eq_false (by omega)
        have HZ := Lib.hid (show s.size = 0 by omega)
        clear hm hk hodd
        go_enter Try.func42, Try.ntmps42
        go_wp2_with (go_at_call 60; refine (known_any o _).mono ?_; rw [hd]; rintro e w' ⟨rfl, rfl⟩)
        go_loopw [7, 8] (fun v x wr => x = .int .i64 0 ∧ v = .slice none 0 0 ∧ w = wr) (fun _ _ _ => 0)
        case atStart => exact ⟨rfl, rfl, rfl⟩
        case round =>
          obtain ⟨rfl, rfl, rfl⟩ := hrel
          have hz := HZ.out
          have hz1 : ¬ (0 : Int) < (s.size : Int) := by omega
          have hz2 : ¬ 0 < s.size := by omega
          go_wp2
          go_ret3
          exact ⟨none, 0, 0, rfl, by exact Own.nil _ _ _, Below.refl _ _⟩
  · have hd : decide (o = 0 ∨ o = 1) = false := decide_eq_false hk
    have hO : readOf o s = ([], 0, 2) := by simp [readOf, hk]
    rw [hO]
    clear hO hk
    go_enter Try.func42, Try.ntmps42
    go_wp2_with (go_at_call 60; refine (known_any o _).mono ?_; rw [hd]; rintro e w' ⟨rfl, rfl⟩)
    go_ret3
    exact ⟨none, 0, 0, rfl, Own.nil _ _ _, Below.refl _ _⟩

end Go.Proofs.Ytmdcbpdmkonmlaa
