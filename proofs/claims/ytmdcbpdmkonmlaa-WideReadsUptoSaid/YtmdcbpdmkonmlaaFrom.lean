/-
  Units of runes: the program's and the reference's FromRunes, walked; two lists held against one another.
-/
import Derived.Test.YtmdcbpdmkonmlaaBase
import Derived.BigQuiet
import Derived.Deep.QuietTactic
namespace Go.Proofs.Ytmdcbpdmkonmlaa
open Go.RowKit

theorem info22 : (Try.prog.info? 22).map (fun i => (i.zero, i.size, i.bytes)) = some (some (.int .u16 0), 1, 2) := by kernel_rfl

theorem ints_one (k : IntKind) (l : List Int) : ∀ u ∈ l.map (Value.int k), u.oneCell' = true := by
  intro u hu
  obtain ⟨_, _, rfl⟩ := List.mem_map.1 hu
  rfl

/-- The units of a number. -/
def unitsOf (r : Int) : List Int := if wideB r then [hiOf r, loOf r] else if scalarB r then [r] else [65533]
/-- The units of numbers. -/
def unitsAll (l : List Int) : List Int := l.flatMap unitsOf

theorem unitsOf_length (r : Int) : 1 ≤ (unitsOf r).length ∧ (unitsOf r).length ≤ 2 := by
  unfold unitsOf; split
  · simp
  · split <;> simp

theorem unitsAll_le (l : List Int) : (unitsAll l).length ≤ 2 * l.length := by
  induction l with
  | nil => simp [unitsAll]
  | cons r l ih =>
    have := unitsOf_length r
    simp only [unitsAll, List.flatMap_cons, List.length_append, List.length_cons] at ih ⊢
    omega

theorem unitsAll_take_le (l : List Int) (k : Nat) (hk : k ≤ l.length) : (unitsAll (l.take k)).length ≤ 2 * k := by
  have := unitsAll_le (l.take k)
  rw [List.length_take, Nat.min_eq_left hk] at this
  exact this

theorem unitsAll_snoc (l : List Int) (k : Nat) (r : Int) (h : l[k]? = some r) : unitsAll (l.take (k + 1)) = unitsAll (l.take k) ++ unitsOf r := by
  rw [List.take_add_one, h]
  simp [unitsAll]

theorem i32_of {r : Int} (h : (Lit.int .i32 r).wf = true) : -2147483648 ≤ r ∧ r ≤ 2147483647 := by
  simpa [Lit.wf, IntKind.min, IntKind.max, IntKind.signed, IntKind.bits] using h

set_option maxHeartbeats 2000000 in
theorem from_any (w : World) (a : Option Addr) (c : Nat) (rs : List Int) (hn : rs.length ≤ 17592186044416) (hr : Cells w a (rs.map (Value.int .i32))) :
    Calls Try.prog 21 #[.slice a rs.length c] w fun e w' => ∃ a n c, e = .returned (.slice a n c) ∧ Own w' w.heap.size 1 a n c ((unitsAll rs).map (Value.int .u16)) ∧ Below w.heap.size w w' := by
  obtain ⟨i0, hi, hz0, hz1, hz2⟩ := info_parts info22
  have HR := Lib.hid hr
  clear hr
  go_enter Try.func21, Try.ntmps21
  go_wp2
  go_loopw [3, 11] (fun v i wr => ∃ k a n c, k ≤ rs.length ∧ i = .int .i64 (k : Nat) ∧ v = .slice a n c ∧ Own wr w.heap.size 1 a n c ((unitsAll (rs.take k)).map (Value.int .u16)) ∧ Below w.heap.size w wr) (fun _ i _ => rs.length - (intOf i).toNat)
  case atStart => exact ⟨0, none, 0, 0, Nat.zero_le _, rfl, rfl, Own.nil _ _ _, Below.refl _ _⟩
  case round =>
    obtain ⟨k, a2, n2, c2, hk, rfl, rfl, hown, hb⟩ := hrel
    by_cases hlt : k < rs.length
    · obtain ⟨b, off, r, rfl, hrk, hck⟩ := (HR.out.below hb).at hlt
      have hn2 : n2 + 2 ≤ 140737488355328 ∧ (n2 + 2) * 2 ≤ 140737488355328 := by
        have h1 := hown.len
        have h2 := unitsAll_take_le rs k hk
        rw [List.length_map] at h1
        omega
      obtain ⟨hn2, hn3⟩ := hn2
      have HK := Lib.hid hrk
      clear hrk
      cases hw : wideB r
      · cases hs : scalarB r
        · have HU := Lib.hid (show unitsOf r = [65533] by simp [unitsOf, hw, hs])
          go_wp2_with (first
            | (go_at_call 14; refine (split_no r _ hw).mono ?_; rintro e w' ⟨rfl, rfl⟩)
            | (go_at_call 55; refine (scalar_any r _).mono ?_; rw [hs]; rintro e w' ⟨rfl, rfl⟩)
            | (at_builtin; refine wpList_app rfl _ _ 31 31 rfl 22 i0 (.int .u16 0) 1 2 Try.underlying31 hi hz0 hz1 hz2 rfl (by simp [Value.cells, Value.oneCell']) w.heap.size _ _ _ _ rfl (hown.alloc _) _ 1 [.int .u16 65533] rfl (Src.ofCells Try.underlying31 _ _ _ _ rfl (Cells.new _ _ _) (by simp [Value.oneCell']) (by decide)) (by simp [maxLen]; omega) (by omega) (by have := hb.size; simp; omega) ?_; intro a4 c4 w4 hown4 hap4; have hb4 := Lib.hid ((hb.alloc hb.size _).trans (hap4.below (hown.alloc _) (by have := hb.size; simp; omega))); have HO4 := Lib.hid hown4; clear hown4 hap4 hown hb))
          go_roundw
          case rel => exact ⟨k + 1, a4, _, c4, by omega, by go_num, rfl, by have := HO4.out; rwa [unitsAll_snoc _ _ _ HK.out, HU.out, List.map_append], hb4.out⟩
          case measure => simp [intOf]; omega
        · have HU := Lib.hid (show unitsOf r = [r] by simp [unitsOf, hw, hs])
          have hr0 : 0 ≤ r := by unfold scalarB at hs; simp at hs; omega
          have hr1 : r ≤ 65535 := by unfold scalarB at hs; unfold wideB at hw; simp at hs hw; omega
          go_wp2_with (first
            | (go_at_call 14; refine (split_no r _ hw).mono ?_; rintro e w' ⟨rfl, rfl⟩)
            | (go_at_call 55; refine (scalar_any r _).mono ?_; rw [hs]; rintro e w' ⟨rfl, rfl⟩)
            | (at_builtin; refine wpList_app rfl _ _ 31 31 rfl 22 i0 (.int .u16 0) 1 2 Try.underlying31 hi hz0 hz1 hz2 rfl (by simp [Value.cells, Value.oneCell']) w.heap.size _ _ _ _ rfl (hown.alloc _) _ 1 [.int .u16 r] rfl (Src.ofCells Try.underlying31 _ _ _ _ rfl (Cells.new _ _ _) (by simp [Value.oneCell']) (by decide)) (by simp [maxLen]; omega) (by omega) (by have := hb.size; simp; omega) ?_; intro a4 c4 w4 hown4 hap4; have hb4 := Lib.hid ((hb.alloc hb.size _).trans (hap4.below (hown.alloc _) (by have := hb.size; simp; omega))); have HO4 := Lib.hid hown4; clear hown4 hap4 hown hb))
          go_roundw
          case rel => exact ⟨k + 1, a4, _, c4, by omega, by go_num, rfl, by have := HO4.out; rwa [unitsAll_snoc _ _ _ HK.out, HU.out, List.map_append], hb4.out⟩
          case measure => simp [intOf]; omega
      · have HU := Lib.hid (show unitsOf r = [hiOf r, loOf r] by simp [unitsOf, hw])
        all_goals
          go_wp2_with (first
            | (go_at_call 14; refine (split_yes r _ hw).mono ?_; rintro e w' ⟨rfl, rfl⟩)
            | (at_builtin; refine wpList_app rfl _ _ 31 31 rfl 22 i0 (.int .u16 0) 1 2 Try.underlying31 hi hz0 hz1 hz2 rfl (by simp [Value.cells, Value.oneCell']) w.heap.size _ _ _ _ rfl (hown.alloc _) _ 2 [.int .u16 (hiOf r), .int .u16 (loOf r)] rfl (Src.ofCells Try.underlying31 _ _ _ _ rfl (Cells.new _ _ _) (by simp [Value.oneCell']) (by decide)) (by simp [maxLen]; omega) (by omega) (by have := hb.size; simp; omega) ?_; intro a4 c4 w4 hown4 hap4; have hb4 := Lib.hid ((hb.alloc hb.size _).trans (hap4.below (hown.alloc _) (by have := hb.size; simp; omega))); have HO4 := Lib.hid hown4; clear hown4 hap4 hown hb))
          go_roundw
          case rel => exact ⟨k + 1, a4, _, c4, by omega, by go_num, rfl, by have := HO4.out; rwa [unitsAll_snoc _ _ _ HK.out, HU.out, List.map_append], hb4.out⟩
          case measure => simp [intOf]; omega
    · have HO := Lib.hid hown
      have HB := Lib.hid hb
      clear hown hb
      go_wp2
      go_ret
      exact ⟨a2, n2, c2, rfl, by have := HO.out; rwa [List.take_of_length_le (by omega)] at this, HB.out⟩

set_option maxHeartbeats 2000000 in
theorem rfrom_any (w : World) (a : Option Addr) (c : Nat) (rs : List Int) (hn : rs.length ≤ 17592186044416) (hr : Cells w a (rs.map (Value.int .i32))) :
    Calls Try.prog 22 #[.slice a rs.length c] w fun e w' => ∃ a n c, e = .returned (.slice a n c) ∧ Own w' w.heap.size 1 a n c ((unitsAll rs).map (Value.int .u16)) ∧ Below w.heap.size w w' := by
  obtain ⟨i0, hi, hz0, hz1, hz2⟩ := info_parts info22
  have HR := Lib.hid hr
  clear hr
  go_enter Try.func22, Try.ntmps22
  go_wp2
  go_loopw [3, 4] (fun v i wr => ∃ k a n c, k ≤ rs.length ∧ i = .int .i64 (k : Nat) ∧ v = .slice a n c ∧ Own wr w.heap.size 1 a n c ((unitsAll (rs.take k)).map (Value.int .u16)) ∧ Below w.heap.size w wr) (fun _ i _ => rs.length - (intOf i).toNat)
  case atStart => exact ⟨0, none, 0, 0, Nat.zero_le _, rfl, rfl, Own.nil _ _ _, Below.refl _ _⟩
  case round =>
    obtain ⟨k, a2, n2, c2, hk, rfl, rfl, hown, hb⟩ := hrel
    by_cases hlt : k < rs.length
    · obtain ⟨b, off, r, rfl, hrk, hck⟩ := (HR.out.below hb).at hlt
      have hn2 : n2 + 2 ≤ 140737488355328 ∧ (n2 + 2) * 2 ≤ 140737488355328 := by
        have h1 := hown.len
        have h2 := unitsAll_take_le rs k hk
        rw [List.length_map] at h1
        omega
      obtain ⟨hn2, hn3⟩ := hn2
      have HK := Lib.hid hrk
      clear hrk
      cases hw : wideB r
      · cases hs : scalarB r
        · have HU := Lib.hid (show unitsOf r = [65533] by simp [unitsOf, hw, hs])
          go_wp2_with (first
            | (go_at_call 15; refine (rsplit_no r _ hw).mono ?_; rintro e w' ⟨rfl, rfl⟩)
            | (go_at_call 56; refine (rscalar_any r _).mono ?_; rw [hs]; rintro e w' ⟨rfl, rfl⟩)
            | (at_builtin; refine wpList_app rfl _ _ 31 31 rfl 22 i0 (.int .u16 0) 1 2 Try.underlying31 hi hz0 hz1 hz2 rfl (by simp [Value.cells, Value.oneCell']) w.heap.size _ _ _ _ rfl (hown.alloc _) _ 1 [.int .u16 65533] rfl (Src.ofCells Try.underlying31 _ _ _ _ rfl (Cells.new _ _ _) (by simp [Value.oneCell']) (by decide)) (by simp [maxLen]; omega) (by omega) (by have := hb.size; simp; omega) ?_; intro a4 c4 w4 hown4 hap4; have hb4 := Lib.hid ((hb.alloc hb.size _).trans (hap4.below (hown.alloc _) (by have := hb.size; simp; omega))); have HO4 := Lib.hid hown4; clear hown4 hap4 hown hb))
          go_roundw
          case rel => exact ⟨k + 1, a4, _, c4, by omega, by go_num, rfl, by have := HO4.out; rwa [unitsAll_snoc _ _ _ HK.out, HU.out, List.map_append], hb4.out⟩
          case measure => simp [intOf]; omega
        · have HU := Lib.hid (show unitsOf r = [r] by simp [unitsOf, hw, hs])
          have hr0 : 0 ≤ r := by unfold scalarB at hs; simp at hs; omega
          have hr1 : r ≤ 65535 := by unfold scalarB at hs; unfold wideB at hw; simp at hs hw; omega
          go_wp2_with (first
            | (go_at_call 15; refine (rsplit_no r _ hw).mono ?_; rintro e w' ⟨rfl, rfl⟩)
            | (go_at_call 56; refine (rscalar_any r _).mono ?_; rw [hs]; rintro e w' ⟨rfl, rfl⟩)
            | (at_builtin; refine wpList_app rfl _ _ 31 31 rfl 22 i0 (.int .u16 0) 1 2 Try.underlying31 hi hz0 hz1 hz2 rfl (by simp [Value.cells, Value.oneCell']) w.heap.size _ _ _ _ rfl (hown.alloc _) _ 1 [.int .u16 r] rfl (Src.ofCells Try.underlying31 _ _ _ _ rfl (Cells.new _ _ _) (by simp [Value.oneCell']) (by decide)) (by simp [maxLen]; omega) (by omega) (by have := hb.size; simp; omega) ?_; intro a4 c4 w4 hown4 hap4; have hb4 := Lib.hid ((hb.alloc hb.size _).trans (hap4.below (hown.alloc _) (by have := hb.size; simp; omega))); have HO4 := Lib.hid hown4; clear hown4 hap4 hown hb))
          go_roundw
          case rel => exact ⟨k + 1, a4, _, c4, by omega, by go_num, rfl, by have := HO4.out; rwa [unitsAll_snoc _ _ _ HK.out, HU.out, List.map_append], hb4.out⟩
          case measure => simp [intOf]; omega
      · have HU := Lib.hid (show unitsOf r = [hiOf r, loOf r] by simp [unitsOf, hw])
        all_goals
          go_wp2_with (first
            | (go_at_call 15; refine (rsplit_yes r _ hw).mono ?_; rintro e w' ⟨rfl, rfl⟩)
            | (at_builtin; refine wpList_app rfl _ _ 31 31 rfl 22 i0 (.int .u16 0) 1 2 Try.underlying31 hi hz0 hz1 hz2 rfl (by simp [Value.cells, Value.oneCell']) w.heap.size _ _ _ _ rfl (hown.alloc _) _ 2 [.int .u16 (hiOf r), .int .u16 (loOf r)] rfl (Src.ofCells Try.underlying31 _ _ _ _ rfl (Cells.new _ _ _) (by simp [Value.oneCell']) (by decide)) (by simp [maxLen]; omega) (by omega) (by have := hb.size; simp; omega) ?_; intro a4 c4 w4 hown4 hap4; have hb4 := Lib.hid ((hb.alloc hb.size _).trans (hap4.below (hown.alloc _) (by have := hb.size; simp; omega))); have HO4 := Lib.hid hown4; clear hown4 hap4 hown hb))
          go_roundw
          case rel => exact ⟨k + 1, a4, _, c4, by omega, by go_num, rfl, by have := HO4.out; rwa [unitsAll_snoc _ _ _ HK.out, HU.out, List.map_append], hb4.out⟩
          case measure => simp [intOf]; omega
    · have HO := Lib.hid hown
      have HB := Lib.hid hb
      clear hown hb
      go_wp2
      go_ret
      exact ⟨a2, n2, c2, rfl, by have := HO.out; rwa [List.take_of_length_le (by omega)] at this, HB.out⟩

end Go.Proofs.Ytmdcbpdmkonmlaa
