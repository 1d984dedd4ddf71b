/-
  What stands at a byte of a text: the reference's reading of one character, walked, a leaf for each way through it; and that it is the language's own. Printed by a program of ours (genat.py).
-/
import Derived.Test.YthkehgmeaedflaaDoorCheck
import Derived.Test.YthkehgmeaedflaaDoorNew
import Derived.BigQuiet
import Derived.Deep.QuietTactic
namespace Go.Proofs.YthkehgmeaedflaaDoor
open Go.RowKit

/-- How many bytes a sequence has by its first byte. -/
def longOf (b : Nat) : Nat := if b < 128 then 1 else if b < 192 ∨ 247 < b then 0 else if b < 224 then 2 else if b < 240 then 3 else 4

set_option maxRecDepth 4000 in
set_option maxHeartbeats 400000 in
theorem long_any (b : Nat) (w : World) (hb : b < 256) : Calls Tryd.prog 63 #[.int .u8 b] w fun e w' => e = .returned (.int .i64 (longOf b)) ∧ w = w' := by
  rcases (show b < 128 ∨ (128 ≤ b ∧ b < 192) ∨ (192 ≤ b ∧ b < 224) ∨ (224 ≤ b ∧ b < 240) ∨ (240 ≤ b ∧ b ≤ 247) ∨ 247 < b from by omega) with h | ⟨h, h'⟩ | ⟨h, h'⟩ | ⟨h, h'⟩ | ⟨h, h'⟩ | h
  all_goals
    go_enter Tryd.func63, Tryd.ntmps63
    go_wp2
    go_ret
    refine ⟨ret_int ?_, rfl⟩
    unfold longOf
    repeat' split
    all_goals first | rfl | omega

theorem and_mask (b : Nat) (n : Nat) (hb : b < 256) (M : Int) (hM : (BitVec.ofInt 64 M).toNat = 2 ^ n - 1) : bits BinOp.and IntKind.i64 (b : Int) M = ((b % 2 ^ n : Nat) : Int) := by
  show IntKind.i64.wrap ((BitVec.ofInt 64 (b : Int) &&& BitVec.ofInt 64 M).toNat : Int) = _
  have e1 : (BitVec.ofInt 64 (b : Int)).toNat = b := by simp only [BitVec.toNat_ofInt]; omega
  rw [BitVec.toNat_and, e1, hM, Nat.and_two_pow_sub_one_eq_mod]
  have hy := Nat.mod_le b (2 ^ n)
  generalize b % 2 ^ n = y at *
  simp [IntKind.wrap, IntKind.signed, IntKind.bits]
  omega

theorem longOf_0 {b : Nat} (h : 128 ≤ b) (h2 : b < 192 ∨ 247 < b) : longOf b = 0 := by unfold longOf; rw [if_neg (by omega), if_pos h2]
theorem longOf_1 {b : Nat} (h : b < 128) : longOf b = 1 := by unfold longOf; rw [if_pos h]
theorem longOf_2 {b : Nat} (h : 192 ≤ b) (h2 : b < 224) : longOf b = 2 := by unfold longOf; rw [if_neg (by omega), if_neg (by omega), if_pos h2]
theorem longOf_3 {b : Nat} (h : 224 ≤ b) (h2 : b < 240) : longOf b = 3 := by unfold longOf; rw [if_neg (by omega), if_neg (by omega), if_neg (by omega), if_pos h2]
theorem longOf_4 {b : Nat} (h : 240 ≤ b) (h2 : b ≤ 247) : longOf b = 4 := by unfold longOf; rw [if_neg (by omega), if_neg (by omega), if_neg (by omega), if_neg (by omega)]

section
variable (w : World) (Z B C D : Obj) (nq : Nat) (a b c d v x y z u : Value)

theorem at_base (hZ : Z = .cells #[a, b, c, d] 41 (0, 0)) : ((((w.alloc Z).alloc B).alloc C).drewN nq).heap[w.heap.size]? = some (.cells #[a, b, c, d] 41 (0, 0)) := by
  rw [World.heap_drewN]
  refine (Below.heap_alloc _ _ _ ?_).trans ((Below.heap_alloc _ _ _ ?_).trans ?_)
  · simp; omega
  · simp
  · rw [hZ]; exact World.alloc_heap_new _ _

theorem at_baseB : Below w.heap.size w ((((w.alloc Z).alloc B).alloc C).drewN nq) := by
  refine below_drewN ?_ _
  refine Below.alloc ?_ ?_ _
  · refine Below.alloc ?_ ?_ _
    · exact (Below.refl _ _).alloc (Nat.le_refl _) _
    · simp
  · simp; omega

/-- The struct's four cells written. -/
def put4 (W : World) (g : Nat) : World := (((W.setCell ⟨g, 0, none⟩ x).setCell ⟨g, 1, none⟩ y).setCell ⟨g, 2, none⟩ z).setCell ⟨g, 3, none⟩ u

theorem below_put4 (W : World) (g : Nat) (hB : Below w.heap.size w W) (hg : w.heap.size ≤ g) : Below w.heap.size w (put4 x y z u W g) := by
  unfold put4
  exact (((hB.setCell (p := ⟨g, 0, none⟩) hg _).setCell (p := ⟨g, 1, none⟩) hg _).setCell (p := ⟨g, 2, none⟩) hg _).setCell (p := ⟨g, 3, none⟩) hg _

theorem fin_lead (hA : Z = .cells #[x, y, z, u] 41 (0, 0)) : ((w.alloc Z).alloc B).heap[w.heap.size]? = some (.cells #[x, y, z, u] 41 (0, 0)) ∧ Below w.heap.size w ((w.alloc Z).alloc B) := by
  refine ⟨(Below.heap_alloc _ _ _ ?_).trans ?_, ?_⟩
  · simp
  · rw [hA]; exact World.alloc_heap_new _ _
  · refine Below.alloc ?_ ?_ _
    · exact (Below.refl _ _).alloc (Nat.le_refl _) _
    · simp

theorem fin_tail (hZ : Z = .cells #[a, b, c, d] 41 (0, 0)) : (put4 x y z u (((((w.alloc Z).alloc B).alloc C).drewN nq).setCell ⟨w.heap.size + 1, 3, none⟩ v) w.heap.size).heap[w.heap.size]? = some (.cells #[x, y, z, u] 41 (0, 0)) ∧ Below w.heap.size w (put4 x y z u (((((w.alloc Z).alloc B).alloc C).drewN nq).setCell ⟨w.heap.size + 1, 3, none⟩ v) w.heap.size) := by
  refine ⟨heap_set4 ((Below.heap_setCell _ _ _ _ ?_).trans (at_base w Z B C nq a b c d hZ)), ?_⟩
  · simp
  · refine below_put4 _ _ _ _ _ _ _ ?_ (Nat.le_refl _)
    exact (at_baseB w Z B C nq).setCell (p := ⟨w.heap.size + 1, 3, none⟩) (by simp) _

theorem fin_over (hZ : Z = .cells #[a, b, c, d] 41 (0, 0)) : ((put4 x y z u (((((w.alloc Z).alloc B).alloc C).drewN nq).setCell ⟨w.heap.size + 1, 3, none⟩ v) w.heap.size).alloc D).heap[w.heap.size]? = some (.cells #[x, y, z, u] 41 (0, 0)) ∧ Below w.heap.size w ((put4 x y z u (((((w.alloc Z).alloc B).alloc C).drewN nq).setCell ⟨w.heap.size + 1, 3, none⟩ v) w.heap.size).alloc D) := by
  obtain ⟨h1, h2⟩ := fin_tail w Z B C nq a b c d v x y z u hZ
  exact ⟨(Below.heap_alloc _ _ _ (Array.getElem?_eq_some_iff.1 h1).1).trans h1, h2.alloc h2.size _⟩

theorem fin_good (hZ : Z = .cells #[a, b, c, d] 41 (0, 0)) : ((put4 x y z u ((((w.alloc Z).alloc B).alloc C).drewN nq) w.heap.size).alloc D).heap[w.heap.size]? = some (.cells #[x, y, z, u] 41 (0, 0)) ∧ Below w.heap.size w ((put4 x y z u ((((w.alloc Z).alloc B).alloc C).drewN nq) w.heap.size).alloc D) := by
  have h1 := heap_set4 (x := x) (y := y) (z := z) (u := u) (at_base w Z B C nq a b c d hZ)
  have h2 := below_put4 w x y z u _ _ (at_baseB w Z B C nq) (Nat.le_refl _)
  exact ⟨(Below.heap_alloc _ _ _ (Array.getElem?_eq_some_iff.1 h1).1).trans h1, h2.alloc h2.size _⟩

end

theorem spot_ret (w W : World) (a : Act) (i wd r c : Nat) (x y z u : Value) (hf : W.heap[w.heap.size]? = some (.cells #[x, y, z, u] 41 (0, 0)) ∧ Below w.heap.size w W) (hp : a.tmps.getD 4 undef = .pointer (some ⟨w.heap.size, 0, none⟩)) (hd : a.defers = []) (hcs : #[x, y, z, u] = spotV i wd r c) :
    bodyPost Tryd.prog Tryd.f39 (fun e w' => e = .returned (.agg (spotV i wd r c)) ∧ Below w.heap.size w w') .ret a W := by
  obtain ⟨hg, hb⟩ := hf
  rw [hcs] at hg
  exact bodyPost_ret (results_cell_row (P := Tryd.prog) rfl a.tmps W w.heap.size 41 (spotV i wd r c) (0, 0) _ hp hg Tryd.underlying41 rfl (by kernel_rfl)) hd ⟨rfl, hb⟩

end Go.Proofs.YthkehgmeaedflaaDoor
