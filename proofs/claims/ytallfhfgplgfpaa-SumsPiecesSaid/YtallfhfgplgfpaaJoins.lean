/-
  Sums joined: the program's and the reference's, walked; both come to 8 n steps.
-/
import Derived.Test.YtallfhfgplgfpaaMats
import Derived.Laws.Tables
namespace Go.Proofs.Ytallfhfgplgfpaa
open Go.RowKit

/-- What is answered. -/
def joinOf (a b : BitVec 32) (n : Nat) : BitVec 32 := Crc.stps (8 * n) a ^^^ b

/-- A matrix of which k rows are laid. -/
def fill (N k : Nat) : List Value := (mat N).take k ++ List.replicate (32 - k) (u32V 0#32)
/-- And of which the next one holds x. -/
def fillX (N k : Nat) (x : BitVec 32) : List Value := (mat N).take k ++ u32V x :: List.replicate (31 - k) (u32V 0#32)

theorem fill_zero (N : Nat) : fill N 0 = List.replicate 32 (u32V 0#32) := by simp [fill]
theorem fill_end (N : Nat) : fill N 32 = mat N := by simp [fill, List.take_of_length_le, mat_length]
theorem fill_length (N k : Nat) (h : k ≤ 32) : (fill N k).length = 32 := by simp [fill, mat_length]; omega
theorem fillX_length (N k : Nat) (x : BitVec 32) (h : k < 32) : (fillX N k x).length = 32 := by simp [fillX, mat_length]; omega
theorem fill_set (N k : Nat) (x : BitVec 32) (h : k < 32) : (fill N k).set k (u32V x) = fillX N k x := by
  unfold fill fillX
  rw [List.set_append, if_neg (by simp [mat_length]; omega), List.length_take, mat_length, show 32 - k = (31 - k) + 1 from by omega, List.replicate_succ, show k - min k 32 = 0 from by omega, List.set_cons_zero]
theorem fillX_set (N k : Nat) (x y : BitVec 32) (h : k < 32) : (fillX N k x).set k (u32V y) = fillX N k y := by
  unfold fillX
  rw [List.set_append, if_neg (by simp [mat_length]; omega), List.length_take, mat_length, show k - min k 32 = 0 from by omega, List.set_cons_zero]
theorem fillX_at (N k : Nat) (x : BitVec 32) (h : k < 32) : (fillX N k x)[k]? = some (u32V x) := by
  unfold fillX
  rw [List.getElem?_append_right (by simp [mat_length]; omega), List.length_take, mat_length, show k - min k 32 = 0 from by omega]
  rfl
theorem fillX_next (N k : Nat) (h : k < 32) : fillX N k (Crc.stps N (BitVec.twoPow 32 k)) = fill N (k + 1) := by
  unfold fill fillX
  rw [List.take_succ_eq_append_getElem (by rw [mat_length]; exact h), List.append_assoc, show 32 - (k + 1) = 31 - k from by omega]
  congr 1
  rw [List.singleton_append]
  congr 1
  have := mat_at N k h
  rw [List.getElem?_eq_getElem (by rw [mat_length]; exact h)] at this
  simpa using this.symm

theorem fill_set_next (N k : Nat) (h : k < 32) : (fill N k).set k (u32V (Crc.stps N (BitVec.twoPow 32 k))) = fill N (k + 1) := by
  rw [fill_set N k _ h, fillX_next N k h]

theorem two_walk (k : Nat) (h : k < 32) : (2 : Int) ^ k % 4294967296 = ((BitVec.twoPow 32 k).toNat : Int) := by
  rw [BitVec.toNat_twoPow]
  simp

/-- How the steps stand when some of n is seen. -/
theorem join_odd (E n : Nat) (a : BitVec 32) (h : n % 2 = 1) : Crc.stps ((E + E) * (n / 2)) (Crc.stps E a) = Crc.stps (E * n) a := by
  rw [← Crc.stps_add]
  congr 1
  have : n = 2 * (n / 2) + 1 := by omega
  generalize n / 2 = z at *
  subst this
  rw [Nat.mul_add, Nat.mul_one, ← Nat.mul_assoc, Nat.mul_two]
  omega
theorem join_even (E n : Nat) (a : BitVec 32) (h : n % 2 = 0) : Crc.stps ((E + E) * (n / 2)) a = Crc.stps (E * n) a := by
  congr 1
  have : n = 2 * (n / 2) := by omega
  generalize n / 2 = z at *
  subst this
  rw [← Nat.mul_assoc, Nat.mul_two]

theorem and1_i64 (n : Nat) (h : n ≤ 9223372036854775807) : bits BinOp.and IntKind.i64 (n : Int) 1 = ((n % 2 : Nat) : Int) := by
  show IntKind.i64.wrap ((BitVec.ofInt 64 (n : Int) &&& BitVec.ofInt 64 1).toNat : Int) = _
  have e1 : (BitVec.ofInt 64 (n : Int)).toNat = n := by simp only [BitVec.toNat_ofInt]; omega
  have e2 : (BitVec.ofInt 64 1).toNat = 1 := by decide
  rw [BitVec.toNat_and, e1, e2, Nat.and_one_is_mod]
  rcases (show n % 2 = 0 ∨ n % 2 = 1 from by omega) with e | e <;> rw [e] <;> decide

theorem below_setRow {B : Nat} {a w : World} (h : Below B a w) (g : Nat) (cs : Array Value) (hg : B ≤ g) : Below B a (w.setRow g cs) :=
  ⟨h.os, h.tape, h.output, by rw [setRow_size]; exact h.size, fun k hk => by rw [setRow_other _ _ _ _ (by omega)]; exact h.block k hk⟩

theorem cells_one (N : Nat) : ∀ v ∈ mat N, v.oneCell' = true := by
  intro v hv
  obtain ⟨_, _, rfl⟩ := List.mem_map.1 hv
  rfl

theorem wpList_store_row {P : Program} {ops : Array Oper} {rest : List Oper} {o : Oper} {a : Act} {w : World} {Q : Exit → Act → World → Prop} (hgd : o.guard = none) (ty : TypeId) (x y : Operand) (ho : o.op = .store ty x y)
    (g : Nat) (cells : Array Value) (hx : a.eval x = .pointer (some ⟨g, 0, none⟩)) (hy : a.eval y = .agg cells)
    (t : TypeId) (old : Array Value) (hg : w.heap[g]? = some (.cells old t (0, 0))) (hi : (P.info? ty).map (·.size) = some cells.size)
    (hold : old.size = cells.size) (h1 : cells.all (·.oneCell') = true)
    (h : wpList P ops Q rest (a.put o.dst undef) (w.setRow g cells)) : wpList P ops Q (o :: rest) a w :=
  wpList_plain hgd fun _ hK => wp_store_row ty x y ho g cells hx hy t old hg hi hold h1 (hK _ _ h)

theorem all_mat (N : Nat) : (mat N).toArray.all (·.oneCell') = true :=
  Array.all_eq_true_iff_forall_mem.2 (fun v hv => cells_one N v (by simpa using hv))

theorem info92 (N : Nat) : (Try.prog.info? 92).map (·.size) = some (mat N).toArray.size := by
  rw [List.size_toArray, mat_length]
  kernel_rfl
theorem info91 (N : Nat) : (Try.prog.info? 91).map (·.size) = some (mat N).toArray.size := by
  rw [List.size_toArray, mat_length]
  kernel_rfl
theorem same_size (M N : Nat) : (mat M).toArray.size = (mat N).toArray.size := by
  rw [List.size_toArray, mat_length, List.size_toArray, mat_length]

set_option maxRecDepth 20000 in
set_option maxHeartbeats 2000000 in
theorem join_any (a b : BitVec 32) (n : Nat) (w : World) (hn : n ≤ 9223372036854775807) :
    Calls Try.prog 43 #[.int .u32 a.toNat, .int .u32 b.toNat, .int .i64 n] w fun e w' => e = .returned (.tuple #[.int .u32 (joinOf a b n).toNat, .int .i64 0]) ∧ Below w.heap.size w w' := by
  go_enter Try.func43, Try.ntmps43
  go_wp2
  go_loopw [14] (fun i wx => ∃ k : Nat, k ≤ 32 ∧ i = .int .i64 k ∧ w.alloc (.cells (fill 8 k).toArray 92) = wx) (fun i _ => 32 - (intOf i).toNat)
  case atStart => exact ⟨0, by omega, rfl, rfl⟩
  case round =>
    obtain ⟨k, hk, rfl, rfl⟩ := hrel
    by_cases hlt : k < 32
    · have hl := fill_length 8 k hk
      have h0 : (0 : Int) ≤ (k : Int) := by omega
      have h1 : (k : Int) < 32 := by omega
      have hf : (w.alloc (.cells (fill 8 k).toArray 92)).frozen? ⟨w.heap.size, k, none⟩ = false := frozen_of_row _ _ k _ 92 (heap_alloc_last w _)
      have hc : ((w.alloc (.cells (fill 8 k).toArray 92)).cell? ⟨w.heap.size, k, none⟩).isSome = true := by
        rw [cell_of_row _ _ k _ 92 (0, 0) (heap_alloc_last w _), List.getElem?_toArray, List.getElem?_eq_getElem (by omega)]
        rfl
      obtain ⟨u, hu⟩ := Option.isSome_iff_exists.1 hc
      have HL := Lib.hid hl
      clear hl hc
      go_wp2
      go_loopw [21] (fun i wx => ∃ j : Nat, j ≤ 8 ∧ i = .int .i64 j ∧ w.alloc (.cells (fillX 8 k (Crc.stps j (BitVec.twoPow 32 k))).toArray 92) = wx) (fun i _ => 8 - (intOf i).toNat)
      case atStart => exact ⟨0, by omega, rfl, by rw [two_walk k hlt]; rw [show Value.int IntKind.u32 ((BitVec.twoPow 32 k).toNat : Int) = u32V (BitVec.twoPow 32 k) from rfl, fill_set 8 k _ hlt]; rfl⟩
      case round =>
        obtain ⟨j, hj, rfl, rfl⟩ := hrel
        by_cases hlj : j < 8
        · clear hf hu
          obtain ⟨x, hx⟩ : ∃ x, x = Crc.stps j (BitVec.twoPow 32 k) := ⟨_, rfl⟩
          rw [← hx]
          have HX := Lib.hid hx
          clear hx
          have hf : (w.alloc (.cells (fillX 8 k x).toArray 92)).frozen? ⟨w.heap.size, k, none⟩ = false := frozen_of_row _ _ k _ 92 (heap_alloc_last w _)
          have hc : ((w.alloc (.cells (fillX 8 k x).toArray 92)).cell? ⟨w.heap.size, k, none⟩) = some (.int .u32 x.toNat) := by
            rw [cell_of_row _ _ k _ 92 (0, 0) (heap_alloc_last w _), List.getElem?_toArray, fillX_at 8 k x hlt]
            rfl
          go_wp2_with (go_at_call 45; refine (step_any x _).mono ?_; rintro e w' ⟨rfl, rfl⟩)
          go_roundw
          case rel =>
            refine ⟨j + 1, by omega, by go_num, ?_⟩
            rw [show Value.int IntKind.u32 ((Crc.stp x).toNat : Int) = u32V (Crc.stp x) from rfl, fillX_set 8 k _ _ hlt, HX.out, Crc.stps_succ]
          case measure => simp [intOf]; omega
        · obtain rfl : j = 8 := by omega
          clear hf hu
          go_wp2
          go_roundw
          case rel => exact ⟨k + 1, by omega, by go_num, by rw [fillX_next 8 k hlt]⟩
          case measure => simp [intOf]; omega
    · obtain rfl : k = 32 := by omega
      rw [fill_end, show (((32 : Nat) : Int)) = 32 from rfl]
      have hg0 : (w.alloc (.cells (mat 8).toArray 92)).heap[w.heap.size]? = some (.cells (mat 8).toArray 92) := heap_alloc_last w _
      have hb0 : Below w.heap.size w (w.alloc (.cells (mat 8).toArray 92)) := (Below.refl _ _).alloc (Nat.le_refl _) _
      have hlt0 : w.heap.size < (w.alloc (.cells (mat 8).toArray 92)).heap.size := by simp
      obtain ⟨g, hg⟩ : ∃ g, g = w.heap.size := ⟨_, rfl⟩
      rw [← hg] at hg0 hb0 hlt0 ⊢
      generalize w.alloc (.cells (mat 8).toArray 92) = w0 at *
      have HG := Lib.hid hg
      have HG0 := Lib.hid hg0
      have HB0 := Lib.hid hb0
      clear hg hg0 hb0
      go_wp2
      go_loopw [0, 2] (fun x m wx => ∃ (E nn : Nat) (y : BitVec 32), nn ≤ 9223372036854775807 ∧ x = .int .u32 y.toNat ∧ m = .int .i64 nn ∧ Crc.stps (E * nn) y = Crc.stps (8 * n) a ∧ wx.heap[g]? = some (.cells (mat E).toArray 92) ∧ Below g w wx ∧ g < wx.heap.size) (fun _ m _ => (intOf m).toNat)
      case atStart => exact ⟨8, n, a, by omega, rfl, rfl, rfl, HG0.out, HB0.out, hlt0⟩
      case round =>
        obtain ⟨E, nn, y, hnn, rfl, rfl, hst, hrow, hbel, hgs⟩ := hrel
        have HST := Lib.hid hst
        have HROW := Lib.hid hrow
        have HBEL := Lib.hid hbel
        clear hst hrow hbel
        by_cases hz : nn = 0
        · subst hz
          go_wp2
          go_ret2
          have e := HST.out
          rw [Nat.mul_zero] at e
          refine ⟨?_, by rw [← HG.out]; exact HBEL.out⟩
          rw [xor_walk]
          unfold joinOf
          rw [← e]
          rfl
        · have hz2 : (0 : Int) < (nn : Int) := by omega
          have hz3 : nn / 2 < nn := by omega
          have hz4 : decide (0 < nn) = true := by simp; omega
          clear hz
          obtain ⟨y2, hy2⟩ : ∃ y2, y2 = if nn % 2 = 1 then Crc.stps E y else y := ⟨_, rfl⟩
          have hst2 : Hid (Crc.stps ((E + E) * (nn / 2)) y2 = Crc.stps (8 * n) a) := by
            show _ = _
            rw [hy2]
            split
            · rename_i ho; rw [join_odd E nn y ho, HST.out]
            · rename_i ho; rw [join_even E nn y (by omega), HST.out]
          have HROWG : ∀ k, k ≤ 32 → (wr.alloc (.cells (fill (E + E) k).toArray 92)).heap[g]? = some (.cells (mat E).toArray 92) := fun k _ => by
            rw [Below.heap_alloc _ _ _ hgs]; exact HROW.out
          have HR2 := Lib.hid HROWG
          clear HROWG
          have HGS := Lib.hid hgs
          have hrow := HROW.out
          by_cases hodd : nn % 2 = 1
          · rw [if_pos hodd] at hy2
            have HY2 := Lib.hid hy2
            have ht : (bits BinOp.and IntKind.i64 (nn : Int) 1 != 0) = true := by rw [and1_i64 nn hnn, hodd]; rfl
            clear hy2 hodd
            go_wp2_with (go_at_call 62; refine (of_any g E _ _ (by assumption)).mono ?_; rintro e w' ⟨rfl, rfl⟩)
            rw [← HY2.out]
            clear hrow ht
            go_loopw [40] (fun i wx => ∃ k : Nat, k ≤ 32 ∧ i = .int .i64 k ∧ wr.alloc (.cells (fill (E + E) k).toArray 92) = wx) (fun i _ => 32 - (intOf i).toNat)
            case atStart => exact ⟨0, by omega, rfl, rfl⟩
            case round =>
              obtain ⟨k, hk, rfl, rfl⟩ := hrel
              by_cases hlt : k < 32
              · have hrow := HR2.out k hk
                have h1 : (k : Int) < 32 := by omega
                have hl := fill_length (E + E) k hk
                have hf : (wr.alloc (.cells (fill (E + E) k).toArray 92)).frozen? ⟨wr.heap.size, k, none⟩ = false := frozen_of_row _ _ k _ 92 (heap_alloc_last wr _)
                have hc : ((wr.alloc (.cells (fill (E + E) k).toArray 92)).cell? ⟨wr.heap.size, k, none⟩).isSome = true := by
                  rw [cell_of_row _ _ k _ 92 (0, 0) (heap_alloc_last wr _), List.getElem?_toArray, List.getElem?_eq_getElem (by omega)]
                  rfl
                obtain ⟨u, hu⟩ := Option.isSome_iff_exists.1 hc
                have hcm := mat_cell hrow hlt
                have HL := Lib.hid hl
                clear hl hc
                go_wp2_with (go_at_call 62; refine (of_any g E _ _ hrow).mono ?_; rintro e w' ⟨rfl, rfl⟩)
                go_roundw
                case rel =>
                  refine ⟨k + 1, by omega, by go_num, ?_⟩
                  rw [← Crc.stps_add, show Value.int IntKind.u32 ((Crc.stps (E + E) (BitVec.twoPow 32 k)).toNat : Int) = u32V (Crc.stps (E + E) (BitVec.twoPow 32 k)) from rfl, fill_set_next (E + E) k hlt]
                case measure => simp [intOf]; omega
              · obtain rfl : k = 32 := by omega
                have hrow := HR2.out 32 hk
                rw [fill_end] at hrow ⊢
                have hst3 := setRow_heap _ g _ (mat (E + E)).toArray 92 (0, 0) hrow
                have HST3 := Lib.hid hst3
                clear hst3
                have HRW := Lib.hid hrow
                clear hrow
                go_wp2_with (first
                  | (with_reducible refine wpList_load_row rfl 92 _ rfl wr.heap.size rfl 92 (mat (E + E)).toArray (0, 0) _ (heap_alloc_last wr _) Try.underlying92 rfl (info92 _) ?_)
                  | (with_reducible refine wpList_store_row rfl 92 _ _ rfl g (mat (E + E)).toArray rfl rfl 92 _ HRW.out (info92 _) (same_size _ _) (all_mat _) ?_))
                go_roundw
                case rel => exact ⟨E + E, nn / 2, y2, by omega, rfl, by go_num, hst2.out, HST3.out, below_setRow (HBEL.out.alloc (by omega) _) _ _ (Nat.le_refl _), by simp [setRow_size]; omega⟩
                case measure => simp [intOf]; omega
          · rw [if_neg hodd] at hy2
            have ht : (bits BinOp.and IntKind.i64 (nn : Int) 1 != 0) = false := by rw [and1_i64 nn hnn, show nn % 2 = 0 from by omega]; rfl
            obtain rfl := hy2
            clear hodd
            go_wp2
            clear hrow ht
            go_loopw [40] (fun i wx => ∃ k : Nat, k ≤ 32 ∧ i = .int .i64 k ∧ wr.alloc (.cells (fill (E + E) k).toArray 92) = wx) (fun i _ => 32 - (intOf i).toNat)
            case atStart => exact ⟨0, by omega, rfl, rfl⟩
            case round =>
              obtain ⟨k, hk, rfl, rfl⟩ := hrel
              by_cases hlt : k < 32
              · have hrow := HR2.out k hk
                have h1 : (k : Int) < 32 := by omega
                have hl := fill_length (E + E) k hk
                have hf : (wr.alloc (.cells (fill (E + E) k).toArray 92)).frozen? ⟨wr.heap.size, k, none⟩ = false := frozen_of_row _ _ k _ 92 (heap_alloc_last wr _)
                have hc : ((wr.alloc (.cells (fill (E + E) k).toArray 92)).cell? ⟨wr.heap.size, k, none⟩).isSome = true := by
                  rw [cell_of_row _ _ k _ 92 (0, 0) (heap_alloc_last wr _), List.getElem?_toArray, List.getElem?_eq_getElem (by omega)]
                  rfl
                obtain ⟨u, hu⟩ := Option.isSome_iff_exists.1 hc
                have hcm := mat_cell hrow hlt
                have HL := Lib.hid hl
                clear hl hc
                go_wp2_with (go_at_call 62; refine (of_any g E _ _ hrow).mono ?_; rintro e w' ⟨rfl, rfl⟩)
                go_roundw
                case rel =>
                  refine ⟨k + 1, by omega, by go_num, ?_⟩
                  rw [← Crc.stps_add, show Value.int IntKind.u32 ((Crc.stps (E + E) (BitVec.twoPow 32 k)).toNat : Int) = u32V (Crc.stps (E + E) (BitVec.twoPow 32 k)) from rfl, fill_set_next (E + E) k hlt]
                case measure => simp [intOf]; omega
              · obtain rfl : k = 32 := by omega
                have hrow := HR2.out 32 hk
                rw [fill_end] at hrow ⊢
                have hst3 := setRow_heap _ g _ (mat (E + E)).toArray 92 (0, 0) hrow
                have HST3 := Lib.hid hst3
                clear hst3
                have HRW := Lib.hid hrow
                clear hrow
                go_wp2_with (first
                  | (with_reducible refine wpList_load_row rfl 92 _ rfl wr.heap.size rfl 92 (mat (E + E)).toArray (0, 0) _ (heap_alloc_last wr _) Try.underlying92 rfl (info92 _) ?_)
                  | (with_reducible refine wpList_store_row rfl 92 _ _ rfl g (mat (E + E)).toArray rfl rfl 92 _ HRW.out (info92 _) (same_size _ _) (all_mat _) ?_))
                go_roundw
                case rel => exact ⟨E + E, nn / 2, y2, by omega, rfl, by go_num, hst2.out, HST3.out, below_setRow (HBEL.out.alloc (by omega) _) _ _ (Nat.le_refl _), by simp [setRow_size]; omega⟩
                case measure => simp [intOf]; omega

end Go.Proofs.Ytallfhfgplgfpaa
