/-
  Put: numbers laid behind bytes, at each of the six number types: the walk of the program's function. Printed by a program of ours (gen.py), but for the lemmas at its head.
-/
import Derived.Test.YtallfhfgplgfpaaCrcs
namespace Go.Proofs.Ytallfhfgplgfpaa
open Go.RowKit
attribute [local go_sem] u32_signed u32_max

theorem info5 : (Try.prog.info? 5).map (fun i => (i.zero, i.size, i.bytes)) = some (some (.int .u8 0), 1, 1) := by kernel_rfl

theorem u16_signed : IntKind.u16.signed = false := rfl
theorem u16_max : IntKind.u16.max = 65535 := rfl
theorem u8_signed : IntKind.u8.signed = false := rfl
theorem u8_max : IntKind.u8.max = 255 := rfl
theorem not0_u32 : bits BinOp.xor IntKind.u32 4294967295 0 = 4294967295 := by decide
theorem not0_u16 : bits BinOp.xor IntKind.u16 65535 0 = 65535 := by decide
theorem not0_u8 : bits BinOp.xor IntKind.u8 255 0 = 255 := by decide
attribute [local go_sem] not0_u32 not0_u16 not0_u8 u16_signed u16_max u8_signed u8_max

/-- The bytes of a number, the lowest first. -/
def numBytes (n x : Nat) : List UInt8 := (List.range n).map fun i => UInt8.ofNat (x / 256 ^ i)
theorem numBytes_succ (n x : Nat) : numBytes (n + 1) x = numBytes n x ++ [UInt8.ofNat (x / 256 ^ n)] := by simp [numBytes, List.range_succ]
theorem numBytes_length (n x : Nat) : (numBytes n x).length = n := by simp [numBytes]

/-- Numbers laid behind bytes. -/
def laidAt (n : Nat) (bs : List UInt8) (xs : List Nat) : List UInt8 := bs ++ xs.flatMap (numBytes n)
theorem laidAt_length (n : Nat) (bs : List UInt8) (xs : List Nat) : (laidAt n bs xs).length = bs.length + n * xs.length := by
  induction xs generalizing bs with
  | nil => simp [laidAt]
  | cons x xs ih =>
    have := ih bs
    simp only [laidAt, List.flatMap_cons, List.length_append, numBytes_length, List.length_cons, Nat.mul_succ] at this ⊢
    omega
theorem laidAt_snoc (n : Nat) (bs : List UInt8) (xs : List Nat) (k x : Nat) (h : xs[k]? = some x) : laidAt n bs (xs.take k) ++ numBytes n x = laidAt n bs (xs.take (k + 1)) := by
  rw [List.take_add_one, h]
  simp [laidAt]

/-- A number's value. -/
def numV (k : IntKind) (x : Nat) : Value := .int k x
theorem numV_one (k : IntKind) (l : List Nat) : ∀ u ∈ l.map (numV k), u.oneCell' = true := by
  intro u hu
  obtain ⟨_, _, rfl⟩ := List.mem_map.1 hu
  rfl

theorem byte_cell (x : Nat) (j : Nat) : [Value.int .u8 ((x : Int) / 256 ^ j % 256)] = [UInt8.ofNat (x / 256 ^ j)].map byteV := by
  simp [byteV]
theorem next_u (x j : Nat) : (x : Int) / 256 ^ j / 16 / 16 = ((x / 256 ^ (j + 1) : Nat) : Int) := by
  have e : (x : Int) / 256 ^ j = ((x / 256 ^ j : Nat) : Int) := by simp
  rw [e, Nat.pow_succ, ← Nat.div_div_eq_div_mul]
  omega
theorem laidIn_length (n : Nat) (bs : List UInt8) (xs : List Nat) (k j x : Nat) (hk : k ≤ xs.length) : ((laidAt n bs (xs.take k) ++ numBytes j x).map byteV).length = bs.length + n * k + j := by
  rw [List.length_map, List.length_append, laidAt_length, numBytes_length, List.length_take, Nat.min_eq_left hk]
theorem laidIn_snoc (l : List UInt8) (j x : Nat) : (l ++ numBytes j x).map byteV ++ [Value.int .u8 ((x : Int) / 256 ^ j % 256)] = (l ++ numBytes (j + 1) x).map byteV := by
  rw [byte_cell, numBytes_succ, ← List.append_assoc, List.map_append (l₁ := l ++ numBytes j x)]
theorem laidIn_snoc1 (l : List UInt8) (j x : Nat) (hx : x < 256) : (l ++ numBytes j x).map byteV ++ [Value.int .u8 ((x : Int) / 256 ^ j)] = (l ++ numBytes (j + 1) x).map byteV := by
  rw [← laidIn_snoc]
  have : (x : Int) / 256 ^ j % 256 = (x : Int) / 256 ^ j := by
    have e : (x : Int) / 256 ^ j = ((x / 256 ^ j : Nat) : Int) := by simp
    have := Nat.div_le_self x (256 ^ j)
    rw [e]
    generalize x / 256 ^ j = y at *
    omega
  rw [this]

set_option maxHeartbeats 400000 in
theorem width_u8 (w : World) : Calls Try.prog 64 #[] w fun e w' => e = .returned (.int .i64 1) ∧ w = w' := by
  go_enter Try.func64, Try.ntmps64
  go_wp2
  refine wp_loop_rounds 2 ?_
  repeat any_goals (rw [rounds_succ]; go_wp2)
  all_goals go_ret
  exact ⟨rfl, rfl⟩

set_option maxHeartbeats 1000000 in
theorem put_u8 (ab : Option Addr) (cb : Nat) (bs : List UInt8) (al : Option Addr) (cl : Nat) (xs : List Nat) (w : World) (hcb : Cells w ab (bs.map byteV)) (hcl : Cells w al (xs.map (numV .u8)))
    (hx : ∀ x ∈ xs, x < 256) (hn : bs.length + 1 * xs.length ≤ 140737488355328) :
    Calls Try.prog 47 #[.slice ab bs.length cb, .slice al xs.length cl] w fun e w' => ∃ a n c, e = .returned (.slice a n c) ∧ Own w' w.heap.size 1 a n c ((laidAt 1 bs xs).map byteV) ∧ Below w.heap.size w w' := by
  obtain ⟨i0, hi, hz0, hz1, hz2⟩ := info_parts info5
  have HCL := Lib.hid hcl
  have HXS := Lib.hid hx
  clear hcl hx
  go_enter Try.func47, Try.ntmps47
  go_wp2_with (first
    | (at_builtin; refine wpList_app rfl _ _ 50 50 rfl 5 i0 (.int .u8 0) 1 1 Try.underlying50 hi hz0 hz1 hz2 rfl (by simp [Value.cells, Value.oneCell']) w.heap.size _ _ _ _ rfl (Own.nil _ _ _) _ _ _ rfl (Src.ofCells Try.underlying50 _ _ _ _ (by simp) hcb (byteV_one _) (by decide)) (by simp [maxLen]; omega) (by omega) (Nat.le_refl _) ?_; intro a1 c1 w1 hown1 hap1)
    | (go_at_call 64; refine (width_u8 _).mono ?_; rintro e w' ⟨rfl, rfl⟩))
  have hb1 := hap1.below (Own.nil w w.heap.size 1) (Nat.le_refl _)
  have HO1 := Lib.hid hown1
  clear hown1 hap1 hcb
  go_loopw [5, 14] (fun v i wr => ∃ k a n c, k ≤ xs.length ∧ i = .int .i64 (k : Nat) ∧ v = .slice a n c ∧ Own wr w.heap.size 1 a n c ((laidAt 1 bs (xs.take k)).map byteV) ∧ Below w.heap.size w wr) (fun _ i _ => xs.length - (intOf i).toNat)
  case atStart => exact ⟨0, _, _, _, Nat.zero_le _, rfl, rfl, by simpa [laidAt] using HO1.out, hb1⟩
  case round =>
    obtain ⟨k, a2, n2, c2, hk, rfl, rfl, hown2, hb2⟩ := hrel
    by_cases hlt : k < xs.length
    · obtain ⟨b, off, x, rfl, hxk, hck⟩ := (HCL.out.below hb2).at hlt
      have hxt : x < 256 := HXS.out x (List.mem_of_getElem? hxk)
      have HX := Lib.hid hxk
      have HO2 := Lib.hid hown2
      have HB2 := Lib.hid hb2
      clear hxk hown2 hb2
      unfold numV at hck
      go_wp2
      go_loopw [5, 8, 19] (fun v y i wr => ∃ j a n c, j ≤ 1 ∧ i = .int .i64 (j : Nat) ∧ y = .int .u8 ((x / 256 ^ j : Nat) : Int) ∧ v = .slice a n c ∧ Own wr w.heap.size 1 a n c ((laidAt 1 bs (xs.take k) ++ numBytes j x).map byteV) ∧ Below w.heap.size w wr) (fun _ _ i _ => 1 - (intOf i).toNat)
      case atStart => exact ⟨0, _, _, _, Nat.zero_le _, rfl, by simp, rfl, by simpa [numBytes] using HO2.out, HB2.out⟩
      case round =>
        obtain ⟨j, a3, n3, c3, hj, rfl, rfl, rfl, hown3, hb3⟩ := hrel
        have hl3 : n3 = bs.length + 1 * k + j := by
          have := hown3.len
          rw [laidIn_length _ _ _ _ _ _ hk] at this
          omega
        by_cases hlt2 : j < 1
        · have hn3 : n3 + 1 ≤ 140737488355328 := by omega
          clear hl3
          go_wp2_with (at_builtin; refine wpList_app rfl _ _ 50 50 rfl 5 i0 (.int .u8 0) 1 1 Try.underlying50 hi hz0 hz1 hz2 rfl (by simp [Value.cells, Value.oneCell']) w.heap.size _ _ _ _ rfl (hown3.alloc _) _ 1 [.int .u8 ((x : Int) / 256 ^ j)] rfl (Src.ofCells Try.underlying50 _ _ _ _ rfl (Cells.new _ _ _) (by simp [Value.oneCell']) (by decide)) (by simp [maxLen]; omega) (by omega) (by have := hb3.size; simp; omega) ?_; intro a4 c4 w4 hown4 hap4; have hb4 := Lib.hid ((hb3.alloc hb3.size _).trans (hap4.below (hown3.alloc _) (by have := hb3.size; simp; omega))); have HO4 := Lib.hid hown4; clear hown4 hap4 hown3 hb3)
          go_roundw
          case rel => exact ⟨j + 1, a4, _, c4, by omega, by go_num, by rw [next_u], rfl, by have := HO4.out; rwa [laidIn_snoc1 _ _ _ (by omega)] at this, hb4.out⟩
          case measure => simp [intOf]; omega
        · obtain rfl : j = 1 := by omega
          clear hl3
          have HO3 := Lib.hid hown3
          have HB3 := Lib.hid hb3
          clear hown3 hb3
          go_wp2
          go_roundw
          case rel => exact ⟨k + 1, a3, n3, c3, by omega, by go_num, rfl, by have := HO3.out; rwa [laidAt_snoc 1 bs xs k x HX.out] at this, HB3.out⟩
          case measure => simp [intOf]; omega
    · have HO2 := Lib.hid hown2
      have HB2 := Lib.hid hb2
      clear hown2 hb2
      go_wp2
      go_ret
      exact ⟨a2, n2, c2, rfl, by have := HO2.out; rwa [List.take_of_length_le (by omega)] at this, HB2.out⟩

set_option maxHeartbeats 400000 in
theorem width_u16 (w : World) : Calls Try.prog 59 #[] w fun e w' => e = .returned (.int .i64 2) ∧ w = w' := by
  go_enter Try.func59, Try.ntmps59
  go_wp2
  refine wp_loop_rounds 3 ?_
  repeat any_goals (rw [rounds_succ]; go_wp2)
  all_goals go_ret
  exact ⟨rfl, rfl⟩

set_option maxHeartbeats 1000000 in
theorem put_u16 (ab : Option Addr) (cb : Nat) (bs : List UInt8) (al : Option Addr) (cl : Nat) (xs : List Nat) (w : World) (hcb : Cells w ab (bs.map byteV)) (hcl : Cells w al (xs.map (numV .u16)))
    (hx : ∀ x ∈ xs, x < 65536) (hn : bs.length + 2 * xs.length ≤ 140737488355328) :
    Calls Try.prog 40 #[.slice ab bs.length cb, .slice al xs.length cl] w fun e w' => ∃ a n c, e = .returned (.slice a n c) ∧ Own w' w.heap.size 1 a n c ((laidAt 2 bs xs).map byteV) ∧ Below w.heap.size w w' := by
  obtain ⟨i0, hi, hz0, hz1, hz2⟩ := info_parts info5
  have HCL := Lib.hid hcl
  have HXS := Lib.hid hx
  clear hcl hx
  go_enter Try.func40, Try.ntmps40
  go_wp2_with (first
    | (at_builtin; refine wpList_app rfl _ _ 50 50 rfl 5 i0 (.int .u8 0) 1 1 Try.underlying50 hi hz0 hz1 hz2 rfl (by simp [Value.cells, Value.oneCell']) w.heap.size _ _ _ _ rfl (Own.nil _ _ _) _ _ _ rfl (Src.ofCells Try.underlying50 _ _ _ _ (by simp) hcb (byteV_one _) (by decide)) (by simp [maxLen]; omega) (by omega) (Nat.le_refl _) ?_; intro a1 c1 w1 hown1 hap1)
    | (go_at_call 59; refine (width_u16 _).mono ?_; rintro e w' ⟨rfl, rfl⟩))
  have hb1 := hap1.below (Own.nil w w.heap.size 1) (Nat.le_refl _)
  have HO1 := Lib.hid hown1
  clear hown1 hap1 hcb
  go_loopw [5, 14] (fun v i wr => ∃ k a n c, k ≤ xs.length ∧ i = .int .i64 (k : Nat) ∧ v = .slice a n c ∧ Own wr w.heap.size 1 a n c ((laidAt 2 bs (xs.take k)).map byteV) ∧ Below w.heap.size w wr) (fun _ i _ => xs.length - (intOf i).toNat)
  case atStart => exact ⟨0, _, _, _, Nat.zero_le _, rfl, rfl, by simpa [laidAt] using HO1.out, hb1⟩
  case round =>
    obtain ⟨k, a2, n2, c2, hk, rfl, rfl, hown2, hb2⟩ := hrel
    by_cases hlt : k < xs.length
    · obtain ⟨b, off, x, rfl, hxk, hck⟩ := (HCL.out.below hb2).at hlt
      have hxt : x < 65536 := HXS.out x (List.mem_of_getElem? hxk)
      have HX := Lib.hid hxk
      have HO2 := Lib.hid hown2
      have HB2 := Lib.hid hb2
      clear hxk hown2 hb2
      unfold numV at hck
      go_wp2
      go_loopw [5, 8, 19] (fun v y i wr => ∃ j a n c, j ≤ 2 ∧ i = .int .i64 (j : Nat) ∧ y = .int .u16 ((x / 256 ^ j : Nat) : Int) ∧ v = .slice a n c ∧ Own wr w.heap.size 1 a n c ((laidAt 2 bs (xs.take k) ++ numBytes j x).map byteV) ∧ Below w.heap.size w wr) (fun _ _ i _ => 2 - (intOf i).toNat)
      case atStart => exact ⟨0, _, _, _, Nat.zero_le _, rfl, by simp, rfl, by simpa [numBytes] using HO2.out, HB2.out⟩
      case round =>
        obtain ⟨j, a3, n3, c3, hj, rfl, rfl, rfl, hown3, hb3⟩ := hrel
        have hl3 : n3 = bs.length + 2 * k + j := by
          have := hown3.len
          rw [laidIn_length _ _ _ _ _ _ hk] at this
          omega
        by_cases hlt2 : j < 2
        · have hn3 : n3 + 1 ≤ 140737488355328 := by omega
          clear hl3
          go_wp2_with (at_builtin; refine wpList_app rfl _ _ 50 50 rfl 5 i0 (.int .u8 0) 1 1 Try.underlying50 hi hz0 hz1 hz2 rfl (by simp [Value.cells, Value.oneCell']) w.heap.size _ _ _ _ rfl (hown3.alloc _) _ 1 [.int .u8 ((x : Int) / 256 ^ j % 256)] rfl (Src.ofCells Try.underlying50 _ _ _ _ rfl (Cells.new _ _ _) (by simp [Value.oneCell']) (by decide)) (by simp [maxLen]; omega) (by omega) (by have := hb3.size; simp; omega) ?_; intro a4 c4 w4 hown4 hap4; have hb4 := Lib.hid ((hb3.alloc hb3.size _).trans (hap4.below (hown3.alloc _) (by have := hb3.size; simp; omega))); have HO4 := Lib.hid hown4; clear hown4 hap4 hown3 hb3)
          go_roundw
          case rel => exact ⟨j + 1, a4, _, c4, by omega, by go_num, by rw [next_u], rfl, by have := HO4.out; rwa [laidIn_snoc] at this, hb4.out⟩
          case measure => simp [intOf]; omega
        · obtain rfl : j = 2 := by omega
          clear hl3
          have HO3 := Lib.hid hown3
          have HB3 := Lib.hid hb3
          clear hown3 hb3
          go_wp2
          go_roundw
          case rel => exact ⟨k + 1, a3, n3, c3, by omega, by go_num, rfl, by have := HO3.out; rwa [laidAt_snoc 2 bs xs k x HX.out] at this, HB3.out⟩
          case measure => simp [intOf]; omega
    · have HO2 := Lib.hid hown2
      have HB2 := Lib.hid hb2
      clear hown2 hb2
      go_wp2
      go_ret
      exact ⟨a2, n2, c2, rfl, by have := HO2.out; rwa [List.take_of_length_le (by omega)] at this, HB2.out⟩

set_option maxHeartbeats 400000 in
theorem width_u32 (w : World) : Calls Try.prog 65 #[] w fun e w' => e = .returned (.int .i64 4) ∧ w = w' := by
  go_enter Try.func65, Try.ntmps65
  go_wp2
  refine wp_loop_rounds 5 ?_
  repeat any_goals (rw [rounds_succ]; go_wp2)
  all_goals go_ret
  exact ⟨rfl, rfl⟩

set_option maxHeartbeats 1000000 in
theorem put_u32 (ab : Option Addr) (cb : Nat) (bs : List UInt8) (al : Option Addr) (cl : Nat) (xs : List Nat) (w : World) (hcb : Cells w ab (bs.map byteV)) (hcl : Cells w al (xs.map (numV .u32)))
    (hx : ∀ x ∈ xs, x < 4294967296) (hn : bs.length + 4 * xs.length ≤ 140737488355328) :
    Calls Try.prog 49 #[.slice ab bs.length cb, .slice al xs.length cl] w fun e w' => ∃ a n c, e = .returned (.slice a n c) ∧ Own w' w.heap.size 1 a n c ((laidAt 4 bs xs).map byteV) ∧ Below w.heap.size w w' := by
  obtain ⟨i0, hi, hz0, hz1, hz2⟩ := info_parts info5
  have HCL := Lib.hid hcl
  have HXS := Lib.hid hx
  clear hcl hx
  go_enter Try.func49, Try.ntmps49
  go_wp2_with (first
    | (at_builtin; refine wpList_app rfl _ _ 50 50 rfl 5 i0 (.int .u8 0) 1 1 Try.underlying50 hi hz0 hz1 hz2 rfl (by simp [Value.cells, Value.oneCell']) w.heap.size _ _ _ _ rfl (Own.nil _ _ _) _ _ _ rfl (Src.ofCells Try.underlying50 _ _ _ _ (by simp) hcb (byteV_one _) (by decide)) (by simp [maxLen]; omega) (by omega) (Nat.le_refl _) ?_; intro a1 c1 w1 hown1 hap1)
    | (go_at_call 65; refine (width_u32 _).mono ?_; rintro e w' ⟨rfl, rfl⟩))
  have hb1 := hap1.below (Own.nil w w.heap.size 1) (Nat.le_refl _)
  have HO1 := Lib.hid hown1
  clear hown1 hap1 hcb
  go_loopw [5, 14] (fun v i wr => ∃ k a n c, k ≤ xs.length ∧ i = .int .i64 (k : Nat) ∧ v = .slice a n c ∧ Own wr w.heap.size 1 a n c ((laidAt 4 bs (xs.take k)).map byteV) ∧ Below w.heap.size w wr) (fun _ i _ => xs.length - (intOf i).toNat)
  case atStart => exact ⟨0, _, _, _, Nat.zero_le _, rfl, rfl, by simpa [laidAt] using HO1.out, hb1⟩
  case round =>
    obtain ⟨k, a2, n2, c2, hk, rfl, rfl, hown2, hb2⟩ := hrel
    by_cases hlt : k < xs.length
    · obtain ⟨b, off, x, rfl, hxk, hck⟩ := (HCL.out.below hb2).at hlt
      have hxt : x < 4294967296 := HXS.out x (List.mem_of_getElem? hxk)
      have HX := Lib.hid hxk
      have HO2 := Lib.hid hown2
      have HB2 := Lib.hid hb2
      clear hxk hown2 hb2
      unfold numV at hck
      go_wp2
      go_loopw [5, 8, 19] (fun v y i wr => ∃ j a n c, j ≤ 4 ∧ i = .int .i64 (j : Nat) ∧ y = .int .u32 ((x / 256 ^ j : Nat) : Int) ∧ v = .slice a n c ∧ Own wr w.heap.size 1 a n c ((laidAt 4 bs (xs.take k) ++ numBytes j x).map byteV) ∧ Below w.heap.size w wr) (fun _ _ i _ => 4 - (intOf i).toNat)
      case atStart => exact ⟨0, _, _, _, Nat.zero_le _, rfl, by simp, rfl, by simpa [numBytes] using HO2.out, HB2.out⟩
      case round =>
        obtain ⟨j, a3, n3, c3, hj, rfl, rfl, rfl, hown3, hb3⟩ := hrel
        have hl3 : n3 = bs.length + 4 * k + j := by
          have := hown3.len
          rw [laidIn_length _ _ _ _ _ _ hk] at this
          omega
        by_cases hlt2 : j < 4
        · have hn3 : n3 + 1 ≤ 140737488355328 := by omega
          clear hl3
          go_wp2_with (at_builtin; refine wpList_app rfl _ _ 50 50 rfl 5 i0 (.int .u8 0) 1 1 Try.underlying50 hi hz0 hz1 hz2 rfl (by simp [Value.cells, Value.oneCell']) w.heap.size _ _ _ _ rfl (hown3.alloc _) _ 1 [.int .u8 ((x : Int) / 256 ^ j % 256)] rfl (Src.ofCells Try.underlying50 _ _ _ _ rfl (Cells.new _ _ _) (by simp [Value.oneCell']) (by decide)) (by simp [maxLen]; omega) (by omega) (by have := hb3.size; simp; omega) ?_; intro a4 c4 w4 hown4 hap4; have hb4 := Lib.hid ((hb3.alloc hb3.size _).trans (hap4.below (hown3.alloc _) (by have := hb3.size; simp; omega))); have HO4 := Lib.hid hown4; clear hown4 hap4 hown3 hb3)
          go_roundw
          case rel => exact ⟨j + 1, a4, _, c4, by omega, by go_num, by rw [next_u], rfl, by have := HO4.out; rwa [laidIn_snoc] at this, hb4.out⟩
          case measure => simp [intOf]; omega
        · obtain rfl : j = 4 := by omega
          clear hl3
          have HO3 := Lib.hid hown3
          have HB3 := Lib.hid hb3
          clear hown3 hb3
          go_wp2
          go_roundw
          case rel => exact ⟨k + 1, a3, n3, c3, by omega, by go_num, rfl, by have := HO3.out; rwa [laidAt_snoc 4 bs xs k x HX.out] at this, HB3.out⟩
          case measure => simp [intOf]; omega
    · have HO2 := Lib.hid hown2
      have HB2 := Lib.hid hb2
      clear hown2 hb2
      go_wp2
      go_ret
      exact ⟨a2, n2, c2, rfl, by have := HO2.out; rwa [List.take_of_length_le (by omega)] at this, HB2.out⟩

set_option maxHeartbeats 400000 in
theorem width_small (w : World) : Calls Try.prog 66 #[] w fun e w' => e = .returned (.int .i64 1) ∧ w = w' := by
  go_enter Try.func66, Try.ntmps66
  go_wp2
  refine wp_loop_rounds 2 ?_
  repeat any_goals (rw [rounds_succ]; go_wp2)
  all_goals go_ret
  exact ⟨rfl, rfl⟩

set_option maxHeartbeats 1000000 in
theorem put_small (ab : Option Addr) (cb : Nat) (bs : List UInt8) (al : Option Addr) (cl : Nat) (xs : List Nat) (w : World) (hcb : Cells w ab (bs.map byteV)) (hcl : Cells w al (xs.map (numV .u8)))
    (hx : ∀ x ∈ xs, x < 256) (hn : bs.length + 1 * xs.length ≤ 140737488355328) :
    Calls Try.prog 50 #[.slice ab bs.length cb, .slice al xs.length cl] w fun e w' => ∃ a n c, e = .returned (.slice a n c) ∧ Own w' w.heap.size 1 a n c ((laidAt 1 bs xs).map byteV) ∧ Below w.heap.size w w' := by
  obtain ⟨i0, hi, hz0, hz1, hz2⟩ := info_parts info5
  have HCL := Lib.hid hcl
  have HXS := Lib.hid hx
  clear hcl hx
  go_enter Try.func50, Try.ntmps50
  go_wp2_with (first
    | (at_builtin; refine wpList_app rfl _ _ 50 50 rfl 5 i0 (.int .u8 0) 1 1 Try.underlying50 hi hz0 hz1 hz2 rfl (by simp [Value.cells, Value.oneCell']) w.heap.size _ _ _ _ rfl (Own.nil _ _ _) _ _ _ rfl (Src.ofCells Try.underlying50 _ _ _ _ (by simp) hcb (byteV_one _) (by decide)) (by simp [maxLen]; omega) (by omega) (Nat.le_refl _) ?_; intro a1 c1 w1 hown1 hap1)
    | (go_at_call 66; refine (width_small _).mono ?_; rintro e w' ⟨rfl, rfl⟩))
  have hb1 := hap1.below (Own.nil w w.heap.size 1) (Nat.le_refl _)
  have HO1 := Lib.hid hown1
  clear hown1 hap1 hcb
  go_loopw [5, 14] (fun v i wr => ∃ k a n c, k ≤ xs.length ∧ i = .int .i64 (k : Nat) ∧ v = .slice a n c ∧ Own wr w.heap.size 1 a n c ((laidAt 1 bs (xs.take k)).map byteV) ∧ Below w.heap.size w wr) (fun _ i _ => xs.length - (intOf i).toNat)
  case atStart => exact ⟨0, _, _, _, Nat.zero_le _, rfl, rfl, by simpa [laidAt] using HO1.out, hb1⟩
  case round =>
    obtain ⟨k, a2, n2, c2, hk, rfl, rfl, hown2, hb2⟩ := hrel
    by_cases hlt : k < xs.length
    · obtain ⟨b, off, x, rfl, hxk, hck⟩ := (HCL.out.below hb2).at hlt
      have hxt : x < 256 := HXS.out x (List.mem_of_getElem? hxk)
      have HX := Lib.hid hxk
      have HO2 := Lib.hid hown2
      have HB2 := Lib.hid hb2
      clear hxk hown2 hb2
      unfold numV at hck
      go_wp2
      go_loopw [5, 8, 19] (fun v y i wr => ∃ j a n c, j ≤ 1 ∧ i = .int .i64 (j : Nat) ∧ y = .int .u8 ((x / 256 ^ j : Nat) : Int) ∧ v = .slice a n c ∧ Own wr w.heap.size 1 a n c ((laidAt 1 bs (xs.take k) ++ numBytes j x).map byteV) ∧ Below w.heap.size w wr) (fun _ _ i _ => 1 - (intOf i).toNat)
      case atStart => exact ⟨0, _, _, _, Nat.zero_le _, rfl, by simp, rfl, by simpa [numBytes] using HO2.out, HB2.out⟩
      case round =>
        obtain ⟨j, a3, n3, c3, hj, rfl, rfl, rfl, hown3, hb3⟩ := hrel
        have hl3 : n3 = bs.length + 1 * k + j := by
          have := hown3.len
          rw [laidIn_length _ _ _ _ _ _ hk] at this
          omega
        by_cases hlt2 : j < 1
        · have hn3 : n3 + 1 ≤ 140737488355328 := by omega
          clear hl3
          go_wp2_with (at_builtin; refine wpList_app rfl _ _ 50 50 rfl 5 i0 (.int .u8 0) 1 1 Try.underlying50 hi hz0 hz1 hz2 rfl (by simp [Value.cells, Value.oneCell']) w.heap.size _ _ _ _ rfl (hown3.alloc _) _ 1 [.int .u8 ((x : Int) / 256 ^ j)] rfl (Src.ofCells Try.underlying50 _ _ _ _ rfl (Cells.new _ _ _) (by simp [Value.oneCell']) (by decide)) (by simp [maxLen]; omega) (by omega) (by have := hb3.size; simp; omega) ?_; intro a4 c4 w4 hown4 hap4; have hb4 := Lib.hid ((hb3.alloc hb3.size _).trans (hap4.below (hown3.alloc _) (by have := hb3.size; simp; omega))); have HO4 := Lib.hid hown4; clear hown4 hap4 hown3 hb3)
          go_roundw
          case rel => exact ⟨j + 1, a4, _, c4, by omega, by go_num, by rw [next_u], rfl, by have := HO4.out; rwa [laidIn_snoc1 _ _ _ (by omega)] at this, hb4.out⟩
          case measure => simp [intOf]; omega
        · obtain rfl : j = 1 := by omega
          clear hl3
          have HO3 := Lib.hid hown3
          have HB3 := Lib.hid hb3
          clear hown3 hb3
          go_wp2
          go_roundw
          case rel => exact ⟨k + 1, a3, n3, c3, by omega, by go_num, rfl, by have := HO3.out; rwa [laidAt_snoc 1 bs xs k x HX.out] at this, HB3.out⟩
          case measure => simp [intOf]; omega
    · have HO2 := Lib.hid hown2
      have HB2 := Lib.hid hb2
      clear hown2 hb2
      go_wp2
      go_ret
      exact ⟨a2, n2, c2, rfl, by have := HO2.out; rwa [List.take_of_length_le (by omega)] at this, HB2.out⟩

set_option maxHeartbeats 400000 in
theorem width_middle (w : World) : Calls Try.prog 67 #[] w fun e w' => e = .returned (.int .i64 2) ∧ w = w' := by
  go_enter Try.func67, Try.ntmps67
  go_wp2
  refine wp_loop_rounds 3 ?_
  repeat any_goals (rw [rounds_succ]; go_wp2)
  all_goals go_ret
  exact ⟨rfl, rfl⟩

set_option maxHeartbeats 1000000 in
theorem put_middle (ab : Option Addr) (cb : Nat) (bs : List UInt8) (al : Option Addr) (cl : Nat) (xs : List Nat) (w : World) (hcb : Cells w ab (bs.map byteV)) (hcl : Cells w al (xs.map (numV .u16)))
    (hx : ∀ x ∈ xs, x < 65536) (hn : bs.length + 2 * xs.length ≤ 140737488355328) :
    Calls Try.prog 51 #[.slice ab bs.length cb, .slice al xs.length cl] w fun e w' => ∃ a n c, e = .returned (.slice a n c) ∧ Own w' w.heap.size 1 a n c ((laidAt 2 bs xs).map byteV) ∧ Below w.heap.size w w' := by
  obtain ⟨i0, hi, hz0, hz1, hz2⟩ := info_parts info5
  have HCL := Lib.hid hcl
  have HXS := Lib.hid hx
  clear hcl hx
  go_enter Try.func51, Try.ntmps51
  go_wp2_with (first
    | (at_builtin; refine wpList_app rfl _ _ 50 50 rfl 5 i0 (.int .u8 0) 1 1 Try.underlying50 hi hz0 hz1 hz2 rfl (by simp [Value.cells, Value.oneCell']) w.heap.size _ _ _ _ rfl (Own.nil _ _ _) _ _ _ rfl (Src.ofCells Try.underlying50 _ _ _ _ (by simp) hcb (byteV_one _) (by decide)) (by simp [maxLen]; omega) (by omega) (Nat.le_refl _) ?_; intro a1 c1 w1 hown1 hap1)
    | (go_at_call 67; refine (width_middle _).mono ?_; rintro e w' ⟨rfl, rfl⟩))
  have hb1 := hap1.below (Own.nil w w.heap.size 1) (Nat.le_refl _)
  have HO1 := Lib.hid hown1
  clear hown1 hap1 hcb
  go_loopw [5, 14] (fun v i wr => ∃ k a n c, k ≤ xs.length ∧ i = .int .i64 (k : Nat) ∧ v = .slice a n c ∧ Own wr w.heap.size 1 a n c ((laidAt 2 bs (xs.take k)).map byteV) ∧ Below w.heap.size w wr) (fun _ i _ => xs.length - (intOf i).toNat)
  case atStart => exact ⟨0, _, _, _, Nat.zero_le _, rfl, rfl, by simpa [laidAt] using HO1.out, hb1⟩
  case round =>
    obtain ⟨k, a2, n2, c2, hk, rfl, rfl, hown2, hb2⟩ := hrel
    by_cases hlt : k < xs.length
    · obtain ⟨b, off, x, rfl, hxk, hck⟩ := (HCL.out.below hb2).at hlt
      have hxt : x < 65536 := HXS.out x (List.mem_of_getElem? hxk)
      have HX := Lib.hid hxk
      have HO2 := Lib.hid hown2
      have HB2 := Lib.hid hb2
      clear hxk hown2 hb2
      unfold numV at hck
      go_wp2
      go_loopw [5, 8, 19] (fun v y i wr => ∃ j a n c, j ≤ 2 ∧ i = .int .i64 (j : Nat) ∧ y = .int .u16 ((x / 256 ^ j : Nat) : Int) ∧ v = .slice a n c ∧ Own wr w.heap.size 1 a n c ((laidAt 2 bs (xs.take k) ++ numBytes j x).map byteV) ∧ Below w.heap.size w wr) (fun _ _ i _ => 2 - (intOf i).toNat)
      case atStart => exact ⟨0, _, _, _, Nat.zero_le _, rfl, by simp, rfl, by simpa [numBytes] using HO2.out, HB2.out⟩
      case round =>
        obtain ⟨j, a3, n3, c3, hj, rfl, rfl, rfl, hown3, hb3⟩ := hrel
        have hl3 : n3 = bs.length + 2 * k + j := by
          have := hown3.len
          rw [laidIn_length _ _ _ _ _ _ hk] at this
          omega
        by_cases hlt2 : j < 2
        · have hn3 : n3 + 1 ≤ 140737488355328 := by omega
          clear hl3
          go_wp2_with (at_builtin; refine wpList_app rfl _ _ 50 50 rfl 5 i0 (.int .u8 0) 1 1 Try.underlying50 hi hz0 hz1 hz2 rfl (by simp [Value.cells, Value.oneCell']) w.heap.size _ _ _ _ rfl (hown3.alloc _) _ 1 [.int .u8 ((x : Int) / 256 ^ j % 256)] rfl (Src.ofCells Try.underlying50 _ _ _ _ rfl (Cells.new _ _ _) (by simp [Value.oneCell']) (by decide)) (by simp [maxLen]; omega) (by omega) (by have := hb3.size; simp; omega) ?_; intro a4 c4 w4 hown4 hap4; have hb4 := Lib.hid ((hb3.alloc hb3.size _).trans (hap4.below (hown3.alloc _) (by have := hb3.size; simp; omega))); have HO4 := Lib.hid hown4; clear hown4 hap4 hown3 hb3)
          go_roundw
          case rel => exact ⟨j + 1, a4, _, c4, by omega, by go_num, by rw [next_u], rfl, by have := HO4.out; rwa [laidIn_snoc] at this, hb4.out⟩
          case measure => simp [intOf]; omega
        · obtain rfl : j = 2 := by omega
          clear hl3
          have HO3 := Lib.hid hown3
          have HB3 := Lib.hid hb3
          clear hown3 hb3
          go_wp2
          go_roundw
          case rel => exact ⟨k + 1, a3, n3, c3, by omega, by go_num, rfl, by have := HO3.out; rwa [laidAt_snoc 2 bs xs k x HX.out] at this, HB3.out⟩
          case measure => simp [intOf]; omega
    · have HO2 := Lib.hid hown2
      have HB2 := Lib.hid hb2
      clear hown2 hb2
      go_wp2
      go_ret
      exact ⟨a2, n2, c2, rfl, by have := HO2.out; rwa [List.take_of_length_le (by omega)] at this, HB2.out⟩

set_option maxHeartbeats 400000 in
theorem width_large (w : World) : Calls Try.prog 58 #[] w fun e w' => e = .returned (.int .i64 4) ∧ w = w' := by
  go_enter Try.func58, Try.ntmps58
  go_wp2
  refine wp_loop_rounds 5 ?_
  repeat any_goals (rw [rounds_succ]; go_wp2)
  all_goals go_ret
  exact ⟨rfl, rfl⟩

set_option maxHeartbeats 1000000 in
theorem put_large (ab : Option Addr) (cb : Nat) (bs : List UInt8) (al : Option Addr) (cl : Nat) (xs : List Nat) (w : World) (hcb : Cells w ab (bs.map byteV)) (hcl : Cells w al (xs.map (numV .u32)))
    (hx : ∀ x ∈ xs, x < 4294967296) (hn : bs.length + 4 * xs.length ≤ 140737488355328) :
    Calls Try.prog 38 #[.slice ab bs.length cb, .slice al xs.length cl] w fun e w' => ∃ a n c, e = .returned (.slice a n c) ∧ Own w' w.heap.size 1 a n c ((laidAt 4 bs xs).map byteV) ∧ Below w.heap.size w w' := by
  obtain ⟨i0, hi, hz0, hz1, hz2⟩ := info_parts info5
  have HCL := Lib.hid hcl
  have HXS := Lib.hid hx
  clear hcl hx
  go_enter Try.func38, Try.ntmps38
  go_wp2_with (first
    | (at_builtin; refine wpList_app rfl _ _ 50 50 rfl 5 i0 (.int .u8 0) 1 1 Try.underlying50 hi hz0 hz1 hz2 rfl (by simp [Value.cells, Value.oneCell']) w.heap.size _ _ _ _ rfl (Own.nil _ _ _) _ _ _ rfl (Src.ofCells Try.underlying50 _ _ _ _ (by simp) hcb (byteV_one _) (by decide)) (by simp [maxLen]; omega) (by omega) (Nat.le_refl _) ?_; intro a1 c1 w1 hown1 hap1)
    | (go_at_call 58; refine (width_large _).mono ?_; rintro e w' ⟨rfl, rfl⟩))
  have hb1 := hap1.below (Own.nil w w.heap.size 1) (Nat.le_refl _)
  have HO1 := Lib.hid hown1
  clear hown1 hap1 hcb
  go_loopw [5, 14] (fun v i wr => ∃ k a n c, k ≤ xs.length ∧ i = .int .i64 (k : Nat) ∧ v = .slice a n c ∧ Own wr w.heap.size 1 a n c ((laidAt 4 bs (xs.take k)).map byteV) ∧ Below w.heap.size w wr) (fun _ i _ => xs.length - (intOf i).toNat)
  case atStart => exact ⟨0, _, _, _, Nat.zero_le _, rfl, rfl, by simpa [laidAt] using HO1.out, hb1⟩
  case round =>
    obtain ⟨k, a2, n2, c2, hk, rfl, rfl, hown2, hb2⟩ := hrel
    by_cases hlt : k < xs.length
    · obtain ⟨b, off, x, rfl, hxk, hck⟩ := (HCL.out.below hb2).at hlt
      have hxt : x < 4294967296 := HXS.out x (List.mem_of_getElem? hxk)
      have HX := Lib.hid hxk
      have HO2 := Lib.hid hown2
      have HB2 := Lib.hid hb2
      clear hxk hown2 hb2
      unfold numV at hck
      go_wp2
      go_loopw [5, 8, 19] (fun v y i wr => ∃ j a n c, j ≤ 4 ∧ i = .int .i64 (j : Nat) ∧ y = .int .u32 ((x / 256 ^ j : Nat) : Int) ∧ v = .slice a n c ∧ Own wr w.heap.size 1 a n c ((laidAt 4 bs (xs.take k) ++ numBytes j x).map byteV) ∧ Below w.heap.size w wr) (fun _ _ i _ => 4 - (intOf i).toNat)
      case atStart => exact ⟨0, _, _, _, Nat.zero_le _, rfl, by simp, rfl, by simpa [numBytes] using HO2.out, HB2.out⟩
      case round =>
        obtain ⟨j, a3, n3, c3, hj, rfl, rfl, rfl, hown3, hb3⟩ := hrel
        have hl3 : n3 = bs.length + 4 * k + j := by
          have := hown3.len
          rw [laidIn_length _ _ _ _ _ _ hk] at this
          omega
        by_cases hlt2 : j < 4
        · have hn3 : n3 + 1 ≤ 140737488355328 := by omega
          clear hl3
          go_wp2_with (at_builtin; refine wpList_app rfl _ _ 50 50 rfl 5 i0 (.int .u8 0) 1 1 Try.underlying50 hi hz0 hz1 hz2 rfl (by simp [Value.cells, Value.oneCell']) w.heap.size _ _ _ _ rfl (hown3.alloc _) _ 1 [.int .u8 ((x : Int) / 256 ^ j % 256)] rfl (Src.ofCells Try.underlying50 _ _ _ _ rfl (Cells.new _ _ _) (by simp [Value.oneCell']) (by decide)) (by simp [maxLen]; omega) (by omega) (by have := hb3.size; simp; omega) ?_; intro a4 c4 w4 hown4 hap4; have hb4 := Lib.hid ((hb3.alloc hb3.size _).trans (hap4.below (hown3.alloc _) (by have := hb3.size; simp; omega))); have HO4 := Lib.hid hown4; clear hown4 hap4 hown3 hb3)
          go_roundw
          case rel => exact ⟨j + 1, a4, _, c4, by omega, by go_num, by rw [next_u], rfl, by have := HO4.out; rwa [laidIn_snoc] at this, hb4.out⟩
          case measure => simp [intOf]; omega
        · obtain rfl : j = 4 := by omega
          clear hl3
          have HO3 := Lib.hid hown3
          have HB3 := Lib.hid hb3
          clear hown3 hb3
          go_wp2
          go_roundw
          case rel => exact ⟨k + 1, a3, n3, c3, by omega, by go_num, rfl, by have := HO3.out; rwa [laidAt_snoc 4 bs xs k x HX.out] at this, HB3.out⟩
          case measure => simp [intOf]; omega
    · have HO2 := Lib.hid hown2
      have HB2 := Lib.hid hb2
      clear hown2 hb2
      go_wp2
      go_ret
      exact ⟨a2, n2, c2, rfl, by have := HO2.out; rwa [List.take_of_length_le (by omega)] at this, HB2.out⟩

end Go.Proofs.Ytallfhfgplgfpaa
