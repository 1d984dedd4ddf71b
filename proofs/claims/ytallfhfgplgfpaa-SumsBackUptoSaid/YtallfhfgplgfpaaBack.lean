/-
  The walk of the law SumsBack.
-/
import Derived.Test.YtallfhfgplgfpaaTakeB
import Derived.Test.YtallfhfgplgfpaaPutsW
import Derived.Test.YtallfhfgplgfpaaBackMath
import Derived.Deep.RegionWith
import Derived.Deep.RegionHeld3
namespace Go.Proofs.Ytallfhfgplgfpaa
open Go.RowKit

theorem numV_next (k : Nat) (ls : List Nat) (x : Nat) (h : ls[k]? = some x) : (ls.take k).map (numV .u32) ++ [.int .u32 (x : Int)] = (ls.take (k + 1)).map (numV .u32) := by
  rw [List.take_add_one, h, List.map_append]
  rfl

theorem put_str (b : ByteArray) (ls : List Nat) (T : ByteArray) (hT : T = laidStr 4 b ls) (g6 c6 : Nat) (a : Option Addr) (c : Nat) (W : World) (h1 : Cells W (some ⟨g6, 0, none⟩) (b.data.toList.map byteV)) (h2 : Cells W a (ls.map (numV .u32))) (hx : ∀ x ∈ ls, x < 4294967296) (hs : b.size ≤ 1048576) (hn : ls.length ≤ 1048576) :
    Calls Try.prog 38 #[.slice (some ⟨g6, 0, none⟩) b.size c6, .slice a ls.length c] W fun e w' => ∃ a c, e = .returned (.slice a T.size c) ∧ Own w' W.heap.size 1 a T.size c (T.data.toList.map byteV) ∧ Below W.heap.size W w' := by
  have hl : b.data.toList.length = b.size := by simp
  refine (put_large (some ⟨g6, 0, none⟩) c6 b.data.toList a c ls W h1 h2 hx (by rw [hl]; omega)).mono ?_
  rintro e w' ⟨a', n, c', rfl, hown, hb⟩
  subst hT
  obtain rfl : n = (laidStr 4 b ls).size := by
    have := hown.len
    rw [laidStr_size]
    rw [List.length_map, laidAt_length, hl] at this
    omega
  exact ⟨a', c', rfl, hown, hb⟩

theorem put_half (s : ByteArray) (n : Nat) (h : 2 * n ≤ s.size) (xs : List Nat) (hxs : xs = takesAt s 0 2 n) (a : Option Addr) (c : Nat) (W : World) (h2 : Cells W a (xs.map (numV .u16))) (hs : s.size ≤ 1048576) :
    Calls Try.prog 40 #[.slice none 0 0, .slice a n c] W fun e w' => ∃ a m c, e = .returned (.slice a m c) ∧ (convert 50 9 (.slice a m c)).run Try.prog w' = .ok (.string (s.extract 0 (2 * n))) w' ∧ Below W.heap.size W w' := by
  have hl : xs.length = n := by rw [hxs, takesAt_length]
  have hx : ∀ x ∈ xs, x < 65536 := by
    intro x hx
    rw [hxs] at hx
    obtain ⟨i, _, rfl⟩ := List.mem_map.1 hx
    have h1 := numTop_lt (segAt s (0 + i * 2) 2)
    have h2 : (segAt s (0 + i * 2) 2).length ≤ 2 := by simp [segAt]; omega
    have h3 : 256 ^ (segAt s (0 + i * 2) 2).length ≤ 256 ^ 2 := Nat.pow_le_pow_right (by omega) h2
    omega
  have hp := put_u16 none 0 [] a c xs W (Cells.nil _ _) h2 hx (by simp; omega)
  rw [hl] at hp
  refine hp.mono ?_
  rintro e w' ⟨a', m, c', rfl, hown, hb⟩
  have hcv := run_str (w := w') (P := Try.prog) 50 9 5 Try.underlying50 Try.underlying5 Try.underlying9 a' m c' (laidAt 2 [] xs) (by have := hown.len; simpa using this) hown.toCells
  rw [hxs, back_str s n h] at hcv
  exact ⟨a', m, c', rfl, hcv, hb⟩

set_option maxRecDepth 20000 in
set_option maxHeartbeats 40000000 in
theorem back_walk (w : World) (b : ByteArray) (hb : b.size ≤ 1048576) (a : Option Addr) (c : Nat) (xs : List Int) (hle : xs.length ≤ c) (hc : c ≤ 1048576) (hr : Cells w a (xs.map (Value.int .u32))) (hwf : ∀ x ∈ xs, (Lit.int .u32 x).wf = true) (s : ByteArray) (hs : s.size ≤ 1048576) :
    Calls Try.prog 9 #[.string b, .slice a xs.length c, .string s] w fun e w' => e = .returned (.bool true) ∧ Below w.heap.size w w' := by
  obtain ⟨i0, hi, hz0, hz1, hz2⟩ := info_parts info34n
  obtain ⟨ls, rfl, hx⟩ := nats_of xs hwf
  have hn : ls.length ≤ 1048576 := by simp at hle; omega
  rw [List.map_map] at hr
  have hr2 : Cells w a (ls.map (numV .u32)) := hr
  rw [List.length_map]
  have HCL := Lib.hid hr2
  have HXS := Lib.hid hx
  clear hwf hle hr hr2 hx
  go_enter Try.func9, Try.ntmps9
  go_wp2_with (go_at_call 19; refine (awake_any _).mono ?_; rintro e w0 ⟨rfl, hb0⟩)
  have HB0 := Lib.hid hb0
  clear hb0
  go_loopw [7, 8] (fun v i wr => ∃ (k : Nat) (a : Option Addr) (c : Nat), k ≤ ls.length ∧ i = .int .i64 k ∧ v = .slice a k c ∧ Own wr w.heap.size 1 a k c ((ls.take k).map (numV .u32)) ∧ Below w.heap.size w wr) (fun _ i _ => ls.length - (intOf i).toNat)
  case atStart => exact ⟨0, none, 0, Nat.zero_le _, rfl, rfl, Own.nil _ _ _, HB0.out⟩
  case round =>
    obtain ⟨k, a2, c2, hk, rfl, rfl, hA, hbel⟩ := hrel
    by_cases hlt : k < ls.length
    · obtain ⟨g, off, x, rfl, hxk, hck⟩ := (HCL.out.below hbel).at hlt
      have hxt := HXS.out x (List.mem_of_getElem? hxk)
      have HX := Lib.hid hxk
      have HBEL := Lib.hid hbel
      clear hxk hbel
      unfold numV at hck
      have h0 : (0 : Int) ≤ (k : Int) := by omega
      have h1 : (k : Int) < (ls.length : Int) := by omega
      go_wp2_with (at_builtin; refine wpList_app rfl _ _ 47 47 rfl 34 i0 (.int .u32 0) 1 4 Try.underlying47 hi hz0 hz1 hz2 rfl (by simp [Value.cells, Value.oneCell']) w.heap.size _ _ _ _ rfl (hA.alloc _) _ 1 [.int .u32 (x : Int)] rfl (Src.ofCells Try.underlying47 _ _ _ _ rfl (Cells.new _ _ _) (by simp [Value.oneCell']) (by decide)) (by simp [maxLen]; omega) (by omega) (by have := HBEL.out.size; simp; omega) ?_; intro a4 c4 w4 hown4 hap4; have hb4 := Lib.hid ((HBEL.out.alloc HBEL.out.size _).trans (hap4.below (hA.alloc _) (by have := HBEL.out.size; simp; omega))); have HO4 := Lib.hid hown4; clear hown4 hap4 hA)
      go_roundw
      case rel => exact ⟨k + 1, a4, c4, by omega, by go_num, rfl, by have := HO4.out; rwa [numV_next k ls x HX.out] at this, hb4.out⟩
      case measure => simp [intOf]; omega
    · obtain rfl : ls.length = k := by omega
      rw [List.take_of_length_le (Nat.le_refl _)] at hA
      have HA := Lib.hid hA
      have HBEL := Lib.hid hbel
      clear hA hbel
      obtain ⟨T, hT⟩ : ∃ T, T = laidStr 4 b ls := ⟨_, rfl⟩
      have hTs : T.size ≤ 8388608 := by rw [hT, laidStr_size]; omega
      have hTk := take_laid b ls HXS.out
      rw [← hT] at hTk
      have HT := Lib.hid hT
      have HTK := Lib.hid hTk
      clear hT hTk
      go_wp2_with (with_reducible refine wpList_bytes rfl _ 9 50 5 rfl Try.underlying9 Try.underlying50 Try.underlying5 b rfl (by simp [maxLen]; omega) ?_; intro g6 c6 w6 hown6 hb6)
      have hA6 := HA.out.below hb6
      have H6 := Lib.hid hown6
      have B6 := Lib.hid hb6
      have HA6 := Lib.hid hA6
      clear hown6 hb6 hA6
      refine (put_str b ls T HT.out g6 c6 a2 c2 w6 H6.out.toCells HA6.out.toCells HXS.out hb hn).mono ?_
      rintro e w7 ⟨a7, c7, rfl, hown7, hb7⟩
      have hcv7 : (convert 50 9 (.slice a7 T.size c7)).run Try.prog w7 = .ok (.string T) w7 := run_str (w := w7) (P := Try.prog) 50 9 5 Try.underlying50 Try.underlying5 Try.underlying9 a7 T.size c7 T.data.toList (by simp) hown7.toCells
      have hA7 := HA6.out.below hb7
      have B7 := Lib.hid hb7
      have HA7 := Lib.hid hA7
      clear hown7 hb7 hA7
      have htk := takeb_large T b.size ls.length w7 hTs (by simp [Lit.wf, IntKind.min, IntKind.max, IntKind.signed, IntKind.bits]; omega) (by simp [Lit.wf, IntKind.min, IntKind.max, IntKind.signed, IntKind.bits]; omega)
      rw [HTK.out] at htk
      have HTC := Lib.hid htk
      clear htk
      go_wp2_with fail
      refine HTC.out.mono ?_
      rintro e w8 ⟨a8, n8, c8, rfl, hown8, hb8⟩
      obtain rfl : n8 = ls.length := by have := hown8.len; simpa using this.symm
      have hA8 := HA7.out.below hb8
      have H8 := Lib.hid hown8
      have B8 := Lib.hid hb8
      have HA8 := Lib.hid hA8
      clear hown8 hb8 hA8 hcv7
      go_wp2
      go_loopw [11] (fun i wr => ∃ k : Nat, k ≤ ls.length ∧ i = .int .i64 k ∧ Below w8.heap.size w8 wr) (fun i _ => ls.length - (intOf i).toNat)
      case atStart => exact ⟨0, Nat.zero_le _, rfl, Below.refl _ _⟩
      case round =>
        obtain ⟨k, hk, rfl, hbel⟩ := hrel
        by_cases hlt : k < ls.length
        · obtain ⟨g, off, x, rfl, hxk, hck⟩ := (HA8.out.toCells.below hbel).at hlt
          obtain ⟨g', off', x', rfl, hxk', hck'⟩ := (H8.out.toCells.below hbel).at hlt
          rw [hxk] at hxk'
          cases hxk'
          have HBX := Lib.hid hbel
          clear hbel hxk
          unfold numV at hck hck'
          have h0 : (0 : Int) ≤ (k : Int) := by omega
          have h1 : (k : Int) < (ls.length : Int) := by omega
          go_wp2
          go_quiet (fail)
          go_wp2
          go_roundw
          case rel => exact ⟨k + 1, by omega, by go_num, below_drewN HBX.out nq⟩
          case measure => simp [intOf]; omega
        · obtain rfl : ls.length = k := by omega
          have HBX := Lib.hid hbel
          clear hbel
          have hsz : 2 * (s.size / 2) ≤ s.size := by omega
          have htk := take_half s
          obtain ⟨n, hn2⟩ : ∃ n, n = s.size / 2 := ⟨_, rfl⟩
          rw [← hn2] at htk hsz
          obtain ⟨zs, hzs⟩ : ∃ zs, zs = takesAt s 0 2 n := ⟨_, rfl⟩
          rw [← hzs] at htk
          have hq : (s.size : Int) / 2 = (n : Int) := by omega
          have hni : n ≤ 1048576 := by omega
          have HTH := Lib.hid htk
          have HZS := Lib.hid hzs
          clear htk hzs hn2
          go_wp2_with fail
          have htk := take_u16 s 0 n wr (by omega) (by decide) (by simp [Lit.wf, IntKind.min, IntKind.max, IntKind.signed, IntKind.bits]; omega)
          rw [HTH.out] at htk
          refine htk.mono ?_
          rintro e w9 ⟨a9, n9, c9, rfl, hown9, hb9⟩
          obtain rfl : n9 = n := by have := hown9.len; rw [HZS.out] at this; simpa [takesAt_length] using this.symm
          clear htk
          have hput : ∀ W, Below w9.heap.size w9 W → Calls Try.prog 40 #[.slice none 0 0, .slice a9 n9 c9] W fun e w' => ∃ a m c, e = .returned (.slice a m c) ∧ (convert 50 9 (.slice a m c)).run Try.prog w' = .ok (.string (s.extract 0 (2 * n9))) w' ∧ Below W.heap.size W w' := fun W hW => put_half s n9 hsz zs HZS.out a9 c9 W (hown9.toCells.below hW) hs
          have HP := Lib.hid hput
          have B9 := Lib.hid hb9
          clear hput hown9 hb9
          have hq2 : ((2 : Int) * (n9 : Int)) ≤ (s.size : Int) := by omega
          have hw2 : IntKind.i64.wrap (2 * (n9 : Int)) = 2 * (n9 : Int) := by simp [IntKind.wrap, IntKind.signed, IntKind.bits]; omega
          have hw3 : wrap64 (2 * (n9 : Int)) = 2 * (n9 : Int) := by unfold wrap64; omega
          have hsl : ∀ W : World, (Instr.slice 9 (.string s) none (some (.int .i64 (2 * (n9 : Int)))) none).run Try.prog W = .ok (.string (s.extract 0 (2 * n9))) W := fun W => by
            rw [run_slice_string_to_if (P := Try.prog) (w := W) 9 s .i64 (2 * (n9 : Int)) Try.underlying9, if_pos ⟨by omega, hq2⟩]
            rfl
          go_wp2
          go_region_with (first
            | (go_at_call 40; refine (HP.out _ (by repeat (first | exact Below.refl _ _ | apply Below.drew))).mono ?_; rintro e w10 ⟨a10, m10, c10, rfl, hcv10, hb10⟩))
          have hd9 : Below w9.heap.size w9 w9.drew := (Below.refl _ _).drew
          have hb0 := after (after (after (after (after (after HBEL.out B6.out) B7.out) B8.out) HBX.out) B9.out) (after hd9 hb10)
          have HBL := Lib.hid hb0
          clear hd9 hb10 hcv10 hb0 hsl hq hq2 hw2 hw3
          go_wp2_with (first
            | (go_at_call 28; refine (seal_any s _ (by omega)).mono ?_; rintro e w11 ⟨rfl, hb11⟩)
            | (go_at_call 26; refine (open_any (sealOf s) _ (by rw [sealOf_size]; omega)).mono ?_; rw [openOf_sealOf]; rintro e w12 ⟨rfl, hb12⟩))
          go_ret
          exact ⟨rfl, after (after HBL.out hb11) hb12⟩

end Go.Proofs.Ytallfhfgplgfpaa
