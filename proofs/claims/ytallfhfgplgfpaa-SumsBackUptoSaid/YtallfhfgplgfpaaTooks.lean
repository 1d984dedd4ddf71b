/-
  'took': Take of numbers of one type, twice, against the reference's: walked. Printed by a program of ours (gentook.py).
-/
import Derived.Test.YtallfhfgplgfpaaRTakes
import Derived.BigQuiet
import Derived.Deep.QuietTactic
namespace Go.Proofs.Ytallfhfgplgfpaa
open Go.RowKit

theorem Apped.apart {w w' : World} {a a' b : Option Addr} {B size n c : Nat} {xs : List Value} (h : Apped w w' a a') (ho : Own w B size b n c xs) (hne : b = none ∨ blockOf b ≠ blockOf a) : b = none ∨ blockOf b ≠ blockOf a' := by
  rcases hne with h0 | h0
  · exact .inl h0
  · rcases h.place with e | ⟨g, e, hg⟩
    · right; rw [e]; exact h0
    · rcases ho.row with ⟨h1, _⟩ | ⟨g', ha, _, h2, _⟩
      · exact .inl h1
      · right
        rw [e, ha]
        simp [blockOf]
        omega

theorem apart_of {w1 w' : World} {B size size' n c n' c' : Nat} {a b : Option Addr} {xs ys : List Value} (ha : Own w1 B size a n c xs) (hb : Own w' w1.heap.size size' b n' c' ys) : b = none ∨ blockOf b ≠ blockOf a := by
  rcases hb.row with ⟨h1, _⟩ | ⟨g', hb1, h2, _⟩
  · exact .inl h1
  · right
    rcases ha.row with ⟨h3, _⟩ | ⟨g, ha1, _, h4, _⟩
    · rw [h3, hb1]; simp [blockOf]
    · rw [ha1, hb1]; simp [blockOf]; omega

theorem apart_block {w : World} {B size n c : Nat} {b : Option Addr} {xs : List Value} {g o : Nat} (_h : Own w B size b n c xs) (hne : b = none ∨ blockOf b ≠ blockOf (some ⟨g, o, none⟩)) : ∀ g', b = some ⟨g', 0, none⟩ → g' ≠ g := by
  intro g' hb
  rcases hne with h0 | h0
  · rw [h0] at hb; cases hb
  · rw [hb] at h0
    simpa [blockOf] using h0

theorem takeOf_len (s : ByteArray) (p n : Int) (w : Nat) : (takeOf s p n w).1.length ≤ s.size := by
  unfold takeOf
  split
  · exact Nat.zero_le _
  · split
    · exact Nat.zero_le _
    · rename_i h1 h2
      rw [takesAt_length]
      obtain ⟨q, rfl⟩ := Int.eq_ofNat_of_zero_le (show 0 ≤ p by omega)
      obtain ⟨m, rfl⟩ := Int.eq_ofNat_of_zero_le (show 0 ≤ n by omega)
      refine few s.size q m w ?_
      intro h3
      apply h2
      rw [show (s.size : Int) - q = ((s.size - q : Nat) : Int) from by omega]
      exact_mod_cast h3

theorem takeOf_small (s : ByteArray) (p n : Int) (w : Nat) : ∀ x ∈ (takeOf s p n w).1, x < 256 ^ w := by
  unfold takeOf
  split
  · intro x hx; cases hx
  · split
    · intro x hx; cases hx
    · intro x hx
      obtain ⟨i, _, rfl⟩ := List.mem_map.1 hx
      refine Nat.lt_of_lt_of_le (numTop_lt _) (Nat.pow_le_pow_right (by omega) ?_)
      simp [segAt]
      omega

theorem drewN_below {w : World} (n : Nat) : Below w.heap.size w (w.drewN n) := below_drewN (Below.refl _ _) n

set_option maxRecDepth 20000 in
set_option maxHeartbeats 4000000 in
theorem took_u8 (s : ByteArray) (p n : Int) (w : World) (hs : s.size ≤ 2097152) (hpw : (Lit.int .i64 p).wf = true) (hnw : (Lit.int .i64 n).wf = true) :
    Calls Try.prog 31 #[.string s, .int .i64 p, .int .i64 n, .int .i64 1] w fun e w' => e = .returned (.bool true) ∧ Below w.heap.size w w' := by
  obtain ⟨i0, hi, hz0, hz1, hz2⟩ := info_parts info5n
  have hlen := takeOf_len s p n 1
  have hsmall := takeOf_small s p n 1
  have C1 := fun W => take_u8 s p n W hs hpw hnw
  have C2 := fun W => rtake_1 s p n W hs hpw hnw
  generalize takeOf s p n 1 = L at *
  obtain ⟨xs, er⟩ := L
  simp only at hlen hsmall C1 C2
  obtain ⟨M, hM⟩ : ∃ M, M = xs.length := ⟨_, rfl⟩
  have hMs : M ≤ 2097152 := by omega
  have HC1 := Lib.hid C1
  have HC2 := Lib.hid C2
  have HSM := Lib.hid hsmall
  have HM := Lib.hid hM
  clear hlen hsmall hpw hnw C1 C2 hM
  go_enter Try.func31, Try.ntmps31
  go_wp2_with fail
  refine (HC1.out _).mono ?_
  rintro e w1 ⟨a, ma, ca, rfl, hown1, hb1⟩
  obtain rfl : ma = M := by have := hown1.len; rw [HM.out]; simpa using this.symm
  go_wp2_with fail
  refine (HC1.out _).mono ?_
  rintro e w2 ⟨b, mb, cb, rfl, hown2, hb2⟩
  obtain rfl : mb = ma := by have := hown2.len; rw [HM.out]; simpa using this.symm
  go_wp2_with fail
  refine (HC2.out _).mono ?_
  rintro e w3 ⟨d, md, cd, rfl, hown3, hb3⟩
  obtain rfl : md = mb := by have := hown3.len; rw [HM.out]; simpa using this.symm
  have pab := apart_of hown1 hown2
  have pad := apart_of hown1 (hown3.mono hb2.size)
  have HA := Lib.hid ((hown1.below hb2).below hb3)
  have HB := Lib.hid (hown2.below hb3)
  have HD := Lib.hid hown3
  have HL := Lib.hid (after (after hb1 hb2) hb3)
  have PAB := Lib.hid pab
  have PAD := Lib.hid pad
  clear hown1 hown2 hown3 hb1 hb2 hb3 pab pad
  go_wp2
  go_loopw [15] (fun i wr => ∃ (k : Nat) (l : List Value), k ≤ md ∧ i = .int .i64 k ∧ (∀ j, k ≤ j → l[j]? = (xs.map (numV .u8))[j]?) ∧ Own wr w.heap.size 1 a md ca l ∧ Own wr w1.heap.size 1 b md cb (xs.map (numV .u8)) ∧ Own wr w2.heap.size 1 d md cd (xs.map (numV .u32)) ∧ Below w.heap.size w wr) (fun i _ => md - (intOf i).toNat)
  case atStart => exact ⟨0, _, Nat.zero_le _, rfl, fun _ _ => rfl, HA.out, HB.out, HD.out, HL.out⟩
  case round =>
    obtain ⟨k, l, hk, rfl, hl, hA, hB, hD, hbel⟩ := hrel
    by_cases hlt : k < md
    · obtain ⟨x, hx⟩ : ∃ x, xs[k]? = some x := ⟨_, List.getElem?_eq_getElem (by rw [← HM.out]; exact hlt)⟩
      have hxs : x < 256 := HSM.out x (List.mem_of_getElem? hx)
      obtain ⟨ga, hga, q1, q2, q3, q4⟩ := hA.addr (by have := hA.le; omega)
      obtain ⟨gd, hgd, r1, r2, r3, r4⟩ := hD.addr (by have := hD.le; omega)
      have hca : wr.cell? ⟨ga, k, none⟩ = some (.int .u8 x) := q3 k _ (by rw [hl k (Nat.le_refl _), List.getElem?_map, hx]; rfl)
      have hcd : wr.cell? ⟨gd, k, none⟩ = some (.int .u32 x) := r3 k _ (by rw [List.getElem?_map, hx]; rfl)
      have hf := (q4 k (by have := hA.le; omega)).2
      subst hga hgd
      have H1 := Lib.hid hl
      have H2 := Lib.hid hA
      have H3 := Lib.hid hB
      have H4 := Lib.hid hD
      have H5 := Lib.hid hbel
      have HX := Lib.hid hx
      clear hl hA hB hD hbel q3 q4 r3 r4 hx
      have h0 : (0 : Int) ≤ (k : Int) := by omega
      have h1 : (k : Int) < (md : Int) := by omega
      
      go_wp2
      go_quiet (fail)
      go_wp2
      go_roundw
      case rel =>
        have hq := drewN_below (w := wr) nq
        refine ⟨k + 1, l.set k _, by omega, by go_num, ?_, (H2.out.below hq).stored k hlt _, (H3.out.below hq).stored_other _ _ (apart_block H3.out PAB.out), (H4.out.below hq).stored_other _ _ (apart_block H4.out PAD.out), ?_⟩
        · intro j hj
          rw [List.getElem?_set_ne (by omega)]
          exact H1.out j (by omega)
        · exact (below_drewN H5.out nq).setCell (p := ⟨ga, k, none⟩) q1 _
      case measure => simp [intOf]; omega
    · obtain rfl : md = k := by omega
      have H2 := Lib.hid hA
      have H3 := Lib.hid hB
      have H4 := Lib.hid hD
      have H5 := Lib.hid hbel
      clear hl hA hB hD hbel
      go_wp2
      go_loopw [9, 83] (fun v i wr => ∃ (k : Nat) (a' : Option Addr) (c' : Nat) (l : List Value), k ≤ 9 ∧ i = .int .i64 k ∧ v = .slice a' (md + k) c' ∧ Own wr w.heap.size 1 a' (md + k) c' l ∧ Own wr w1.heap.size 1 b md cb (xs.map (numV .u8)) ∧ Own wr w2.heap.size 1 d md cd (xs.map (numV .u32)) ∧ Below w.heap.size w wr ∧ (b = none ∨ blockOf b ≠ blockOf a') ∧ (d = none ∨ blockOf d ≠ blockOf a')) (fun _ i _ => 9 - (intOf i).toNat)
      case atStart => exact ⟨0, a, ca, _, by omega, rfl, rfl, H2.out, H3.out, H4.out, H5.out, PAB.out, PAD.out⟩
      case round =>
        obtain ⟨k, a2, c2, l2, hk9, rfl, rfl, hA, hB, hD, hbel, pb, pd⟩ := hrel
        by_cases hlt : k < 9
        · have K1 := Lib.hid hB
          have K2 := Lib.hid hD
          have K3 := Lib.hid pb
          have K4 := Lib.hid pd
          clear hB hD pb pd
          go_wp2_with (at_builtin; refine wpList_app rfl _ _ 50 50 rfl 5 i0 (.int .u8 0) 1 1 Try.underlying50 hi hz0 hz1 hz2 rfl (by simp [Value.cells, Value.oneCell']) w.heap.size _ _ _ _ rfl (hA.alloc _) _ 1 [.int .u8 5] rfl (Src.ofCells Try.underlying50 _ _ _ _ rfl (Cells.new _ _ _) (by simp [Value.oneCell']) (by decide)) (by simp [maxLen]; omega) (by omega) (by have := hbel.size; simp; omega) ?_; intro a4 c4 w4 hown4 hap4; have hb4 := Lib.hid ((hbel.alloc hbel.size _).trans (hap4.below (hA.alloc _) (by have := hbel.size; simp; omega))); have HO4 := Lib.hid hown4; have K5 := Lib.hid (hap4.other (K1.out.alloc _) K3.out); have K6 := Lib.hid (hap4.other (K2.out.alloc _) K4.out); have K7 := Lib.hid (hap4.apart (K1.out.alloc _) K3.out); have K8 := Lib.hid (hap4.apart (K2.out.alloc _) K4.out); clear hown4 hap4 hA hbel)
          go_roundw
          case rel => exact ⟨k + 1, a4, c4, _, by omega, by go_num, rfl, HO4.out, K5.out, K6.out, hb4.out, K7.out, K8.out⟩
          case measure => simp [intOf]; omega
        · obtain rfl : k = 9 := by omega
          have K1 := Lib.hid hB
          have K2 := Lib.hid hD
          have K3 := Lib.hid hbel
          clear hA hB hD hbel pb pd
          go_wp2
          go_loopw [16] (fun i wr => ∃ (k : Nat), k ≤ md ∧ i = .int .i64 k ∧ Own wr w1.heap.size 1 b md cb (xs.map (numV .u8)) ∧ Own wr w2.heap.size 1 d md cd (xs.map (numV .u32)) ∧ Below w.heap.size w wr) (fun i _ => md - (intOf i).toNat)
          case atStart => exact ⟨0, Nat.zero_le _, rfl, K1.out, K2.out, K3.out⟩
          case round =>
            obtain ⟨k, hk, rfl, hB, hD, hbel⟩ := hrel
            by_cases hlt : k < md
            · obtain ⟨x, hx⟩ : ∃ x, xs[k]? = some x := ⟨_, List.getElem?_eq_getElem (by rw [← HM.out]; exact hlt)⟩
              have hxs : x < 256 := HSM.out x (List.mem_of_getElem? hx)
              obtain ⟨ga, hga, q1, q2, q3, q4⟩ := hB.addr (by have := hB.le; omega)
              obtain ⟨gd, hgd, r1, r2, r3, r4⟩ := hD.addr (by have := hD.le; omega)
              have hca : wr.cell? ⟨ga, k, none⟩ = some (.int .u8 x) := q3 k _ (by rw [List.getElem?_map, hx]; rfl)
              have hcd : wr.cell? ⟨gd, k, none⟩ = some (.int .u32 x) := r3 k _ (by rw [List.getElem?_map, hx]; rfl)
              subst hga hgd
              have H3 := Lib.hid hB
              have H4 := Lib.hid hD
              have H5 := Lib.hid hbel
              have HX := Lib.hid hx
              clear hB hD hbel q3 q4 r3 r4 hx
              have h0 : (0 : Int) ≤ (k : Int) := by omega
              have h1 : (k : Int) < (md : Int) := by omega
              
              go_wp2
              go_quiet (fail)
              go_wp2
              go_roundw
              case rel =>
                have hq := drewN_below (w := wr) nq
                exact ⟨k + 1, by omega, by go_num, H3.out.below hq, H4.out.below hq, below_drewN H5.out nq⟩
              case measure => simp [intOf]; omega
            · obtain rfl : md = k := by omega
              have H5 := Lib.hid hbel
              clear hB hD hbel
              go_wp2
              go_ret
              exact ⟨rfl, H5.out⟩

set_option maxRecDepth 20000 in
set_option maxHeartbeats 4000000 in
theorem took_u16 (s : ByteArray) (p n : Int) (w : World) (hs : s.size ≤ 2097152) (hpw : (Lit.int .i64 p).wf = true) (hnw : (Lit.int .i64 n).wf = true) :
    Calls Try.prog 32 #[.string s, .int .i64 p, .int .i64 n, .int .i64 2] w fun e w' => e = .returned (.bool true) ∧ Below w.heap.size w w' := by
  obtain ⟨i0, hi, hz0, hz1, hz2⟩ := info_parts info31n
  have hlen := takeOf_len s p n 2
  have hsmall := takeOf_small s p n 2
  have C1 := fun W => take_u16 s p n W hs hpw hnw
  have C2 := fun W => rtake_2 s p n W hs hpw hnw
  generalize takeOf s p n 2 = L at *
  obtain ⟨xs, er⟩ := L
  simp only at hlen hsmall C1 C2
  obtain ⟨M, hM⟩ : ∃ M, M = xs.length := ⟨_, rfl⟩
  have hMs : M ≤ 2097152 := by omega
  have HC1 := Lib.hid C1
  have HC2 := Lib.hid C2
  have HSM := Lib.hid hsmall
  have HM := Lib.hid hM
  clear hlen hsmall hpw hnw C1 C2 hM
  go_enter Try.func32, Try.ntmps32
  go_wp2_with fail
  refine (HC1.out _).mono ?_
  rintro e w1 ⟨a, ma, ca, rfl, hown1, hb1⟩
  obtain rfl : ma = M := by have := hown1.len; rw [HM.out]; simpa using this.symm
  go_wp2_with fail
  refine (HC1.out _).mono ?_
  rintro e w2 ⟨b, mb, cb, rfl, hown2, hb2⟩
  obtain rfl : mb = ma := by have := hown2.len; rw [HM.out]; simpa using this.symm
  go_wp2_with fail
  refine (HC2.out _).mono ?_
  rintro e w3 ⟨d, md, cd, rfl, hown3, hb3⟩
  obtain rfl : md = mb := by have := hown3.len; rw [HM.out]; simpa using this.symm
  have pab := apart_of hown1 hown2
  have pad := apart_of hown1 (hown3.mono hb2.size)
  have HA := Lib.hid ((hown1.below hb2).below hb3)
  have HB := Lib.hid (hown2.below hb3)
  have HD := Lib.hid hown3
  have HL := Lib.hid (after (after hb1 hb2) hb3)
  have PAB := Lib.hid pab
  have PAD := Lib.hid pad
  clear hown1 hown2 hown3 hb1 hb2 hb3 pab pad
  go_wp2
  go_loopw [15] (fun i wr => ∃ (k : Nat) (l : List Value), k ≤ md ∧ i = .int .i64 k ∧ (∀ j, k ≤ j → l[j]? = (xs.map (numV .u16))[j]?) ∧ Own wr w.heap.size 1 a md ca l ∧ Own wr w1.heap.size 1 b md cb (xs.map (numV .u16)) ∧ Own wr w2.heap.size 1 d md cd (xs.map (numV .u32)) ∧ Below w.heap.size w wr) (fun i _ => md - (intOf i).toNat)
  case atStart => exact ⟨0, _, Nat.zero_le _, rfl, fun _ _ => rfl, HA.out, HB.out, HD.out, HL.out⟩
  case round =>
    obtain ⟨k, l, hk, rfl, hl, hA, hB, hD, hbel⟩ := hrel
    by_cases hlt : k < md
    · obtain ⟨x, hx⟩ : ∃ x, xs[k]? = some x := ⟨_, List.getElem?_eq_getElem (by rw [← HM.out]; exact hlt)⟩
      have hxs : x < 65536 := HSM.out x (List.mem_of_getElem? hx)
      obtain ⟨ga, hga, q1, q2, q3, q4⟩ := hA.addr (by have := hA.le; omega)
      obtain ⟨gd, hgd, r1, r2, r3, r4⟩ := hD.addr (by have := hD.le; omega)
      have hca : wr.cell? ⟨ga, k, none⟩ = some (.int .u16 x) := q3 k _ (by rw [hl k (Nat.le_refl _), List.getElem?_map, hx]; rfl)
      have hcd : wr.cell? ⟨gd, k, none⟩ = some (.int .u32 x) := r3 k _ (by rw [List.getElem?_map, hx]; rfl)
      have hf := (q4 k (by have := hA.le; omega)).2
      subst hga hgd
      have H1 := Lib.hid hl
      have H2 := Lib.hid hA
      have H3 := Lib.hid hB
      have H4 := Lib.hid hD
      have H5 := Lib.hid hbel
      have HX := Lib.hid hx
      clear hl hA hB hD hbel q3 q4 r3 r4 hx
      have h0 : (0 : Int) ≤ (k : Int) := by omega
      have h1 : (k : Int) < (md : Int) := by omega
      
      go_wp2
      go_quiet (fail)
      go_wp2
      go_roundw
      case rel =>
        have hq := drewN_below (w := wr) nq
        refine ⟨k + 1, l.set k _, by omega, by go_num, ?_, (H2.out.below hq).stored k hlt _, (H3.out.below hq).stored_other _ _ (apart_block H3.out PAB.out), (H4.out.below hq).stored_other _ _ (apart_block H4.out PAD.out), ?_⟩
        · intro j hj
          rw [List.getElem?_set_ne (by omega)]
          exact H1.out j (by omega)
        · exact (below_drewN H5.out nq).setCell (p := ⟨ga, k, none⟩) q1 _
      case measure => simp [intOf]; omega
    · obtain rfl : md = k := by omega
      have H2 := Lib.hid hA
      have H3 := Lib.hid hB
      have H4 := Lib.hid hD
      have H5 := Lib.hid hbel
      clear hl hA hB hD hbel
      go_wp2
      go_loopw [9, 83] (fun v i wr => ∃ (k : Nat) (a' : Option Addr) (c' : Nat) (l : List Value), k ≤ 9 ∧ i = .int .i64 k ∧ v = .slice a' (md + k) c' ∧ Own wr w.heap.size 1 a' (md + k) c' l ∧ Own wr w1.heap.size 1 b md cb (xs.map (numV .u16)) ∧ Own wr w2.heap.size 1 d md cd (xs.map (numV .u32)) ∧ Below w.heap.size w wr ∧ (b = none ∨ blockOf b ≠ blockOf a') ∧ (d = none ∨ blockOf d ≠ blockOf a')) (fun _ i _ => 9 - (intOf i).toNat)
      case atStart => exact ⟨0, a, ca, _, by omega, rfl, rfl, H2.out, H3.out, H4.out, H5.out, PAB.out, PAD.out⟩
      case round =>
        obtain ⟨k, a2, c2, l2, hk9, rfl, rfl, hA, hB, hD, hbel, pb, pd⟩ := hrel
        by_cases hlt : k < 9
        · have K1 := Lib.hid hB
          have K2 := Lib.hid hD
          have K3 := Lib.hid pb
          have K4 := Lib.hid pd
          clear hB hD pb pd
          go_wp2_with (at_builtin; refine wpList_app rfl _ _ 52 52 rfl 31 i0 (.int .u16 0) 1 2 Try.underlying52 hi hz0 hz1 hz2 rfl (by simp [Value.cells, Value.oneCell']) w.heap.size _ _ _ _ rfl (hA.alloc _) _ 1 [.int .u16 5] rfl (Src.ofCells Try.underlying52 _ _ _ _ rfl (Cells.new _ _ _) (by simp [Value.oneCell']) (by decide)) (by simp [maxLen]; omega) (by omega) (by have := hbel.size; simp; omega) ?_; intro a4 c4 w4 hown4 hap4; have hb4 := Lib.hid ((hbel.alloc hbel.size _).trans (hap4.below (hA.alloc _) (by have := hbel.size; simp; omega))); have HO4 := Lib.hid hown4; have K5 := Lib.hid (hap4.other (K1.out.alloc _) K3.out); have K6 := Lib.hid (hap4.other (K2.out.alloc _) K4.out); have K7 := Lib.hid (hap4.apart (K1.out.alloc _) K3.out); have K8 := Lib.hid (hap4.apart (K2.out.alloc _) K4.out); clear hown4 hap4 hA hbel)
          go_roundw
          case rel => exact ⟨k + 1, a4, c4, _, by omega, by go_num, rfl, HO4.out, K5.out, K6.out, hb4.out, K7.out, K8.out⟩
          case measure => simp [intOf]; omega
        · obtain rfl : k = 9 := by omega
          have K1 := Lib.hid hB
          have K2 := Lib.hid hD
          have K3 := Lib.hid hbel
          clear hA hB hD hbel pb pd
          go_wp2
          go_loopw [16] (fun i wr => ∃ (k : Nat), k ≤ md ∧ i = .int .i64 k ∧ Own wr w1.heap.size 1 b md cb (xs.map (numV .u16)) ∧ Own wr w2.heap.size 1 d md cd (xs.map (numV .u32)) ∧ Below w.heap.size w wr) (fun i _ => md - (intOf i).toNat)
          case atStart => exact ⟨0, Nat.zero_le _, rfl, K1.out, K2.out, K3.out⟩
          case round =>
            obtain ⟨k, hk, rfl, hB, hD, hbel⟩ := hrel
            by_cases hlt : k < md
            · obtain ⟨x, hx⟩ : ∃ x, xs[k]? = some x := ⟨_, List.getElem?_eq_getElem (by rw [← HM.out]; exact hlt)⟩
              have hxs : x < 65536 := HSM.out x (List.mem_of_getElem? hx)
              obtain ⟨ga, hga, q1, q2, q3, q4⟩ := hB.addr (by have := hB.le; omega)
              obtain ⟨gd, hgd, r1, r2, r3, r4⟩ := hD.addr (by have := hD.le; omega)
              have hca : wr.cell? ⟨ga, k, none⟩ = some (.int .u16 x) := q3 k _ (by rw [List.getElem?_map, hx]; rfl)
              have hcd : wr.cell? ⟨gd, k, none⟩ = some (.int .u32 x) := r3 k _ (by rw [List.getElem?_map, hx]; rfl)
              subst hga hgd
              have H3 := Lib.hid hB
              have H4 := Lib.hid hD
              have H5 := Lib.hid hbel
              have HX := Lib.hid hx
              clear hB hD hbel q3 q4 r3 r4 hx
              have h0 : (0 : Int) ≤ (k : Int) := by omega
              have h1 : (k : Int) < (md : Int) := by omega
              
              go_wp2
              go_quiet (fail)
              go_wp2
              go_roundw
              case rel =>
                have hq := drewN_below (w := wr) nq
                exact ⟨k + 1, by omega, by go_num, H3.out.below hq, H4.out.below hq, below_drewN H5.out nq⟩
              case measure => simp [intOf]; omega
            · obtain rfl : md = k := by omega
              have H5 := Lib.hid hbel
              clear hB hD hbel
              go_wp2
              go_ret
              exact ⟨rfl, H5.out⟩

set_option maxRecDepth 20000 in
set_option maxHeartbeats 4000000 in
theorem took_u32 (s : ByteArray) (p n : Int) (w : World) (hs : s.size ≤ 2097152) (hpw : (Lit.int .i64 p).wf = true) (hnw : (Lit.int .i64 n).wf = true) :
    Calls Try.prog 33 #[.string s, .int .i64 p, .int .i64 n, .int .i64 4] w fun e w' => e = .returned (.bool true) ∧ Below w.heap.size w w' := by
  obtain ⟨i0, hi, hz0, hz1, hz2⟩ := info_parts info23n
  have hlen := takeOf_len s p n 4
  have hsmall := takeOf_small s p n 4
  have C1 := fun W => take_u32 s p n W hs hpw hnw
  have C2 := fun W => rtake_4 s p n W hs hpw hnw
  generalize takeOf s p n 4 = L at *
  obtain ⟨xs, er⟩ := L
  simp only at hlen hsmall C1 C2
  obtain ⟨M, hM⟩ : ∃ M, M = xs.length := ⟨_, rfl⟩
  have hMs : M ≤ 2097152 := by omega
  have HC1 := Lib.hid C1
  have HC2 := Lib.hid C2
  have HSM := Lib.hid hsmall
  have HM := Lib.hid hM
  clear hlen hsmall hpw hnw C1 C2 hM
  go_enter Try.func33, Try.ntmps33
  go_wp2_with fail
  refine (HC1.out _).mono ?_
  rintro e w1 ⟨a, ma, ca, rfl, hown1, hb1⟩
  obtain rfl : ma = M := by have := hown1.len; rw [HM.out]; simpa using this.symm
  go_wp2_with fail
  refine (HC1.out _).mono ?_
  rintro e w2 ⟨b, mb, cb, rfl, hown2, hb2⟩
  obtain rfl : mb = ma := by have := hown2.len; rw [HM.out]; simpa using this.symm
  go_wp2_with fail
  refine (HC2.out _).mono ?_
  rintro e w3 ⟨d, md, cd, rfl, hown3, hb3⟩
  obtain rfl : md = mb := by have := hown3.len; rw [HM.out]; simpa using this.symm
  have pab := apart_of hown1 hown2
  have pad := apart_of hown1 (hown3.mono hb2.size)
  have HA := Lib.hid ((hown1.below hb2).below hb3)
  have HB := Lib.hid (hown2.below hb3)
  have HD := Lib.hid hown3
  have HL := Lib.hid (after (after hb1 hb2) hb3)
  have PAB := Lib.hid pab
  have PAD := Lib.hid pad
  clear hown1 hown2 hown3 hb1 hb2 hb3 pab pad
  go_wp2
  go_loopw [15] (fun i wr => ∃ (k : Nat) (l : List Value), k ≤ md ∧ i = .int .i64 k ∧ (∀ j, k ≤ j → l[j]? = (xs.map (numV .u32))[j]?) ∧ Own wr w.heap.size 1 a md ca l ∧ Own wr w1.heap.size 1 b md cb (xs.map (numV .u32)) ∧ Own wr w2.heap.size 1 d md cd (xs.map (numV .u32)) ∧ Below w.heap.size w wr) (fun i _ => md - (intOf i).toNat)
  case atStart => exact ⟨0, _, Nat.zero_le _, rfl, fun _ _ => rfl, HA.out, HB.out, HD.out, HL.out⟩
  case round =>
    obtain ⟨k, l, hk, rfl, hl, hA, hB, hD, hbel⟩ := hrel
    by_cases hlt : k < md
    · obtain ⟨x, hx⟩ : ∃ x, xs[k]? = some x := ⟨_, List.getElem?_eq_getElem (by rw [← HM.out]; exact hlt)⟩
      have hxs : x < 4294967296 := HSM.out x (List.mem_of_getElem? hx)
      obtain ⟨ga, hga, q1, q2, q3, q4⟩ := hA.addr (by have := hA.le; omega)
      obtain ⟨gd, hgd, r1, r2, r3, r4⟩ := hD.addr (by have := hD.le; omega)
      have hca : wr.cell? ⟨ga, k, none⟩ = some (.int .u32 x) := q3 k _ (by rw [hl k (Nat.le_refl _), List.getElem?_map, hx]; rfl)
      have hcd : wr.cell? ⟨gd, k, none⟩ = some (.int .u32 x) := r3 k _ (by rw [List.getElem?_map, hx]; rfl)
      have hf := (q4 k (by have := hA.le; omega)).2
      subst hga hgd
      have H1 := Lib.hid hl
      have H2 := Lib.hid hA
      have H3 := Lib.hid hB
      have H4 := Lib.hid hD
      have H5 := Lib.hid hbel
      have HX := Lib.hid hx
      clear hl hA hB hD hbel q3 q4 r3 r4 hx
      have h0 : (0 : Int) ≤ (k : Int) := by omega
      have h1 : (k : Int) < (md : Int) := by omega
      
      go_wp2
      go_quiet (fail)
      go_wp2
      go_roundw
      case rel =>
        have hq := drewN_below (w := wr) nq
        refine ⟨k + 1, l.set k _, by omega, by go_num, ?_, (H2.out.below hq).stored k hlt _, (H3.out.below hq).stored_other _ _ (apart_block H3.out PAB.out), (H4.out.below hq).stored_other _ _ (apart_block H4.out PAD.out), ?_⟩
        · intro j hj
          rw [List.getElem?_set_ne (by omega)]
          exact H1.out j (by omega)
        · exact (below_drewN H5.out nq).setCell (p := ⟨ga, k, none⟩) q1 _
      case measure => simp [intOf]; omega
    · obtain rfl : md = k := by omega
      have H2 := Lib.hid hA
      have H3 := Lib.hid hB
      have H4 := Lib.hid hD
      have H5 := Lib.hid hbel
      clear hl hA hB hD hbel
      go_wp2
      go_loopw [9, 82] (fun v i wr => ∃ (k : Nat) (a' : Option Addr) (c' : Nat) (l : List Value), k ≤ 9 ∧ i = .int .i64 k ∧ v = .slice a' (md + k) c' ∧ Own wr w.heap.size 1 a' (md + k) c' l ∧ Own wr w1.heap.size 1 b md cb (xs.map (numV .u32)) ∧ Own wr w2.heap.size 1 d md cd (xs.map (numV .u32)) ∧ Below w.heap.size w wr ∧ (b = none ∨ blockOf b ≠ blockOf a') ∧ (d = none ∨ blockOf d ≠ blockOf a')) (fun _ i _ => 9 - (intOf i).toNat)
      case atStart => exact ⟨0, a, ca, _, by omega, rfl, rfl, H2.out, H3.out, H4.out, H5.out, PAB.out, PAD.out⟩
      case round =>
        obtain ⟨k, a2, c2, l2, hk9, rfl, rfl, hA, hB, hD, hbel, pb, pd⟩ := hrel
        by_cases hlt : k < 9
        · have K1 := Lib.hid hB
          have K2 := Lib.hid hD
          have K3 := Lib.hid pb
          have K4 := Lib.hid pd
          clear hB hD pb pd
          go_wp2_with (at_builtin; refine wpList_app rfl _ _ 29 29 rfl 23 i0 (.int .u32 0) 1 4 Try.underlying29 hi hz0 hz1 hz2 rfl (by simp [Value.cells, Value.oneCell']) w.heap.size _ _ _ _ rfl (hA.alloc _) _ 1 [.int .u32 5] rfl (Src.ofCells Try.underlying29 _ _ _ _ rfl (Cells.new _ _ _) (by simp [Value.oneCell']) (by decide)) (by simp [maxLen]; omega) (by omega) (by have := hbel.size; simp; omega) ?_; intro a4 c4 w4 hown4 hap4; have hb4 := Lib.hid ((hbel.alloc hbel.size _).trans (hap4.below (hA.alloc _) (by have := hbel.size; simp; omega))); have HO4 := Lib.hid hown4; have K5 := Lib.hid (hap4.other (K1.out.alloc _) K3.out); have K6 := Lib.hid (hap4.other (K2.out.alloc _) K4.out); have K7 := Lib.hid (hap4.apart (K1.out.alloc _) K3.out); have K8 := Lib.hid (hap4.apart (K2.out.alloc _) K4.out); clear hown4 hap4 hA hbel)
          go_roundw
          case rel => exact ⟨k + 1, a4, c4, _, by omega, by go_num, rfl, HO4.out, K5.out, K6.out, hb4.out, K7.out, K8.out⟩
          case measure => simp [intOf]; omega
        · obtain rfl : k = 9 := by omega
          have K1 := Lib.hid hB
          have K2 := Lib.hid hD
          have K3 := Lib.hid hbel
          clear hA hB hD hbel pb pd
          go_wp2
          go_loopw [16] (fun i wr => ∃ (k : Nat), k ≤ md ∧ i = .int .i64 k ∧ Own wr w1.heap.size 1 b md cb (xs.map (numV .u32)) ∧ Own wr w2.heap.size 1 d md cd (xs.map (numV .u32)) ∧ Below w.heap.size w wr) (fun i _ => md - (intOf i).toNat)
          case atStart => exact ⟨0, Nat.zero_le _, rfl, K1.out, K2.out, K3.out⟩
          case round =>
            obtain ⟨k, hk, rfl, hB, hD, hbel⟩ := hrel
            by_cases hlt : k < md
            · obtain ⟨x, hx⟩ : ∃ x, xs[k]? = some x := ⟨_, List.getElem?_eq_getElem (by rw [← HM.out]; exact hlt)⟩
              have hxs : x < 4294967296 := HSM.out x (List.mem_of_getElem? hx)
              obtain ⟨ga, hga, q1, q2, q3, q4⟩ := hB.addr (by have := hB.le; omega)
              obtain ⟨gd, hgd, r1, r2, r3, r4⟩ := hD.addr (by have := hD.le; omega)
              have hca : wr.cell? ⟨ga, k, none⟩ = some (.int .u32 x) := q3 k _ (by rw [List.getElem?_map, hx]; rfl)
              have hcd : wr.cell? ⟨gd, k, none⟩ = some (.int .u32 x) := r3 k _ (by rw [List.getElem?_map, hx]; rfl)
              subst hga hgd
              have H3 := Lib.hid hB
              have H4 := Lib.hid hD
              have H5 := Lib.hid hbel
              have HX := Lib.hid hx
              clear hB hD hbel q3 q4 r3 r4 hx
              have h0 : (0 : Int) ≤ (k : Int) := by omega
              have h1 : (k : Int) < (md : Int) := by omega
              
              go_wp2
              go_quiet (fail)
              go_wp2
              go_roundw
              case rel =>
                have hq := drewN_below (w := wr) nq
                exact ⟨k + 1, by omega, by go_num, H3.out.below hq, H4.out.below hq, below_drewN H5.out nq⟩
              case measure => simp [intOf]; omega
            · obtain rfl : md = k := by omega
              have H5 := Lib.hid hbel
              clear hB hD hbel
              go_wp2
              go_ret
              exact ⟨rfl, H5.out⟩

set_option maxRecDepth 20000 in
set_option maxHeartbeats 4000000 in
theorem took_small (s : ByteArray) (p n : Int) (w : World) (hs : s.size ≤ 2097152) (hpw : (Lit.int .i64 p).wf = true) (hnw : (Lit.int .i64 n).wf = true) :
    Calls Try.prog 34 #[.string s, .int .i64 p, .int .i64 n, .int .i64 1] w fun e w' => e = .returned (.bool true) ∧ Below w.heap.size w w' := by
  obtain ⟨i0, hi, hz0, hz1, hz2⟩ := info_parts info32n
  have hlen := takeOf_len s p n 1
  have hsmall := takeOf_small s p n 1
  have C1 := fun W => take_small s p n W hs hpw hnw
  have C2 := fun W => rtake_1 s p n W hs hpw hnw
  generalize takeOf s p n 1 = L at *
  obtain ⟨xs, er⟩ := L
  simp only at hlen hsmall C1 C2
  obtain ⟨M, hM⟩ : ∃ M, M = xs.length := ⟨_, rfl⟩
  have hMs : M ≤ 2097152 := by omega
  have HC1 := Lib.hid C1
  have HC2 := Lib.hid C2
  have HSM := Lib.hid hsmall
  have HM := Lib.hid hM
  clear hlen hsmall hpw hnw C1 C2 hM
  go_enter Try.func34, Try.ntmps34
  go_wp2_with fail
  refine (HC1.out _).mono ?_
  rintro e w1 ⟨a, ma, ca, rfl, hown1, hb1⟩
  obtain rfl : ma = M := by have := hown1.len; rw [HM.out]; simpa using this.symm
  go_wp2_with fail
  refine (HC1.out _).mono ?_
  rintro e w2 ⟨b, mb, cb, rfl, hown2, hb2⟩
  obtain rfl : mb = ma := by have := hown2.len; rw [HM.out]; simpa using this.symm
  go_wp2_with fail
  refine (HC2.out _).mono ?_
  rintro e w3 ⟨d, md, cd, rfl, hown3, hb3⟩
  obtain rfl : md = mb := by have := hown3.len; rw [HM.out]; simpa using this.symm
  have pab := apart_of hown1 hown2
  have pad := apart_of hown1 (hown3.mono hb2.size)
  have HA := Lib.hid ((hown1.below hb2).below hb3)
  have HB := Lib.hid (hown2.below hb3)
  have HD := Lib.hid hown3
  have HL := Lib.hid (after (after hb1 hb2) hb3)
  have PAB := Lib.hid pab
  have PAD := Lib.hid pad
  clear hown1 hown2 hown3 hb1 hb2 hb3 pab pad
  go_wp2
  go_loopw [15] (fun i wr => ∃ (k : Nat) (l : List Value), k ≤ md ∧ i = .int .i64 k ∧ (∀ j, k ≤ j → l[j]? = (xs.map (numV .u8))[j]?) ∧ Own wr w.heap.size 1 a md ca l ∧ Own wr w1.heap.size 1 b md cb (xs.map (numV .u8)) ∧ Own wr w2.heap.size 1 d md cd (xs.map (numV .u32)) ∧ Below w.heap.size w wr) (fun i _ => md - (intOf i).toNat)
  case atStart => exact ⟨0, _, Nat.zero_le _, rfl, fun _ _ => rfl, HA.out, HB.out, HD.out, HL.out⟩
  case round =>
    obtain ⟨k, l, hk, rfl, hl, hA, hB, hD, hbel⟩ := hrel
    by_cases hlt : k < md
    · obtain ⟨x, hx⟩ : ∃ x, xs[k]? = some x := ⟨_, List.getElem?_eq_getElem (by rw [← HM.out]; exact hlt)⟩
      have hxs : x < 256 := HSM.out x (List.mem_of_getElem? hx)
      obtain ⟨ga, hga, q1, q2, q3, q4⟩ := hA.addr (by have := hA.le; omega)
      obtain ⟨gd, hgd, r1, r2, r3, r4⟩ := hD.addr (by have := hD.le; omega)
      have hca : wr.cell? ⟨ga, k, none⟩ = some (.int .u8 x) := q3 k _ (by rw [hl k (Nat.le_refl _), List.getElem?_map, hx]; rfl)
      have hcd : wr.cell? ⟨gd, k, none⟩ = some (.int .u32 x) := r3 k _ (by rw [List.getElem?_map, hx]; rfl)
      have hf := (q4 k (by have := hA.le; omega)).2
      subst hga hgd
      have H1 := Lib.hid hl
      have H2 := Lib.hid hA
      have H3 := Lib.hid hB
      have H4 := Lib.hid hD
      have H5 := Lib.hid hbel
      have HX := Lib.hid hx
      clear hl hA hB hD hbel q3 q4 r3 r4 hx
      have h0 : (0 : Int) ≤ (k : Int) := by omega
      have h1 : (k : Int) < (md : Int) := by omega
      
      go_wp2
      go_quiet (fail)
      go_wp2
      go_roundw
      case rel =>
        have hq := drewN_below (w := wr) nq
        refine ⟨k + 1, l.set k _, by omega, by go_num, ?_, (H2.out.below hq).stored k hlt _, (H3.out.below hq).stored_other _ _ (apart_block H3.out PAB.out), (H4.out.below hq).stored_other _ _ (apart_block H4.out PAD.out), ?_⟩
        · intro j hj
          rw [List.getElem?_set_ne (by omega)]
          exact H1.out j (by omega)
        · exact (below_drewN H5.out nq).setCell (p := ⟨ga, k, none⟩) q1 _
      case measure => simp [intOf]; omega
    · obtain rfl : md = k := by omega
      have H2 := Lib.hid hA
      have H3 := Lib.hid hB
      have H4 := Lib.hid hD
      have H5 := Lib.hid hbel
      clear hl hA hB hD hbel
      go_wp2
      go_loopw [9, 83] (fun v i wr => ∃ (k : Nat) (a' : Option Addr) (c' : Nat) (l : List Value), k ≤ 9 ∧ i = .int .i64 k ∧ v = .slice a' (md + k) c' ∧ Own wr w.heap.size 1 a' (md + k) c' l ∧ Own wr w1.heap.size 1 b md cb (xs.map (numV .u8)) ∧ Own wr w2.heap.size 1 d md cd (xs.map (numV .u32)) ∧ Below w.heap.size w wr ∧ (b = none ∨ blockOf b ≠ blockOf a') ∧ (d = none ∨ blockOf d ≠ blockOf a')) (fun _ i _ => 9 - (intOf i).toNat)
      case atStart => exact ⟨0, a, ca, _, by omega, rfl, rfl, H2.out, H3.out, H4.out, H5.out, PAB.out, PAD.out⟩
      case round =>
        obtain ⟨k, a2, c2, l2, hk9, rfl, rfl, hA, hB, hD, hbel, pb, pd⟩ := hrel
        by_cases hlt : k < 9
        · have K1 := Lib.hid hB
          have K2 := Lib.hid hD
          have K3 := Lib.hid pb
          have K4 := Lib.hid pd
          clear hB hD pb pd
          go_wp2_with (at_builtin; refine wpList_app rfl _ _ 72 72 rfl 32 i0 (.int .u8 0) 1 1 Try.underlying72 hi hz0 hz1 hz2 rfl (by simp [Value.cells, Value.oneCell']) w.heap.size _ _ _ _ rfl (hA.alloc _) _ 1 [.int .u8 5] rfl (Src.ofCells Try.underlying72 _ _ _ _ rfl (Cells.new _ _ _) (by simp [Value.oneCell']) (by decide)) (by simp [maxLen]; omega) (by omega) (by have := hbel.size; simp; omega) ?_; intro a4 c4 w4 hown4 hap4; have hb4 := Lib.hid ((hbel.alloc hbel.size _).trans (hap4.below (hA.alloc _) (by have := hbel.size; simp; omega))); have HO4 := Lib.hid hown4; have K5 := Lib.hid (hap4.other (K1.out.alloc _) K3.out); have K6 := Lib.hid (hap4.other (K2.out.alloc _) K4.out); have K7 := Lib.hid (hap4.apart (K1.out.alloc _) K3.out); have K8 := Lib.hid (hap4.apart (K2.out.alloc _) K4.out); clear hown4 hap4 hA hbel)
          go_roundw
          case rel => exact ⟨k + 1, a4, c4, _, by omega, by go_num, rfl, HO4.out, K5.out, K6.out, hb4.out, K7.out, K8.out⟩
          case measure => simp [intOf]; omega
        · obtain rfl : k = 9 := by omega
          have K1 := Lib.hid hB
          have K2 := Lib.hid hD
          have K3 := Lib.hid hbel
          clear hA hB hD hbel pb pd
          go_wp2
          go_loopw [16] (fun i wr => ∃ (k : Nat), k ≤ md ∧ i = .int .i64 k ∧ Own wr w1.heap.size 1 b md cb (xs.map (numV .u8)) ∧ Own wr w2.heap.size 1 d md cd (xs.map (numV .u32)) ∧ Below w.heap.size w wr) (fun i _ => md - (intOf i).toNat)
          case atStart => exact ⟨0, Nat.zero_le _, rfl, K1.out, K2.out, K3.out⟩
          case round =>
            obtain ⟨k, hk, rfl, hB, hD, hbel⟩ := hrel
            by_cases hlt : k < md
            · obtain ⟨x, hx⟩ : ∃ x, xs[k]? = some x := ⟨_, List.getElem?_eq_getElem (by rw [← HM.out]; exact hlt)⟩
              have hxs : x < 256 := HSM.out x (List.mem_of_getElem? hx)
              obtain ⟨ga, hga, q1, q2, q3, q4⟩ := hB.addr (by have := hB.le; omega)
              obtain ⟨gd, hgd, r1, r2, r3, r4⟩ := hD.addr (by have := hD.le; omega)
              have hca : wr.cell? ⟨ga, k, none⟩ = some (.int .u8 x) := q3 k _ (by rw [List.getElem?_map, hx]; rfl)
              have hcd : wr.cell? ⟨gd, k, none⟩ = some (.int .u32 x) := r3 k _ (by rw [List.getElem?_map, hx]; rfl)
              subst hga hgd
              have H3 := Lib.hid hB
              have H4 := Lib.hid hD
              have H5 := Lib.hid hbel
              have HX := Lib.hid hx
              clear hB hD hbel q3 q4 r3 r4 hx
              have h0 : (0 : Int) ≤ (k : Int) := by omega
              have h1 : (k : Int) < (md : Int) := by omega
              
              go_wp2
              go_quiet (fail)
              go_wp2
              go_roundw
              case rel =>
                have hq := drewN_below (w := wr) nq
                exact ⟨k + 1, by omega, by go_num, H3.out.below hq, H4.out.below hq, below_drewN H5.out nq⟩
              case measure => simp [intOf]; omega
            · obtain rfl : md = k := by omega
              have H5 := Lib.hid hbel
              clear hB hD hbel
              go_wp2
              go_ret
              exact ⟨rfl, H5.out⟩

set_option maxRecDepth 20000 in
set_option maxHeartbeats 4000000 in
theorem took_middle (s : ByteArray) (p n : Int) (w : World) (hs : s.size ≤ 2097152) (hpw : (Lit.int .i64 p).wf = true) (hnw : (Lit.int .i64 n).wf = true) :
    Calls Try.prog 35 #[.string s, .int .i64 p, .int .i64 n, .int .i64 2] w fun e w' => e = .returned (.bool true) ∧ Below w.heap.size w w' := by
  obtain ⟨i0, hi, hz0, hz1, hz2⟩ := info_parts info33n
  have hlen := takeOf_len s p n 2
  have hsmall := takeOf_small s p n 2
  have C1 := fun W => take_middle s p n W hs hpw hnw
  have C2 := fun W => rtake_2 s p n W hs hpw hnw
  generalize takeOf s p n 2 = L at *
  obtain ⟨xs, er⟩ := L
  simp only at hlen hsmall C1 C2
  obtain ⟨M, hM⟩ : ∃ M, M = xs.length := ⟨_, rfl⟩
  have hMs : M ≤ 2097152 := by omega
  have HC1 := Lib.hid C1
  have HC2 := Lib.hid C2
  have HSM := Lib.hid hsmall
  have HM := Lib.hid hM
  clear hlen hsmall hpw hnw C1 C2 hM
  go_enter Try.func35, Try.ntmps35
  go_wp2_with fail
  refine (HC1.out _).mono ?_
  rintro e w1 ⟨a, ma, ca, rfl, hown1, hb1⟩
  obtain rfl : ma = M := by have := hown1.len; rw [HM.out]; simpa using this.symm
  go_wp2_with fail
  refine (HC1.out _).mono ?_
  rintro e w2 ⟨b, mb, cb, rfl, hown2, hb2⟩
  obtain rfl : mb = ma := by have := hown2.len; rw [HM.out]; simpa using this.symm
  go_wp2_with fail
  refine (HC2.out _).mono ?_
  rintro e w3 ⟨d, md, cd, rfl, hown3, hb3⟩
  obtain rfl : md = mb := by have := hown3.len; rw [HM.out]; simpa using this.symm
  have pab := apart_of hown1 hown2
  have pad := apart_of hown1 (hown3.mono hb2.size)
  have HA := Lib.hid ((hown1.below hb2).below hb3)
  have HB := Lib.hid (hown2.below hb3)
  have HD := Lib.hid hown3
  have HL := Lib.hid (after (after hb1 hb2) hb3)
  have PAB := Lib.hid pab
  have PAD := Lib.hid pad
  clear hown1 hown2 hown3 hb1 hb2 hb3 pab pad
  go_wp2
  go_loopw [15] (fun i wr => ∃ (k : Nat) (l : List Value), k ≤ md ∧ i = .int .i64 k ∧ (∀ j, k ≤ j → l[j]? = (xs.map (numV .u16))[j]?) ∧ Own wr w.heap.size 1 a md ca l ∧ Own wr w1.heap.size 1 b md cb (xs.map (numV .u16)) ∧ Own wr w2.heap.size 1 d md cd (xs.map (numV .u32)) ∧ Below w.heap.size w wr) (fun i _ => md - (intOf i).toNat)
  case atStart => exact ⟨0, _, Nat.zero_le _, rfl, fun _ _ => rfl, HA.out, HB.out, HD.out, HL.out⟩
  case round =>
    obtain ⟨k, l, hk, rfl, hl, hA, hB, hD, hbel⟩ := hrel
    by_cases hlt : k < md
    · obtain ⟨x, hx⟩ : ∃ x, xs[k]? = some x := ⟨_, List.getElem?_eq_getElem (by rw [← HM.out]; exact hlt)⟩
      have hxs : x < 65536 := HSM.out x (List.mem_of_getElem? hx)
      obtain ⟨ga, hga, q1, q2, q3, q4⟩ := hA.addr (by have := hA.le; omega)
      obtain ⟨gd, hgd, r1, r2, r3, r4⟩ := hD.addr (by have := hD.le; omega)
      have hca : wr.cell? ⟨ga, k, none⟩ = some (.int .u16 x) := q3 k _ (by rw [hl k (Nat.le_refl _), List.getElem?_map, hx]; rfl)
      have hcd : wr.cell? ⟨gd, k, none⟩ = some (.int .u32 x) := r3 k _ (by rw [List.getElem?_map, hx]; rfl)
      have hf := (q4 k (by have := hA.le; omega)).2
      subst hga hgd
      have H1 := Lib.hid hl
      have H2 := Lib.hid hA
      have H3 := Lib.hid hB
      have H4 := Lib.hid hD
      have H5 := Lib.hid hbel
      have HX := Lib.hid hx
      clear hl hA hB hD hbel q3 q4 r3 r4 hx
      have h0 : (0 : Int) ≤ (k : Int) := by omega
      have h1 : (k : Int) < (md : Int) := by omega
      
      go_wp2
      go_quiet (fail)
      go_wp2
      go_roundw
      case rel =>
        have hq := drewN_below (w := wr) nq
        refine ⟨k + 1, l.set k _, by omega, by go_num, ?_, (H2.out.below hq).stored k hlt _, (H3.out.below hq).stored_other _ _ (apart_block H3.out PAB.out), (H4.out.below hq).stored_other _ _ (apart_block H4.out PAD.out), ?_⟩
        · intro j hj
          rw [List.getElem?_set_ne (by omega)]
          exact H1.out j (by omega)
        · exact (below_drewN H5.out nq).setCell (p := ⟨ga, k, none⟩) q1 _
      case measure => simp [intOf]; omega
    · obtain rfl : md = k := by omega
      have H2 := Lib.hid hA
      have H3 := Lib.hid hB
      have H4 := Lib.hid hD
      have H5 := Lib.hid hbel
      clear hl hA hB hD hbel
      go_wp2
      go_loopw [9, 83] (fun v i wr => ∃ (k : Nat) (a' : Option Addr) (c' : Nat) (l : List Value), k ≤ 9 ∧ i = .int .i64 k ∧ v = .slice a' (md + k) c' ∧ Own wr w.heap.size 1 a' (md + k) c' l ∧ Own wr w1.heap.size 1 b md cb (xs.map (numV .u16)) ∧ Own wr w2.heap.size 1 d md cd (xs.map (numV .u32)) ∧ Below w.heap.size w wr ∧ (b = none ∨ blockOf b ≠ blockOf a') ∧ (d = none ∨ blockOf d ≠ blockOf a')) (fun _ i _ => 9 - (intOf i).toNat)
      case atStart => exact ⟨0, a, ca, _, by omega, rfl, rfl, H2.out, H3.out, H4.out, H5.out, PAB.out, PAD.out⟩
      case round =>
        obtain ⟨k, a2, c2, l2, hk9, rfl, rfl, hA, hB, hD, hbel, pb, pd⟩ := hrel
        by_cases hlt : k < 9
        · have K1 := Lib.hid hB
          have K2 := Lib.hid hD
          have K3 := Lib.hid pb
          have K4 := Lib.hid pd
          clear hB hD pb pd
          go_wp2_with (at_builtin; refine wpList_app rfl _ _ 74 74 rfl 33 i0 (.int .u16 0) 1 2 Try.underlying74 hi hz0 hz1 hz2 rfl (by simp [Value.cells, Value.oneCell']) w.heap.size _ _ _ _ rfl (hA.alloc _) _ 1 [.int .u16 5] rfl (Src.ofCells Try.underlying74 _ _ _ _ rfl (Cells.new _ _ _) (by simp [Value.oneCell']) (by decide)) (by simp [maxLen]; omega) (by omega) (by have := hbel.size; simp; omega) ?_; intro a4 c4 w4 hown4 hap4; have hb4 := Lib.hid ((hbel.alloc hbel.size _).trans (hap4.below (hA.alloc _) (by have := hbel.size; simp; omega))); have HO4 := Lib.hid hown4; have K5 := Lib.hid (hap4.other (K1.out.alloc _) K3.out); have K6 := Lib.hid (hap4.other (K2.out.alloc _) K4.out); have K7 := Lib.hid (hap4.apart (K1.out.alloc _) K3.out); have K8 := Lib.hid (hap4.apart (K2.out.alloc _) K4.out); clear hown4 hap4 hA hbel)
          go_roundw
          case rel => exact ⟨k + 1, a4, c4, _, by omega, by go_num, rfl, HO4.out, K5.out, K6.out, hb4.out, K7.out, K8.out⟩
          case measure => simp [intOf]; omega
        · obtain rfl : k = 9 := by omega
          have K1 := Lib.hid hB
          have K2 := Lib.hid hD
          have K3 := Lib.hid hbel
          clear hA hB hD hbel pb pd
          go_wp2
          go_loopw [16] (fun i wr => ∃ (k : Nat), k ≤ md ∧ i = .int .i64 k ∧ Own wr w1.heap.size 1 b md cb (xs.map (numV .u16)) ∧ Own wr w2.heap.size 1 d md cd (xs.map (numV .u32)) ∧ Below w.heap.size w wr) (fun i _ => md - (intOf i).toNat)
          case atStart => exact ⟨0, Nat.zero_le _, rfl, K1.out, K2.out, K3.out⟩
          case round =>
            obtain ⟨k, hk, rfl, hB, hD, hbel⟩ := hrel
            by_cases hlt : k < md
            · obtain ⟨x, hx⟩ : ∃ x, xs[k]? = some x := ⟨_, List.getElem?_eq_getElem (by rw [← HM.out]; exact hlt)⟩
              have hxs : x < 65536 := HSM.out x (List.mem_of_getElem? hx)
              obtain ⟨ga, hga, q1, q2, q3, q4⟩ := hB.addr (by have := hB.le; omega)
              obtain ⟨gd, hgd, r1, r2, r3, r4⟩ := hD.addr (by have := hD.le; omega)
              have hca : wr.cell? ⟨ga, k, none⟩ = some (.int .u16 x) := q3 k _ (by rw [List.getElem?_map, hx]; rfl)
              have hcd : wr.cell? ⟨gd, k, none⟩ = some (.int .u32 x) := r3 k _ (by rw [List.getElem?_map, hx]; rfl)
              subst hga hgd
              have H3 := Lib.hid hB
              have H4 := Lib.hid hD
              have H5 := Lib.hid hbel
              have HX := Lib.hid hx
              clear hB hD hbel q3 q4 r3 r4 hx
              have h0 : (0 : Int) ≤ (k : Int) := by omega
              have h1 : (k : Int) < (md : Int) := by omega
              
              go_wp2
              go_quiet (fail)
              go_wp2
              go_roundw
              case rel =>
                have hq := drewN_below (w := wr) nq
                exact ⟨k + 1, by omega, by go_num, H3.out.below hq, H4.out.below hq, below_drewN H5.out nq⟩
              case measure => simp [intOf]; omega
            · obtain rfl : md = k := by omega
              have H5 := Lib.hid hbel
              clear hB hD hbel
              go_wp2
              go_ret
              exact ⟨rfl, H5.out⟩

set_option maxRecDepth 20000 in
set_option maxHeartbeats 4000000 in
theorem took_large (s : ByteArray) (p n : Int) (w : World) (hs : s.size ≤ 2097152) (hpw : (Lit.int .i64 p).wf = true) (hnw : (Lit.int .i64 n).wf = true) :
    Calls Try.prog 36 #[.string s, .int .i64 p, .int .i64 n, .int .i64 4] w fun e w' => e = .returned (.bool true) ∧ Below w.heap.size w w' := by
  obtain ⟨i0, hi, hz0, hz1, hz2⟩ := info_parts info34n
  have hlen := takeOf_len s p n 4
  have hsmall := takeOf_small s p n 4
  have C1 := fun W => take_large s p n W hs hpw hnw
  have C2 := fun W => rtake_4 s p n W hs hpw hnw
  generalize takeOf s p n 4 = L at *
  obtain ⟨xs, er⟩ := L
  simp only at hlen hsmall C1 C2
  obtain ⟨M, hM⟩ : ∃ M, M = xs.length := ⟨_, rfl⟩
  have hMs : M ≤ 2097152 := by omega
  have HC1 := Lib.hid C1
  have HC2 := Lib.hid C2
  have HSM := Lib.hid hsmall
  have HM := Lib.hid hM
  clear hlen hsmall hpw hnw C1 C2 hM
  go_enter Try.func36, Try.ntmps36
  go_wp2_with fail
  refine (HC1.out _).mono ?_
  rintro e w1 ⟨a, ma, ca, rfl, hown1, hb1⟩
  obtain rfl : ma = M := by have := hown1.len; rw [HM.out]; simpa using this.symm
  go_wp2_with fail
  refine (HC1.out _).mono ?_
  rintro e w2 ⟨b, mb, cb, rfl, hown2, hb2⟩
  obtain rfl : mb = ma := by have := hown2.len; rw [HM.out]; simpa using this.symm
  go_wp2_with fail
  refine (HC2.out _).mono ?_
  rintro e w3 ⟨d, md, cd, rfl, hown3, hb3⟩
  obtain rfl : md = mb := by have := hown3.len; rw [HM.out]; simpa using this.symm
  have pab := apart_of hown1 hown2
  have pad := apart_of hown1 (hown3.mono hb2.size)
  have HA := Lib.hid ((hown1.below hb2).below hb3)
  have HB := Lib.hid (hown2.below hb3)
  have HD := Lib.hid hown3
  have HL := Lib.hid (after (after hb1 hb2) hb3)
  have PAB := Lib.hid pab
  have PAD := Lib.hid pad
  clear hown1 hown2 hown3 hb1 hb2 hb3 pab pad
  go_wp2
  go_loopw [15] (fun i wr => ∃ (k : Nat) (l : List Value), k ≤ md ∧ i = .int .i64 k ∧ (∀ j, k ≤ j → l[j]? = (xs.map (numV .u32))[j]?) ∧ Own wr w.heap.size 1 a md ca l ∧ Own wr w1.heap.size 1 b md cb (xs.map (numV .u32)) ∧ Own wr w2.heap.size 1 d md cd (xs.map (numV .u32)) ∧ Below w.heap.size w wr) (fun i _ => md - (intOf i).toNat)
  case atStart => exact ⟨0, _, Nat.zero_le _, rfl, fun _ _ => rfl, HA.out, HB.out, HD.out, HL.out⟩
  case round =>
    obtain ⟨k, l, hk, rfl, hl, hA, hB, hD, hbel⟩ := hrel
    by_cases hlt : k < md
    · obtain ⟨x, hx⟩ : ∃ x, xs[k]? = some x := ⟨_, List.getElem?_eq_getElem (by rw [← HM.out]; exact hlt)⟩
      have hxs : x < 4294967296 := HSM.out x (List.mem_of_getElem? hx)
      obtain ⟨ga, hga, q1, q2, q3, q4⟩ := hA.addr (by have := hA.le; omega)
      obtain ⟨gd, hgd, r1, r2, r3, r4⟩ := hD.addr (by have := hD.le; omega)
      have hca : wr.cell? ⟨ga, k, none⟩ = some (.int .u32 x) := q3 k _ (by rw [hl k (Nat.le_refl _), List.getElem?_map, hx]; rfl)
      have hcd : wr.cell? ⟨gd, k, none⟩ = some (.int .u32 x) := r3 k _ (by rw [List.getElem?_map, hx]; rfl)
      have hf := (q4 k (by have := hA.le; omega)).2
      subst hga hgd
      have H1 := Lib.hid hl
      have H2 := Lib.hid hA
      have H3 := Lib.hid hB
      have H4 := Lib.hid hD
      have H5 := Lib.hid hbel
      have HX := Lib.hid hx
      clear hl hA hB hD hbel q3 q4 r3 r4 hx
      have h0 : (0 : Int) ≤ (k : Int) := by omega
      have h1 : (k : Int) < (md : Int) := by omega
      
      go_wp2
      go_quiet (fail)
      go_wp2
      go_roundw
      case rel =>
        have hq := drewN_below (w := wr) nq
        refine ⟨k + 1, l.set k _, by omega, by go_num, ?_, (H2.out.below hq).stored k hlt _, (H3.out.below hq).stored_other _ _ (apart_block H3.out PAB.out), (H4.out.below hq).stored_other _ _ (apart_block H4.out PAD.out), ?_⟩
        · intro j hj
          rw [List.getElem?_set_ne (by omega)]
          exact H1.out j (by omega)
        · exact (below_drewN H5.out nq).setCell (p := ⟨ga, k, none⟩) q1 _
      case measure => simp [intOf]; omega
    · obtain rfl : md = k := by omega
      have H2 := Lib.hid hA
      have H3 := Lib.hid hB
      have H4 := Lib.hid hD
      have H5 := Lib.hid hbel
      clear hl hA hB hD hbel
      go_wp2
      go_loopw [9, 82] (fun v i wr => ∃ (k : Nat) (a' : Option Addr) (c' : Nat) (l : List Value), k ≤ 9 ∧ i = .int .i64 k ∧ v = .slice a' (md + k) c' ∧ Own wr w.heap.size 1 a' (md + k) c' l ∧ Own wr w1.heap.size 1 b md cb (xs.map (numV .u32)) ∧ Own wr w2.heap.size 1 d md cd (xs.map (numV .u32)) ∧ Below w.heap.size w wr ∧ (b = none ∨ blockOf b ≠ blockOf a') ∧ (d = none ∨ blockOf d ≠ blockOf a')) (fun _ i _ => 9 - (intOf i).toNat)
      case atStart => exact ⟨0, a, ca, _, by omega, rfl, rfl, H2.out, H3.out, H4.out, H5.out, PAB.out, PAD.out⟩
      case round =>
        obtain ⟨k, a2, c2, l2, hk9, rfl, rfl, hA, hB, hD, hbel, pb, pd⟩ := hrel
        by_cases hlt : k < 9
        · have K1 := Lib.hid hB
          have K2 := Lib.hid hD
          have K3 := Lib.hid pb
          have K4 := Lib.hid pd
          clear hB hD pb pd
          go_wp2_with (at_builtin; refine wpList_app rfl _ _ 47 47 rfl 34 i0 (.int .u32 0) 1 4 Try.underlying47 hi hz0 hz1 hz2 rfl (by simp [Value.cells, Value.oneCell']) w.heap.size _ _ _ _ rfl (hA.alloc _) _ 1 [.int .u32 5] rfl (Src.ofCells Try.underlying47 _ _ _ _ rfl (Cells.new _ _ _) (by simp [Value.oneCell']) (by decide)) (by simp [maxLen]; omega) (by omega) (by have := hbel.size; simp; omega) ?_; intro a4 c4 w4 hown4 hap4; have hb4 := Lib.hid ((hbel.alloc hbel.size _).trans (hap4.below (hA.alloc _) (by have := hbel.size; simp; omega))); have HO4 := Lib.hid hown4; have K5 := Lib.hid (hap4.other (K1.out.alloc _) K3.out); have K6 := Lib.hid (hap4.other (K2.out.alloc _) K4.out); have K7 := Lib.hid (hap4.apart (K1.out.alloc _) K3.out); have K8 := Lib.hid (hap4.apart (K2.out.alloc _) K4.out); clear hown4 hap4 hA hbel)
          go_roundw
          case rel => exact ⟨k + 1, a4, c4, _, by omega, by go_num, rfl, HO4.out, K5.out, K6.out, hb4.out, K7.out, K8.out⟩
          case measure => simp [intOf]; omega
        · obtain rfl : k = 9 := by omega
          have K1 := Lib.hid hB
          have K2 := Lib.hid hD
          have K3 := Lib.hid hbel
          clear hA hB hD hbel pb pd
          go_wp2
          go_loopw [16] (fun i wr => ∃ (k : Nat), k ≤ md ∧ i = .int .i64 k ∧ Own wr w1.heap.size 1 b md cb (xs.map (numV .u32)) ∧ Own wr w2.heap.size 1 d md cd (xs.map (numV .u32)) ∧ Below w.heap.size w wr) (fun i _ => md - (intOf i).toNat)
          case atStart => exact ⟨0, Nat.zero_le _, rfl, K1.out, K2.out, K3.out⟩
          case round =>
            obtain ⟨k, hk, rfl, hB, hD, hbel⟩ := hrel
            by_cases hlt : k < md
            · obtain ⟨x, hx⟩ : ∃ x, xs[k]? = some x := ⟨_, List.getElem?_eq_getElem (by rw [← HM.out]; exact hlt)⟩
              have hxs : x < 4294967296 := HSM.out x (List.mem_of_getElem? hx)
              obtain ⟨ga, hga, q1, q2, q3, q4⟩ := hB.addr (by have := hB.le; omega)
              obtain ⟨gd, hgd, r1, r2, r3, r4⟩ := hD.addr (by have := hD.le; omega)
              have hca : wr.cell? ⟨ga, k, none⟩ = some (.int .u32 x) := q3 k _ (by rw [List.getElem?_map, hx]; rfl)
              have hcd : wr.cell? ⟨gd, k, none⟩ = some (.int .u32 x) := r3 k _ (by rw [List.getElem?_map, hx]; rfl)
              subst hga hgd
              have H3 := Lib.hid hB
              have H4 := Lib.hid hD
              have H5 := Lib.hid hbel
              have HX := Lib.hid hx
              clear hB hD hbel q3 q4 r3 r4 hx
              have h0 : (0 : Int) ≤ (k : Int) := by omega
              have h1 : (k : Int) < (md : Int) := by omega
              
              go_wp2
              go_quiet (fail)
              go_wp2
              go_roundw
              case rel =>
                have hq := drewN_below (w := wr) nq
                exact ⟨k + 1, by omega, by go_num, H3.out.below hq, H4.out.below hq, below_drewN H5.out nq⟩
              case measure => simp [intOf]; omega
            · obtain rfl : md = k := by omega
              have H5 := Lib.hid hbel
              clear hB hD hbel
              go_wp2
              go_ret
              exact ⟨rfl, H5.out⟩

end Go.Proofs.Ytallfhfgplgfpaa
