/-
  'laid': Put of numbers of one type, twice, against the reference's: walked. Printed by a program of ours (genlaid.py).
-/
import Derived.Test.YtallfhfgplgfpaaRput
namespace Go.Proofs.Ytallfhfgplgfpaa
open Go.RowKit

theorem apart_new {w w' : World} {B size n c : Nat} {a b : Option Addr} {xs : List Value} (_h : Own w B size a n c xs) (hb : ∃ g, blockOf b = some g ∧ w.heap.size ≤ g) (hlt : ∀ g, a = some ⟨g, 0, none⟩ → g < w.heap.size) : a = none ∨ blockOf a ≠ blockOf b := by
  obtain ⟨g, hg, h1⟩ := hb
  rcases _h.row with ⟨h3, _⟩ | ⟨g', ha, _, h4, _⟩
  · exact .inl h3
  · right
    rw [ha, hg]
    simp [blockOf]
    omega

theorem Own.mapcong {w : World} {B size n c : Nat} {a : Option Addr} {xs ys : List Value} (h : Own w B size a n c xs) (e : xs = ys) : Own w B size a n c ys := e ▸ h

theorem sym_apart {a b : Option Addr} (h : a = none ∨ blockOf a ≠ blockOf b) : b = none ∨ blockOf b ≠ blockOf a := by
  rcases h with h | h
  · subst h
    cases b with
    | none => exact .inl rfl
    | some p => right; simp [blockOf]
  · exact .inr fun e => h e.symm

theorem hBsz {w w' : World} (h : Below w.heap.size w w') : w.heap.size ≤ w'.heap.size := h.size

/-- Nine, eight times. -/
def nines : List Value := List.replicate 8 (.int .u8 9)

theorem put2_u8 (s : ByteArray) (xs : List Nat) (n : Nat) (hl : xs.length = n) (g7 c7 g1 c5 : Nat) (W : World) (h1 : Cells W (some ⟨g7, 0, none⟩) (s.data.toList.map byteV)) (h2 : Cells W (some ⟨g1, 0, none⟩) (xs.map (numV .u8)))
    (hx : ∀ x ∈ xs, x < 256) (hs : s.size ≤ 1048576) (hn : n ≤ 1048576) :
    Calls Try.prog 47 #[.slice (some ⟨g7, 0, none⟩) s.size c7, .slice (some ⟨g1, 0, none⟩) n c5] W fun e w' => ∃ a c, e = .returned (.slice a (laidStr 1 s xs).size c) ∧ Own w' W.heap.size 1 a (laidStr 1 s xs).size c ((laidStr 1 s xs).data.toList.map byteV) ∧ Below W.heap.size W w' := by
  subst hl
  refine (put_u8 (some ⟨g7, 0, none⟩) c7 s.data.toList (some ⟨g1, 0, none⟩) c5 xs W h1 h2 hx ?_).mono ?_
  · have : s.data.toList.length = s.size := by simp
    omega
  rintro e w' ⟨a, n, c, rfl, hown, hb⟩
  obtain rfl : n = (laidStr 1 s xs).size := by
    have := hown.len
    rw [laidStr_size]
    rw [List.length_map, laidAt_length] at this
    simpa using this.symm
  exact ⟨a, c, rfl, hown, hb⟩

set_option maxRecDepth 20000 in
set_option maxHeartbeats 8000000 in
theorem laid_u8 (s : ByteArray) (al : Option Addr) (cl : Nat) (ls : List Nat) (w : World) (hs : s.size ≤ 1048576) (hn : ls.length ≤ 1048576) (hcl : Cells w al (ls.map (numV .u32))) (hx : ∀ x ∈ ls, x < 4294967296) :
    Calls Try.prog 20 #[.string s, .slice al ls.length cl, .int .i64 1] w fun e w' => e = .returned (.bool true) ∧ Below w.heap.size w w' := by
  obtain ⟨i0, hi, hz0, hz1, hz2⟩ := info_parts info5n
  obtain ⟨i1, ji, jz0, jz1, jz2⟩ := info_parts info23n
  obtain ⟨i2, ki, kz0, kz1, kz2⟩ := info_parts info5
  have HCL := Lib.hid hcl
  have HXS := Lib.hid hx
  clear hcl hx
  go_enter Try.func20, Try.ntmps20
  go_wp2
  go_loopw [7, 8, 9] (fun v u i wr => ∃ (k : Nat) (a : Option Addr) (c : Nat) (a' : Option Addr) (c' : Nat), k ≤ ls.length ∧ i = .int .i64 k ∧ v = .slice a k c ∧ u = .slice a' k c' ∧ Own wr w.heap.size 1 a k c (((ls.take k).map (· % 256)).map (numV .u8)) ∧ Own wr w.heap.size 1 a' k c' (((ls.take k).map (· % 256)).map (numV .u32)) ∧ (a' = none ∨ blockOf a' ≠ blockOf a) ∧ (a = none ∨ blockOf a ≠ blockOf a') ∧ Below w.heap.size w wr) (fun _ _ i _ => ls.length - (intOf i).toNat)
  case atStart => exact ⟨0, none, 0, none, 0, Nat.zero_le _, rfl, rfl, rfl, Own.nil _ _ _, Own.nil _ _ _, .inl rfl, .inl rfl, Below.refl _ _⟩
  case round =>
    obtain ⟨k, a, c, a', c', hk, rfl, rfl, rfl, hA, hC, pca, pac, hbel⟩ := hrel
    by_cases hlt : k < ls.length
    · obtain ⟨g, off, x, rfl, hxk, hck⟩ := (HCL.out.below hbel).at hlt
      have hxt := HXS.out x (List.mem_of_getElem? hxk)
      obtain ⟨y, hy⟩ : ∃ y, y = x % 256 := ⟨_, rfl⟩
      have hyt : y < 256 := by omega
      have hconv : True := trivial
      have HY := Lib.hid hy
      have HX := Lib.hid hxk
      unfold numV at hck
      have PCA := Lib.hid pca
      have PAC := Lib.hid pac
      have HC := Lib.hid hC
      have HBEL := Lib.hid hbel
      clear hxk hy pca pac hC hbel
      have h0 : (0 : Int) ≤ (k : Int) := by omega
      have h1 : (k : Int) < (ls.length : Int) := by omega
      go_wp2_with (first
        | (at_builtin; refine wpList_app rfl _ _ 50 50 rfl 5 i0 (.int .u8 0) 1 1 Try.underlying50 hi hz0 hz1 hz2 rfl (by simp [Value.cells, Value.oneCell']) w.heap.size _ _ _ _ rfl (hA.alloc _) _ 1 [.int .u8 ((x : Int) % 256)] rfl (Src.ofCells Try.underlying50 _ _ _ _ rfl (Cells.new _ _ _) (by simp [Value.oneCell']) (by decide)) (by simp [maxLen]; omega) (by omega) (by have := HBEL.out.size; simp; omega) ?_; intro a4 c4 w4 hown4 hap4; have hb4 := Lib.hid ((HBEL.out.alloc HBEL.out.size _).trans (hap4.below (hA.alloc _) (by have := HBEL.out.size; simp; omega))); have HO4 := Lib.hid hown4; have hC4 := hap4.other (HC.out.alloc _) PCA.out; have P4 := Lib.hid (hap4.apart (HC.out.alloc _) PCA.out); clear hown4 hap4 hA hck hconv)
        | (at_builtin; refine wpList_app rfl _ _ 29 29 rfl 23 i1 (.int .u32 0) 1 4 Try.underlying29 ji jz0 jz1 jz2 rfl (by simp [Value.cells, Value.oneCell']) w.heap.size _ _ _ _ rfl (hC4.alloc _) _ 1 [.int .u32 ((x : Int) % 256)] rfl (Src.ofCells Try.underlying29 _ _ _ _ rfl (Cells.new _ _ _) (by simp [Value.oneCell']) (by decide)) (by simp [maxLen]; omega) (by omega) (by have := hb4.out.size; simp; omega) ?_; intro a5 c5 w5 hown5 hap5; have hb5 := Lib.hid ((hb4.out.alloc hb4.out.size _).trans (hap5.below (hC4.alloc _) (by have := hb4.out.size; simp; omega))); have HO5 := Lib.hid hown5; have q4 := sym_apart P4.out; have HN5 := Lib.hid (hap5.other (HO4.out.alloc _) q4); have P5 := Lib.hid (hap5.apart (HO4.out.alloc _) q4); clear hown5 hap5 hC4 q4))
      go_roundw
      case rel =>
        have e1 : ∀ K, ((ls.take (k + 1)).map (· % 256)).map (numV K) = ((ls.take k).map (· % 256)).map (numV K) ++ [.int K ((x : Int) % 256)] := fun K => by
          rw [List.take_add_one, HX.out]
          simp [numV, HY.out]
        exact ⟨k + 1, a4, c4, a5, c5, by omega, by go_num, rfl, rfl, HN5.out.mapcong (e1 _).symm, HO5.out.mapcong (e1 _).symm, sym_apart P5.out, P5.out, hb5.out⟩
      case measure => simp [intOf]; omega
    · obtain rfl : k = ls.length := by omega
      rw [List.take_of_length_le (Nat.le_refl _)] at hA hC
      obtain ⟨xs, hxs⟩ : ∃ xs, xs = ls.map (· % 256) := ⟨_, rfl⟩
      rw [← hxs] at hA hC
      have hxl : xs.length = ls.length := by rw [hxs]; simp
      have hxt : ∀ x ∈ xs, x < 256 := fun x hx => by
        rw [hxs] at hx
        obtain ⟨y, _, rfl⟩ := List.mem_map.1 hx
        exact Nat.mod_lt _ (by decide)
      have HXL := Lib.hid hxl
      have HXT := Lib.hid hxt
      have PCA := Lib.hid pca
      have HC := Lib.hid hC
      have HBEL := Lib.hid hbel
      clear hxs hxl hxt pca pac hC hbel
      obtain ⟨T, hT⟩ : ∃ T, T = laidStr 1 s xs := ⟨_, rfl⟩
      have hTs : T.size ≤ 5242880 := by
        rw [hT, laidStr_size, HXL.out]
        omega
      have HT := Lib.hid hT
      clear hT
      go_wp2_with (first
        | (at_builtin; refine wpList_app rfl _ _ 50 50 rfl 5 i0 (.int .u8 0) 1 1 Try.underlying50 hi hz0 hz1 hz2 rfl (by simp [Value.cells, Value.oneCell']) w.heap.size _ _ _ _ rfl (hA.alloc _) _ 1 [.int .u8 77] rfl (Src.ofCells Try.underlying50 _ _ _ _ rfl (Cells.new _ _ _) (by simp [Value.oneCell']) (by decide)) (by simp [maxLen]; omega) (by omega) (by have := HBEL.out.size; simp; omega) ?_; intro a4 c4 w4 hown4 hap4; have hb4 := Lib.hid ((HBEL.out.alloc HBEL.out.size _).trans (hap4.below (hA.alloc _) (by have := HBEL.out.size; simp; omega))); obtain ⟨g1, rfl, _, hg1, _⟩ := hown4.addr (by have := hown4.le; omega); have HN4 := Lib.hid hown4; have HC4 := Lib.hid (hap4.other (HC.out.alloc _) PCA.out); have hle4 := hown4.le; clear hown4 hap4 hA)
        | (with_reducible refine wpList_bytes rfl _ 9 50 5 rfl Try.underlying9 Try.underlying50 Try.underlying5 s rfl (by simp [maxLen]; omega) ?_; intro g6 c6 w6 hown6 hb6)
        | (at_builtin; refine wpList_app rfl _ _ 50 50 rfl 5 i2 (.int .u8 0) 1 1 Try.underlying50 ki kz0 kz1 kz2 rfl (by simp [Value.cells, Value.oneCell']) w4.heap.size _ _ _ _ rfl (hown6.alloc _) _ 8 nines rfl (Src.ofCells Try.underlying50 _ _ _ _ rfl (Cells.new _ nines _) (by simp [nines, Value.oneCell']) (by decide)) (by simp [maxLen]; omega) (by omega) (by have := hb6.size; simp; omega) ?_; intro a7 c7 w7 hown7 hap7; have hb7 := Lib.hid ((hb6.alloc hb6.size _).trans (hap7.below (hown6.alloc _) (by have := hb6.size; simp; omega))); obtain ⟨g7, rfl, _, hg7, _⟩ := hown7.addr (by have := hown7.le; omega); have HR7 := Lib.hid hown7; have hle7 := hown7.le; clear hown7 hap7 hown6 hb6)
        | fail)
      have N7 := HN4.out.below hb7.out
      have C7 := HC4.out.below hb7.out
      have B7 := after hb4.out hb7.out
      have np := N7.prefix ls.length (by omega)
      rw [Nat.mul_one, List.take_left' (by rw [List.length_map, HXL.out])] at np
      have rp := HR7.out.prefix s.size (by omega)
      rw [Nat.mul_one, List.take_left' (by simp)] at rp
      have N7c := Lib.hid N7
      have C7c := Lib.hid C7
      have B7c := Lib.hid B7
      have NP := Lib.hid np
      have RP := Lib.hid rp
      clear N7 C7 B7 np rp hg1 hg7
      refine (put2_u8 s xs ls.length HXL.out g7 c7 g1 c4 w7 RP.out.toCells NP.out.toCells HXT.out hs hn).mono ?_
      rintro e w8 ⟨a8, c8, rfl, hown8, hb8⟩
      rw [← HT.out] at hown8 ⊢
      have H8 := Lib.hid hown8
      have B8 := Lib.hid hb8
      clear hown8 hb8
      go_wp2_with fail
      refine (put2_u8 s xs ls.length HXL.out g7 c7 g1 c4 w8 (RP.out.below B8.out).toCells (NP.out.below B8.out).toCells HXT.out hs hn).mono ?_
      rintro e w9 ⟨a9, c9, rfl, hown9, hb9⟩
      rw [← HT.out] at hown9 ⊢
      have H9 := Lib.hid hown9
      have B9 := Lib.hid hb9
      clear hown9 hb9
      go_wp2_with fail
      have hrp := rput_any 1 s a' c' xs w9 (by omega) ((C7c.out.below B8.out).below B9.out).toCells (fun x hx => by have := HXT.out x hx; omega) hs (by rw [HXL.out]; exact hn)
      rw [HXL.out] at hrp
      refine hrp.mono ?_
      rintro e w10 ⟨rfl, hb10⟩
      rw [← HT.out]
      clear hrp
      have B10 := Lib.hid hb10
      clear hb10
      have hTl : T.data.toList.length = T.size := by simp
      have hcv1 : (convert 50 9 (.slice a8 T.size c8)).run Try.prog w10 = .ok (.string T) w10 := run_str (w := w10) (P := Try.prog) 50 9 5 Try.underlying50 Try.underlying5 Try.underlying9 a8 T.size c8 T.data.toList hTl ((H8.out.below B9.out).below B10.out).toCells
      have hcv2 : (convert 50 9 (.slice a9 T.size c9)).run Try.prog w10 = .ok (.string T) w10 := run_str (w := w10) (P := Try.prog) 50 9 5 Try.underlying50 Try.underlying5 Try.underlying9 a9 T.size c9 T.data.toList hTl (H9.out.below B10.out).toCells
      have HTL := Lib.hid hTl
      clear hTl
      go_wp2
      clear hcv1 hcv2
      have p89 := apart_of H8.out H9.out
      have P89 := Lib.hid p89
      clear p89
      go_loopw [16] (fun i wr => ∃ (k : Nat) (l : List Value), k ≤ T.size ∧ i = .int .i64 k ∧ (∀ j, k ≤ j → l[j]? = (T.data.toList.map byteV)[j]?) ∧ Own wr w7.heap.size 1 a8 T.size c8 l ∧ Own wr w8.heap.size 1 a9 T.size c9 (T.data.toList.map byteV) ∧ Below w7.heap.size w7 wr) (fun i _ => T.size - (intOf i).toNat)
      case atStart => exact ⟨0, _, Nat.zero_le _, rfl, fun _ _ => rfl, (H8.out.below B9.out).below B10.out, H9.out.below B10.out, after (after B8.out B9.out) B10.out⟩
      case round =>
        obtain ⟨k, l, hk, rfl, hl, hA, hB, hbel⟩ := hrel
        by_cases hlt : k < T.size
        · obtain ⟨ga, hga, q1, q2, q3, q4⟩ := hA.addr (by have := hA.le; omega)
          have hca : wr.cell? ⟨ga, k, none⟩ = some (.int .u8 T[k].toNat) := q3 k _ (by rw [hl k (Nat.le_refl _), List.getElem?_map, List.getElem?_eq_getElem (by simpa using hlt)]; rfl)
          have hf := (q4 k (by have := hA.le; omega)).2
          subst hga
          have H1 := Lib.hid hl
          have H2 := Lib.hid hA
          have H3 := Lib.hid hB
          have H5 := Lib.hid hbel
          clear hl hA hB hbel q3 q4
          have h0 : (0 : Int) ≤ (k : Int) := by omega
          have h1 : (k : Int) < (T.size : Int) := by omega
          go_wp2
          go_roundw
          case rel =>
            refine ⟨k + 1, l.set k _, by omega, by go_num, ?_, H2.out.stored k hlt _, H3.out.stored_other _ _ (apart_block H3.out P89.out), H5.out.setCell (p := ⟨ga, k, none⟩) q1 _⟩
            intro j hj
            rw [List.getElem?_set_ne (by omega)]
            exact H1.out j (by omega)
          case measure => simp [intOf]; omega
        · obtain rfl : T.size = k := by omega
          have H3 := Lib.hid hB
          have H5 := Lib.hid hbel
          clear hl hB hbel
          have hcvs : ∀ W, Below w7.heap.size w7 W → (convert 50 9 (.slice (some ⟨g7, 0, none⟩) s.size c7)).run Try.prog W = .ok (.string s) W := fun W h => run_str (w := W) (P := Try.prog) 50 9 5 Try.underlying50 Try.underlying5 Try.underlying9 (some ⟨g7, 0, none⟩) s.size c7 s.data.toList (by simp) (RP.out.below h).toCells
          have hcvt : ∀ W, Own W w8.heap.size 1 a9 T.size c9 (T.data.toList.map byteV) → (convert 50 9 (.slice a9 T.size c9)).run Try.prog W = .ok (.string T) W := fun W h => run_str (w := W) (P := Try.prog) 50 9 5 Try.underlying50 Try.underlying5 Try.underlying9 a9 T.size c9 T.data.toList HTL.out h.toCells
          have HCVS := Lib.hid hcvs
          have HCVT := Lib.hid hcvt
          clear hcvs hcvt
          go_wp2_with (at_builtin; refine wpList_app rfl _ _ 50 50 rfl 5 i2 (.int .u8 0) 1 1 Try.underlying50 ki kz0 kz1 kz2 rfl (by simp [Value.cells, Value.oneCell']) w7.heap.size _ _ _ _ rfl (hA.alloc _) _ 8 [.int .u8 1, .int .u8 2, .int .u8 3, .int .u8 4, .int .u8 5, .int .u8 6, .int .u8 7, .int .u8 8] rfl (Src.ofCells Try.underlying50 _ _ _ _ rfl (Cells.new _ _ _) (by simp [Value.oneCell']) (by decide)) (by simp [maxLen]; omega) (by omega) (by have := H5.out.size; simp; omega) ?_; intro a12 c12 w12 hown12 hap12; have hb12 := (H5.out.alloc H5.out.size _).trans (hap12.below (hA.alloc _) (by have := H5.out.size; simp; omega)); have hc1 := HCVS.out w12 hb12; have hc2 := HCVT.out w12 (hap12.other (H3.out.alloc _) P89.out); have HB12 := Lib.hid hb12; clear hown12 hap12 hA hb12)
          clear hc1 hc2
          have R12 := HR7.out.below HB12.out
          obtain ⟨gr, hgr, t1, t2, t3, t4⟩ := R12.addr (by have := R12.le; omega)
          simp at hgr
          subst hgr
          have hcell : ∀ k, s.size ≤ k → k < s.size + 8 → w12.cell? ⟨g7, k, none⟩ = some (.int .u8 9) := fun k h1 h2 => t3 k _ (by
            rw [List.getElem?_append_right (by simpa using h1), List.length_map]
            have e : s.data.toList.length = s.size := by simp
            rw [e]
            unfold nines
            rw [List.getElem?_replicate, if_pos (by omega)])
          have HCELL := Lib.hid hcell
          have N12 := Lib.hid (N7c.out.below HB12.out)
          have C12 := Lib.hid (C7c.out.below HB12.out)
          clear hcell t3 t4 R12
          go_wp2
          go_loopw [17] (fun i wx => w12 = wx ∧ ∃ k : Nat, s.size ≤ k ∧ k ≤ s.size + 8 ∧ i = .int .i64 k) (fun i _ => s.size + 8 - (intOf i).toNat)
          case atStart => exact ⟨rfl, s.size, Nat.le_refl _, by omega, rfl⟩
          case round =>
            obtain ⟨rfl, k, hk1, hk2, rfl⟩ := hrel
            by_cases hlt : k < s.size + 8
            · have hck := HCELL.out k hk1 hlt
              have h0 : (0 : Int) ≤ (k : Int) := by omega
              have h1 : (k : Int) < (s.size : Int) + 8 := by omega
              go_wp2
              go_roundw
              case rel => exact ⟨by trivial, k + 1, by omega, by omega, by go_num⟩
              case measure => simp [intOf]; omega
            · obtain rfl : k = s.size + 8 := by omega
              go_wp2
              go_loopw [18] (fun i wx => ∃ k : Nat, k ≤ ls.length ∧ i = .int .i64 k ∧ Below w12.heap.size w12 wx) (fun i _ => ls.length - (intOf i).toNat)
              case atStart => exact ⟨0, Nat.zero_le _, rfl, Below.refl _ _⟩
              case round =>
                obtain ⟨k, hk, rfl, hbel⟩ := hrel
                have NX := N12.out.below hbel
                have CX := C12.out.below hbel
                obtain ⟨gn, hgn, u1, u2, u3, u4⟩ := NX.addr (by have := NX.le; omega)
                simp at hgn
                subst hgn
                have HBX := Lib.hid hbel
                by_cases hlt : k < ls.length
                · obtain ⟨gc, hgc, v1, v2, v3, v4⟩ := CX.addr (by have := CX.le; omega)
                  obtain ⟨x, hx⟩ : ∃ x, xs[k]? = some x := ⟨_, List.getElem?_eq_getElem (by rw [HXL.out]; exact hlt)⟩
                  have hxs : x < 256 := HXT.out x (List.mem_of_getElem? hx)
                  have hca : wr.cell? ⟨g1, k, none⟩ = some (.int .u8 x) := u3 k _ (by rw [List.getElem?_append_left (by rw [List.length_map, HXL.out]; exact hlt), List.getElem?_map, hx]; rfl)
                  have hcd : wr.cell? ⟨gc, k, none⟩ = some (.int .u32 x) := v3 k _ (by rw [List.getElem?_map, hx]; rfl)
                  subst hgc
                  have h0 : (0 : Int) ≤ (k : Int) := by omega
                  have h1 : (k : Int) < (ls.length : Int) := by omega
                  clear hbel NX CX u3 u4 v3 v4 hx
                  go_wp2
                  go_quiet (fail)
                  go_wp2
                  go_roundw
                  case rel => exact ⟨k + 1, by omega, by go_num, below_drewN HBX.out nq⟩
                  case measure => simp [intOf]; omega
                · obtain rfl : k = ls.length := by omega
                  have hca : wr.cell? ⟨g1, ls.length, none⟩ = some (.int .u8 77) := u3 ls.length _ (by rw [List.getElem?_append_right (by rw [List.length_map, HXL.out]; exact Nat.le_refl _), List.length_map, HXL.out, Nat.sub_self]; rfl)
                  clear hbel NX CX u3 u4
                  go_wp2
                  go_ret
                  exact ⟨rfl, after (after B7c.out HB12.out) HBX.out⟩

theorem put2_u16 (s : ByteArray) (xs : List Nat) (n : Nat) (hl : xs.length = n) (g7 c7 g1 c5 : Nat) (W : World) (h1 : Cells W (some ⟨g7, 0, none⟩) (s.data.toList.map byteV)) (h2 : Cells W (some ⟨g1, 0, none⟩) (xs.map (numV .u16)))
    (hx : ∀ x ∈ xs, x < 65536) (hs : s.size ≤ 1048576) (hn : n ≤ 1048576) :
    Calls Try.prog 40 #[.slice (some ⟨g7, 0, none⟩) s.size c7, .slice (some ⟨g1, 0, none⟩) n c5] W fun e w' => ∃ a c, e = .returned (.slice a (laidStr 2 s xs).size c) ∧ Own w' W.heap.size 1 a (laidStr 2 s xs).size c ((laidStr 2 s xs).data.toList.map byteV) ∧ Below W.heap.size W w' := by
  subst hl
  refine (put_u16 (some ⟨g7, 0, none⟩) c7 s.data.toList (some ⟨g1, 0, none⟩) c5 xs W h1 h2 hx ?_).mono ?_
  · have : s.data.toList.length = s.size := by simp
    omega
  rintro e w' ⟨a, n, c, rfl, hown, hb⟩
  obtain rfl : n = (laidStr 2 s xs).size := by
    have := hown.len
    rw [laidStr_size]
    rw [List.length_map, laidAt_length] at this
    simpa using this.symm
  exact ⟨a, c, rfl, hown, hb⟩

set_option maxRecDepth 20000 in
set_option maxHeartbeats 8000000 in
theorem laid_u16 (s : ByteArray) (al : Option Addr) (cl : Nat) (ls : List Nat) (w : World) (hs : s.size ≤ 1048576) (hn : ls.length ≤ 1048576) (hcl : Cells w al (ls.map (numV .u32))) (hx : ∀ x ∈ ls, x < 4294967296) :
    Calls Try.prog 21 #[.string s, .slice al ls.length cl, .int .i64 2] w fun e w' => e = .returned (.bool true) ∧ Below w.heap.size w w' := by
  obtain ⟨i0, hi, hz0, hz1, hz2⟩ := info_parts info31n
  obtain ⟨i1, ji, jz0, jz1, jz2⟩ := info_parts info23n
  obtain ⟨i2, ki, kz0, kz1, kz2⟩ := info_parts info5
  have HCL := Lib.hid hcl
  have HXS := Lib.hid hx
  clear hcl hx
  go_enter Try.func21, Try.ntmps21
  go_wp2
  go_loopw [7, 8, 9] (fun v u i wr => ∃ (k : Nat) (a : Option Addr) (c : Nat) (a' : Option Addr) (c' : Nat), k ≤ ls.length ∧ i = .int .i64 k ∧ v = .slice a k c ∧ u = .slice a' k c' ∧ Own wr w.heap.size 1 a k c (((ls.take k).map (· % 65536)).map (numV .u16)) ∧ Own wr w.heap.size 1 a' k c' (((ls.take k).map (· % 65536)).map (numV .u32)) ∧ (a' = none ∨ blockOf a' ≠ blockOf a) ∧ (a = none ∨ blockOf a ≠ blockOf a') ∧ Below w.heap.size w wr) (fun _ _ i _ => ls.length - (intOf i).toNat)
  case atStart => exact ⟨0, none, 0, none, 0, Nat.zero_le _, rfl, rfl, rfl, Own.nil _ _ _, Own.nil _ _ _, .inl rfl, .inl rfl, Below.refl _ _⟩
  case round =>
    obtain ⟨k, a, c, a', c', hk, rfl, rfl, rfl, hA, hC, pca, pac, hbel⟩ := hrel
    by_cases hlt : k < ls.length
    · obtain ⟨g, off, x, rfl, hxk, hck⟩ := (HCL.out.below hbel).at hlt
      have hxt := HXS.out x (List.mem_of_getElem? hxk)
      obtain ⟨y, hy⟩ : ∃ y, y = x % 65536 := ⟨_, rfl⟩
      have hyt : y < 65536 := by omega
      have hconv : IntKind.u16.wrap (x : Int) = (y : Int) := by rw [hy]; simp [IntKind.wrap, IntKind.signed, IntKind.bits]
      have HY := Lib.hid hy
      have HX := Lib.hid hxk
      unfold numV at hck
      have PCA := Lib.hid pca
      have PAC := Lib.hid pac
      have HC := Lib.hid hC
      have HBEL := Lib.hid hbel
      clear hxk hy pca pac hC hbel
      have h0 : (0 : Int) ≤ (k : Int) := by omega
      have h1 : (k : Int) < (ls.length : Int) := by omega
      go_wp2_with (first
        | (at_builtin; refine wpList_app rfl _ _ 52 52 rfl 31 i0 (.int .u16 0) 1 2 Try.underlying52 hi hz0 hz1 hz2 rfl (by simp [Value.cells, Value.oneCell']) w.heap.size _ _ _ _ rfl (hA.alloc _) _ 1 [.int .u16 (y : Int)] rfl (Src.ofCells Try.underlying52 _ _ _ _ rfl (Cells.new _ _ _) (by simp [Value.oneCell']) (by decide)) (by simp [maxLen]; omega) (by omega) (by have := HBEL.out.size; simp; omega) ?_; intro a4 c4 w4 hown4 hap4; have hb4 := Lib.hid ((HBEL.out.alloc HBEL.out.size _).trans (hap4.below (hA.alloc _) (by have := HBEL.out.size; simp; omega))); have HO4 := Lib.hid hown4; have hC4 := hap4.other (HC.out.alloc _) PCA.out; have P4 := Lib.hid (hap4.apart (HC.out.alloc _) PCA.out); clear hown4 hap4 hA hck hconv)
        | (at_builtin; refine wpList_app rfl _ _ 29 29 rfl 23 i1 (.int .u32 0) 1 4 Try.underlying29 ji jz0 jz1 jz2 rfl (by simp [Value.cells, Value.oneCell']) w.heap.size _ _ _ _ rfl (hC4.alloc _) _ 1 [.int .u32 (y : Int)] rfl (Src.ofCells Try.underlying29 _ _ _ _ rfl (Cells.new _ _ _) (by simp [Value.oneCell']) (by decide)) (by simp [maxLen]; omega) (by omega) (by have := hb4.out.size; simp; omega) ?_; intro a5 c5 w5 hown5 hap5; have hb5 := Lib.hid ((hb4.out.alloc hb4.out.size _).trans (hap5.below (hC4.alloc _) (by have := hb4.out.size; simp; omega))); have HO5 := Lib.hid hown5; have q4 := sym_apart P4.out; have HN5 := Lib.hid (hap5.other (HO4.out.alloc _) q4); have P5 := Lib.hid (hap5.apart (HO4.out.alloc _) q4); clear hown5 hap5 hC4 q4))
      go_roundw
      case rel =>
        have e1 : ∀ K, ((ls.take (k + 1)).map (· % 65536)).map (numV K) = ((ls.take k).map (· % 65536)).map (numV K) ++ [.int K (y : Int)] := fun K => by
          rw [List.take_add_one, HX.out]
          simp [numV, HY.out]
        exact ⟨k + 1, a4, c4, a5, c5, by omega, by go_num, rfl, rfl, HN5.out.mapcong (e1 _).symm, HO5.out.mapcong (e1 _).symm, sym_apart P5.out, P5.out, hb5.out⟩
      case measure => simp [intOf]; omega
    · obtain rfl : k = ls.length := by omega
      rw [List.take_of_length_le (Nat.le_refl _)] at hA hC
      obtain ⟨xs, hxs⟩ : ∃ xs, xs = ls.map (· % 65536) := ⟨_, rfl⟩
      rw [← hxs] at hA hC
      have hxl : xs.length = ls.length := by rw [hxs]; simp
      have hxt : ∀ x ∈ xs, x < 65536 := fun x hx => by
        rw [hxs] at hx
        obtain ⟨y, _, rfl⟩ := List.mem_map.1 hx
        exact Nat.mod_lt _ (by decide)
      have HXL := Lib.hid hxl
      have HXT := Lib.hid hxt
      have PCA := Lib.hid pca
      have HC := Lib.hid hC
      have HBEL := Lib.hid hbel
      clear hxs hxl hxt pca pac hC hbel
      obtain ⟨T, hT⟩ : ∃ T, T = laidStr 2 s xs := ⟨_, rfl⟩
      have hTs : T.size ≤ 5242880 := by
        rw [hT, laidStr_size, HXL.out]
        omega
      have HT := Lib.hid hT
      clear hT
      go_wp2_with (first
        | (at_builtin; refine wpList_app rfl _ _ 52 52 rfl 31 i0 (.int .u16 0) 1 2 Try.underlying52 hi hz0 hz1 hz2 rfl (by simp [Value.cells, Value.oneCell']) w.heap.size _ _ _ _ rfl (hA.alloc _) _ 1 [.int .u16 77] rfl (Src.ofCells Try.underlying52 _ _ _ _ rfl (Cells.new _ _ _) (by simp [Value.oneCell']) (by decide)) (by simp [maxLen]; omega) (by omega) (by have := HBEL.out.size; simp; omega) ?_; intro a4 c4 w4 hown4 hap4; have hb4 := Lib.hid ((HBEL.out.alloc HBEL.out.size _).trans (hap4.below (hA.alloc _) (by have := HBEL.out.size; simp; omega))); obtain ⟨g1, rfl, _, hg1, _⟩ := hown4.addr (by have := hown4.le; omega); have HN4 := Lib.hid hown4; have HC4 := Lib.hid (hap4.other (HC.out.alloc _) PCA.out); have hle4 := hown4.le; clear hown4 hap4 hA)
        | (with_reducible refine wpList_bytes rfl _ 9 50 5 rfl Try.underlying9 Try.underlying50 Try.underlying5 s rfl (by simp [maxLen]; omega) ?_; intro g6 c6 w6 hown6 hb6)
        | (at_builtin; refine wpList_app rfl _ _ 50 50 rfl 5 i2 (.int .u8 0) 1 1 Try.underlying50 ki kz0 kz1 kz2 rfl (by simp [Value.cells, Value.oneCell']) w4.heap.size _ _ _ _ rfl (hown6.alloc _) _ 8 nines rfl (Src.ofCells Try.underlying50 _ _ _ _ rfl (Cells.new _ nines _) (by simp [nines, Value.oneCell']) (by decide)) (by simp [maxLen]; omega) (by omega) (by have := hb6.size; simp; omega) ?_; intro a7 c7 w7 hown7 hap7; have hb7 := Lib.hid ((hb6.alloc hb6.size _).trans (hap7.below (hown6.alloc _) (by have := hb6.size; simp; omega))); obtain ⟨g7, rfl, _, hg7, _⟩ := hown7.addr (by have := hown7.le; omega); have HR7 := Lib.hid hown7; have hle7 := hown7.le; clear hown7 hap7 hown6 hb6)
        | fail)
      have N7 := HN4.out.below hb7.out
      have C7 := HC4.out.below hb7.out
      have B7 := after hb4.out hb7.out
      have np := N7.prefix ls.length (by omega)
      rw [Nat.mul_one, List.take_left' (by rw [List.length_map, HXL.out])] at np
      have rp := HR7.out.prefix s.size (by omega)
      rw [Nat.mul_one, List.take_left' (by simp)] at rp
      have N7c := Lib.hid N7
      have C7c := Lib.hid C7
      have B7c := Lib.hid B7
      have NP := Lib.hid np
      have RP := Lib.hid rp
      clear N7 C7 B7 np rp hg1 hg7
      refine (put2_u16 s xs ls.length HXL.out g7 c7 g1 c4 w7 RP.out.toCells NP.out.toCells HXT.out hs hn).mono ?_
      rintro e w8 ⟨a8, c8, rfl, hown8, hb8⟩
      rw [← HT.out] at hown8 ⊢
      have H8 := Lib.hid hown8
      have B8 := Lib.hid hb8
      clear hown8 hb8
      go_wp2_with fail
      refine (put2_u16 s xs ls.length HXL.out g7 c7 g1 c4 w8 (RP.out.below B8.out).toCells (NP.out.below B8.out).toCells HXT.out hs hn).mono ?_
      rintro e w9 ⟨a9, c9, rfl, hown9, hb9⟩
      rw [← HT.out] at hown9 ⊢
      have H9 := Lib.hid hown9
      have B9 := Lib.hid hb9
      clear hown9 hb9
      go_wp2_with fail
      have hrp := rput_any 2 s a' c' xs w9 (by omega) ((C7c.out.below B8.out).below B9.out).toCells (fun x hx => by have := HXT.out x hx; omega) hs (by rw [HXL.out]; exact hn)
      rw [HXL.out] at hrp
      refine hrp.mono ?_
      rintro e w10 ⟨rfl, hb10⟩
      rw [← HT.out]
      clear hrp
      have B10 := Lib.hid hb10
      clear hb10
      have hTl : T.data.toList.length = T.size := by simp
      have hcv1 : (convert 50 9 (.slice a8 T.size c8)).run Try.prog w10 = .ok (.string T) w10 := run_str (w := w10) (P := Try.prog) 50 9 5 Try.underlying50 Try.underlying5 Try.underlying9 a8 T.size c8 T.data.toList hTl ((H8.out.below B9.out).below B10.out).toCells
      have hcv2 : (convert 50 9 (.slice a9 T.size c9)).run Try.prog w10 = .ok (.string T) w10 := run_str (w := w10) (P := Try.prog) 50 9 5 Try.underlying50 Try.underlying5 Try.underlying9 a9 T.size c9 T.data.toList hTl (H9.out.below B10.out).toCells
      have HTL := Lib.hid hTl
      clear hTl
      go_wp2
      clear hcv1 hcv2
      have p89 := apart_of H8.out H9.out
      have P89 := Lib.hid p89
      clear p89
      go_loopw [16] (fun i wr => ∃ (k : Nat) (l : List Value), k ≤ T.size ∧ i = .int .i64 k ∧ (∀ j, k ≤ j → l[j]? = (T.data.toList.map byteV)[j]?) ∧ Own wr w7.heap.size 1 a8 T.size c8 l ∧ Own wr w8.heap.size 1 a9 T.size c9 (T.data.toList.map byteV) ∧ Below w7.heap.size w7 wr) (fun i _ => T.size - (intOf i).toNat)
      case atStart => exact ⟨0, _, Nat.zero_le _, rfl, fun _ _ => rfl, (H8.out.below B9.out).below B10.out, H9.out.below B10.out, after (after B8.out B9.out) B10.out⟩
      case round =>
        obtain ⟨k, l, hk, rfl, hl, hA, hB, hbel⟩ := hrel
        by_cases hlt : k < T.size
        · obtain ⟨ga, hga, q1, q2, q3, q4⟩ := hA.addr (by have := hA.le; omega)
          have hca : wr.cell? ⟨ga, k, none⟩ = some (.int .u8 T[k].toNat) := q3 k _ (by rw [hl k (Nat.le_refl _), List.getElem?_map, List.getElem?_eq_getElem (by simpa using hlt)]; rfl)
          have hf := (q4 k (by have := hA.le; omega)).2
          subst hga
          have H1 := Lib.hid hl
          have H2 := Lib.hid hA
          have H3 := Lib.hid hB
          have H5 := Lib.hid hbel
          clear hl hA hB hbel q3 q4
          have h0 : (0 : Int) ≤ (k : Int) := by omega
          have h1 : (k : Int) < (T.size : Int) := by omega
          go_wp2
          go_roundw
          case rel =>
            refine ⟨k + 1, l.set k _, by omega, by go_num, ?_, H2.out.stored k hlt _, H3.out.stored_other _ _ (apart_block H3.out P89.out), H5.out.setCell (p := ⟨ga, k, none⟩) q1 _⟩
            intro j hj
            rw [List.getElem?_set_ne (by omega)]
            exact H1.out j (by omega)
          case measure => simp [intOf]; omega
        · obtain rfl : T.size = k := by omega
          have H3 := Lib.hid hB
          have H5 := Lib.hid hbel
          clear hl hB hbel
          have hcvs : ∀ W, Below w7.heap.size w7 W → (convert 50 9 (.slice (some ⟨g7, 0, none⟩) s.size c7)).run Try.prog W = .ok (.string s) W := fun W h => run_str (w := W) (P := Try.prog) 50 9 5 Try.underlying50 Try.underlying5 Try.underlying9 (some ⟨g7, 0, none⟩) s.size c7 s.data.toList (by simp) (RP.out.below h).toCells
          have hcvt : ∀ W, Own W w8.heap.size 1 a9 T.size c9 (T.data.toList.map byteV) → (convert 50 9 (.slice a9 T.size c9)).run Try.prog W = .ok (.string T) W := fun W h => run_str (w := W) (P := Try.prog) 50 9 5 Try.underlying50 Try.underlying5 Try.underlying9 a9 T.size c9 T.data.toList HTL.out h.toCells
          have HCVS := Lib.hid hcvs
          have HCVT := Lib.hid hcvt
          clear hcvs hcvt
          go_wp2_with (at_builtin; refine wpList_app rfl _ _ 50 50 rfl 5 i2 (.int .u8 0) 1 1 Try.underlying50 ki kz0 kz1 kz2 rfl (by simp [Value.cells, Value.oneCell']) w7.heap.size _ _ _ _ rfl (hA.alloc _) _ 8 [.int .u8 1, .int .u8 2, .int .u8 3, .int .u8 4, .int .u8 5, .int .u8 6, .int .u8 7, .int .u8 8] rfl (Src.ofCells Try.underlying50 _ _ _ _ rfl (Cells.new _ _ _) (by simp [Value.oneCell']) (by decide)) (by simp [maxLen]; omega) (by omega) (by have := H5.out.size; simp; omega) ?_; intro a12 c12 w12 hown12 hap12; have hb12 := (H5.out.alloc H5.out.size _).trans (hap12.below (hA.alloc _) (by have := H5.out.size; simp; omega)); have hc1 := HCVS.out w12 hb12; have hc2 := HCVT.out w12 (hap12.other (H3.out.alloc _) P89.out); have HB12 := Lib.hid hb12; clear hown12 hap12 hA hb12)
          clear hc1 hc2
          have R12 := HR7.out.below HB12.out
          obtain ⟨gr, hgr, t1, t2, t3, t4⟩ := R12.addr (by have := R12.le; omega)
          simp at hgr
          subst hgr
          have hcell : ∀ k, s.size ≤ k → k < s.size + 8 → w12.cell? ⟨g7, k, none⟩ = some (.int .u8 9) := fun k h1 h2 => t3 k _ (by
            rw [List.getElem?_append_right (by simpa using h1), List.length_map]
            have e : s.data.toList.length = s.size := by simp
            rw [e]
            unfold nines
            rw [List.getElem?_replicate, if_pos (by omega)])
          have HCELL := Lib.hid hcell
          have N12 := Lib.hid (N7c.out.below HB12.out)
          have C12 := Lib.hid (C7c.out.below HB12.out)
          clear hcell t3 t4 R12
          go_wp2
          go_loopw [17] (fun i wx => w12 = wx ∧ ∃ k : Nat, s.size ≤ k ∧ k ≤ s.size + 8 ∧ i = .int .i64 k) (fun i _ => s.size + 8 - (intOf i).toNat)
          case atStart => exact ⟨rfl, s.size, Nat.le_refl _, by omega, rfl⟩
          case round =>
            obtain ⟨rfl, k, hk1, hk2, rfl⟩ := hrel
            by_cases hlt : k < s.size + 8
            · have hck := HCELL.out k hk1 hlt
              have h0 : (0 : Int) ≤ (k : Int) := by omega
              have h1 : (k : Int) < (s.size : Int) + 8 := by omega
              go_wp2
              go_roundw
              case rel => exact ⟨by trivial, k + 1, by omega, by omega, by go_num⟩
              case measure => simp [intOf]; omega
            · obtain rfl : k = s.size + 8 := by omega
              go_wp2
              go_loopw [18] (fun i wx => ∃ k : Nat, k ≤ ls.length ∧ i = .int .i64 k ∧ Below w12.heap.size w12 wx) (fun i _ => ls.length - (intOf i).toNat)
              case atStart => exact ⟨0, Nat.zero_le _, rfl, Below.refl _ _⟩
              case round =>
                obtain ⟨k, hk, rfl, hbel⟩ := hrel
                have NX := N12.out.below hbel
                have CX := C12.out.below hbel
                obtain ⟨gn, hgn, u1, u2, u3, u4⟩ := NX.addr (by have := NX.le; omega)
                simp at hgn
                subst hgn
                have HBX := Lib.hid hbel
                by_cases hlt : k < ls.length
                · obtain ⟨gc, hgc, v1, v2, v3, v4⟩ := CX.addr (by have := CX.le; omega)
                  obtain ⟨x, hx⟩ : ∃ x, xs[k]? = some x := ⟨_, List.getElem?_eq_getElem (by rw [HXL.out]; exact hlt)⟩
                  have hxs : x < 65536 := HXT.out x (List.mem_of_getElem? hx)
                  have hca : wr.cell? ⟨g1, k, none⟩ = some (.int .u16 x) := u3 k _ (by rw [List.getElem?_append_left (by rw [List.length_map, HXL.out]; exact hlt), List.getElem?_map, hx]; rfl)
                  have hcd : wr.cell? ⟨gc, k, none⟩ = some (.int .u32 x) := v3 k _ (by rw [List.getElem?_map, hx]; rfl)
                  subst hgc
                  have h0 : (0 : Int) ≤ (k : Int) := by omega
                  have h1 : (k : Int) < (ls.length : Int) := by omega
                  clear hbel NX CX u3 u4 v3 v4 hx
                  go_wp2
                  go_quiet (fail)
                  go_wp2
                  go_roundw
                  case rel => exact ⟨k + 1, by omega, by go_num, below_drewN HBX.out nq⟩
                  case measure => simp [intOf]; omega
                · obtain rfl : k = ls.length := by omega
                  have hca : wr.cell? ⟨g1, ls.length, none⟩ = some (.int .u16 77) := u3 ls.length _ (by rw [List.getElem?_append_right (by rw [List.length_map, HXL.out]; exact Nat.le_refl _), List.length_map, HXL.out, Nat.sub_self]; rfl)
                  clear hbel NX CX u3 u4
                  go_wp2
                  go_ret
                  exact ⟨rfl, after (after B7c.out HB12.out) HBX.out⟩

theorem put2_u32 (s : ByteArray) (xs : List Nat) (n : Nat) (hl : xs.length = n) (g7 c7 g1 c5 : Nat) (W : World) (h1 : Cells W (some ⟨g7, 0, none⟩) (s.data.toList.map byteV)) (h2 : Cells W (some ⟨g1, 0, none⟩) (xs.map (numV .u32)))
    (hx : ∀ x ∈ xs, x < 4294967296) (hs : s.size ≤ 1048576) (hn : n ≤ 1048576) :
    Calls Try.prog 49 #[.slice (some ⟨g7, 0, none⟩) s.size c7, .slice (some ⟨g1, 0, none⟩) n c5] W fun e w' => ∃ a c, e = .returned (.slice a (laidStr 4 s xs).size c) ∧ Own w' W.heap.size 1 a (laidStr 4 s xs).size c ((laidStr 4 s xs).data.toList.map byteV) ∧ Below W.heap.size W w' := by
  subst hl
  refine (put_u32 (some ⟨g7, 0, none⟩) c7 s.data.toList (some ⟨g1, 0, none⟩) c5 xs W h1 h2 hx ?_).mono ?_
  · have : s.data.toList.length = s.size := by simp
    omega
  rintro e w' ⟨a, n, c, rfl, hown, hb⟩
  obtain rfl : n = (laidStr 4 s xs).size := by
    have := hown.len
    rw [laidStr_size]
    rw [List.length_map, laidAt_length] at this
    simpa using this.symm
  exact ⟨a, c, rfl, hown, hb⟩

set_option maxRecDepth 20000 in
set_option maxHeartbeats 8000000 in
theorem laid_u32 (s : ByteArray) (al : Option Addr) (cl : Nat) (ls : List Nat) (w : World) (hs : s.size ≤ 1048576) (hn : ls.length ≤ 1048576) (hcl : Cells w al (ls.map (numV .u32))) (hx : ∀ x ∈ ls, x < 4294967296) :
    Calls Try.prog 22 #[.string s, .slice al ls.length cl, .int .i64 4] w fun e w' => e = .returned (.bool true) ∧ Below w.heap.size w w' := by
  obtain ⟨i0, hi, hz0, hz1, hz2⟩ := info_parts info23n
  obtain ⟨i1, ji, jz0, jz1, jz2⟩ := info_parts info23n
  obtain ⟨i2, ki, kz0, kz1, kz2⟩ := info_parts info5
  have HCL := Lib.hid hcl
  have HXS := Lib.hid hx
  clear hcl hx
  go_enter Try.func22, Try.ntmps22
  go_wp2
  go_loopw [7, 8, 9] (fun v u i wr => ∃ (k : Nat) (a : Option Addr) (c : Nat) (a' : Option Addr) (c' : Nat), k ≤ ls.length ∧ i = .int .i64 k ∧ v = .slice a k c ∧ u = .slice a' k c' ∧ Own wr w.heap.size 1 a k c (((ls.take k).map (· % 4294967296)).map (numV .u32)) ∧ Own wr w.heap.size 1 a' k c' (((ls.take k).map (· % 4294967296)).map (numV .u32)) ∧ (a' = none ∨ blockOf a' ≠ blockOf a) ∧ (a = none ∨ blockOf a ≠ blockOf a') ∧ Below w.heap.size w wr) (fun _ _ i _ => ls.length - (intOf i).toNat)
  case atStart => exact ⟨0, none, 0, none, 0, Nat.zero_le _, rfl, rfl, rfl, Own.nil _ _ _, Own.nil _ _ _, .inl rfl, .inl rfl, Below.refl _ _⟩
  case round =>
    obtain ⟨k, a, c, a', c', hk, rfl, rfl, rfl, hA, hC, pca, pac, hbel⟩ := hrel
    by_cases hlt : k < ls.length
    · obtain ⟨g, off, x, rfl, hxk, hck⟩ := (HCL.out.below hbel).at hlt
      have hxt := HXS.out x (List.mem_of_getElem? hxk)
      obtain ⟨y, hy⟩ : ∃ y, y = x % 4294967296 := ⟨_, rfl⟩
      have hyt : y < 4294967296 := by omega
      have hconv : (x : Int) = (y : Int) := by omega
      have HY := Lib.hid hy
      have HX := Lib.hid hxk
      unfold numV at hck
      have PCA := Lib.hid pca
      have PAC := Lib.hid pac
      have HC := Lib.hid hC
      have HBEL := Lib.hid hbel
      clear hxk hy pca pac hC hbel
      have h0 : (0 : Int) ≤ (k : Int) := by omega
      have h1 : (k : Int) < (ls.length : Int) := by omega
      go_wp2_with (first
        | (at_builtin; refine wpList_app rfl _ _ 29 29 rfl 23 i0 (.int .u32 0) 1 4 Try.underlying29 hi hz0 hz1 hz2 rfl (by simp [Value.cells, Value.oneCell']) w.heap.size _ _ _ _ rfl (hA.alloc _) _ 1 [.int .u32 (y : Int)] rfl (Src.ofCells Try.underlying29 _ _ _ _ rfl (Cells.new _ _ _) (by simp [Value.oneCell']) (by decide)) (by simp [maxLen]; omega) (by omega) (by have := HBEL.out.size; simp; omega) ?_; intro a4 c4 w4 hown4 hap4; have hb4 := Lib.hid ((HBEL.out.alloc HBEL.out.size _).trans (hap4.below (hA.alloc _) (by have := HBEL.out.size; simp; omega))); have HO4 := Lib.hid hown4; have hC4 := hap4.other (HC.out.alloc _) PCA.out; have P4 := Lib.hid (hap4.apart (HC.out.alloc _) PCA.out); clear hown4 hap4 hA hck hconv)
        | (at_builtin; refine wpList_app rfl _ _ 29 29 rfl 23 i1 (.int .u32 0) 1 4 Try.underlying29 ji jz0 jz1 jz2 rfl (by simp [Value.cells, Value.oneCell']) w.heap.size _ _ _ _ rfl (hC4.alloc _) _ 1 [.int .u32 (y : Int)] rfl (Src.ofCells Try.underlying29 _ _ _ _ rfl (Cells.new _ _ _) (by simp [Value.oneCell']) (by decide)) (by simp [maxLen]; omega) (by omega) (by have := hb4.out.size; simp; omega) ?_; intro a5 c5 w5 hown5 hap5; have hb5 := Lib.hid ((hb4.out.alloc hb4.out.size _).trans (hap5.below (hC4.alloc _) (by have := hb4.out.size; simp; omega))); have HO5 := Lib.hid hown5; have q4 := sym_apart P4.out; have HN5 := Lib.hid (hap5.other (HO4.out.alloc _) q4); have P5 := Lib.hid (hap5.apart (HO4.out.alloc _) q4); clear hown5 hap5 hC4 q4))
      go_roundw
      case rel =>
        have e1 : ∀ K, ((ls.take (k + 1)).map (· % 4294967296)).map (numV K) = ((ls.take k).map (· % 4294967296)).map (numV K) ++ [.int K (y : Int)] := fun K => by
          rw [List.take_add_one, HX.out]
          simp [numV, HY.out]
        exact ⟨k + 1, a4, c4, a5, c5, by omega, by go_num, rfl, rfl, HN5.out.mapcong (e1 _).symm, HO5.out.mapcong (e1 _).symm, sym_apart P5.out, P5.out, hb5.out⟩
      case measure => simp [intOf]; omega
    · obtain rfl : k = ls.length := by omega
      rw [List.take_of_length_le (Nat.le_refl _)] at hA hC
      obtain ⟨xs, hxs⟩ : ∃ xs, xs = ls.map (· % 4294967296) := ⟨_, rfl⟩
      rw [← hxs] at hA hC
      have hxl : xs.length = ls.length := by rw [hxs]; simp
      have hxt : ∀ x ∈ xs, x < 4294967296 := fun x hx => by
        rw [hxs] at hx
        obtain ⟨y, _, rfl⟩ := List.mem_map.1 hx
        exact Nat.mod_lt _ (by decide)
      have HXL := Lib.hid hxl
      have HXT := Lib.hid hxt
      have PCA := Lib.hid pca
      have HC := Lib.hid hC
      have HBEL := Lib.hid hbel
      clear hxs hxl hxt pca pac hC hbel
      obtain ⟨T, hT⟩ : ∃ T, T = laidStr 4 s xs := ⟨_, rfl⟩
      have hTs : T.size ≤ 5242880 := by
        rw [hT, laidStr_size, HXL.out]
        omega
      have HT := Lib.hid hT
      clear hT
      go_wp2_with (first
        | (at_builtin; refine wpList_app rfl _ _ 29 29 rfl 23 i0 (.int .u32 0) 1 4 Try.underlying29 hi hz0 hz1 hz2 rfl (by simp [Value.cells, Value.oneCell']) w.heap.size _ _ _ _ rfl (hA.alloc _) _ 1 [.int .u32 77] rfl (Src.ofCells Try.underlying29 _ _ _ _ rfl (Cells.new _ _ _) (by simp [Value.oneCell']) (by decide)) (by simp [maxLen]; omega) (by omega) (by have := HBEL.out.size; simp; omega) ?_; intro a4 c4 w4 hown4 hap4; have hb4 := Lib.hid ((HBEL.out.alloc HBEL.out.size _).trans (hap4.below (hA.alloc _) (by have := HBEL.out.size; simp; omega))); obtain ⟨g1, rfl, _, hg1, _⟩ := hown4.addr (by have := hown4.le; omega); have HN4 := Lib.hid hown4; have HC4 := Lib.hid (hap4.other (HC.out.alloc _) PCA.out); have hle4 := hown4.le; clear hown4 hap4 hA)
        | (with_reducible refine wpList_bytes rfl _ 9 50 5 rfl Try.underlying9 Try.underlying50 Try.underlying5 s rfl (by simp [maxLen]; omega) ?_; intro g6 c6 w6 hown6 hb6)
        | (at_builtin; refine wpList_app rfl _ _ 50 50 rfl 5 i2 (.int .u8 0) 1 1 Try.underlying50 ki kz0 kz1 kz2 rfl (by simp [Value.cells, Value.oneCell']) w4.heap.size _ _ _ _ rfl (hown6.alloc _) _ 8 nines rfl (Src.ofCells Try.underlying50 _ _ _ _ rfl (Cells.new _ nines _) (by simp [nines, Value.oneCell']) (by decide)) (by simp [maxLen]; omega) (by omega) (by have := hb6.size; simp; omega) ?_; intro a7 c7 w7 hown7 hap7; have hb7 := Lib.hid ((hb6.alloc hb6.size _).trans (hap7.below (hown6.alloc _) (by have := hb6.size; simp; omega))); obtain ⟨g7, rfl, _, hg7, _⟩ := hown7.addr (by have := hown7.le; omega); have HR7 := Lib.hid hown7; have hle7 := hown7.le; clear hown7 hap7 hown6 hb6)
        | fail)
      have N7 := HN4.out.below hb7.out
      have C7 := HC4.out.below hb7.out
      have B7 := after hb4.out hb7.out
      have np := N7.prefix ls.length (by omega)
      rw [Nat.mul_one, List.take_left' (by rw [List.length_map, HXL.out])] at np
      have rp := HR7.out.prefix s.size (by omega)
      rw [Nat.mul_one, List.take_left' (by simp)] at rp
      have N7c := Lib.hid N7
      have C7c := Lib.hid C7
      have B7c := Lib.hid B7
      have NP := Lib.hid np
      have RP := Lib.hid rp
      clear N7 C7 B7 np rp hg1 hg7
      refine (put2_u32 s xs ls.length HXL.out g7 c7 g1 c4 w7 RP.out.toCells NP.out.toCells HXT.out hs hn).mono ?_
      rintro e w8 ⟨a8, c8, rfl, hown8, hb8⟩
      rw [← HT.out] at hown8 ⊢
      have H8 := Lib.hid hown8
      have B8 := Lib.hid hb8
      clear hown8 hb8
      go_wp2_with fail
      refine (put2_u32 s xs ls.length HXL.out g7 c7 g1 c4 w8 (RP.out.below B8.out).toCells (NP.out.below B8.out).toCells HXT.out hs hn).mono ?_
      rintro e w9 ⟨a9, c9, rfl, hown9, hb9⟩
      rw [← HT.out] at hown9 ⊢
      have H9 := Lib.hid hown9
      have B9 := Lib.hid hb9
      clear hown9 hb9
      go_wp2_with fail
      have hrp := rput_any 4 s a' c' xs w9 (by omega) ((C7c.out.below B8.out).below B9.out).toCells (fun x hx => by have := HXT.out x hx; omega) hs (by rw [HXL.out]; exact hn)
      rw [HXL.out] at hrp
      refine hrp.mono ?_
      rintro e w10 ⟨rfl, hb10⟩
      rw [← HT.out]
      clear hrp
      have B10 := Lib.hid hb10
      clear hb10
      have hTl : T.data.toList.length = T.size := by simp
      have hcv1 : (convert 50 9 (.slice a8 T.size c8)).run Try.prog w10 = .ok (.string T) w10 := run_str (w := w10) (P := Try.prog) 50 9 5 Try.underlying50 Try.underlying5 Try.underlying9 a8 T.size c8 T.data.toList hTl ((H8.out.below B9.out).below B10.out).toCells
      have hcv2 : (convert 50 9 (.slice a9 T.size c9)).run Try.prog w10 = .ok (.string T) w10 := run_str (w := w10) (P := Try.prog) 50 9 5 Try.underlying50 Try.underlying5 Try.underlying9 a9 T.size c9 T.data.toList hTl (H9.out.below B10.out).toCells
      have HTL := Lib.hid hTl
      clear hTl
      go_wp2
      clear hcv1 hcv2
      have p89 := apart_of H8.out H9.out
      have P89 := Lib.hid p89
      clear p89
      go_loopw [16] (fun i wr => ∃ (k : Nat) (l : List Value), k ≤ T.size ∧ i = .int .i64 k ∧ (∀ j, k ≤ j → l[j]? = (T.data.toList.map byteV)[j]?) ∧ Own wr w7.heap.size 1 a8 T.size c8 l ∧ Own wr w8.heap.size 1 a9 T.size c9 (T.data.toList.map byteV) ∧ Below w7.heap.size w7 wr) (fun i _ => T.size - (intOf i).toNat)
      case atStart => exact ⟨0, _, Nat.zero_le _, rfl, fun _ _ => rfl, (H8.out.below B9.out).below B10.out, H9.out.below B10.out, after (after B8.out B9.out) B10.out⟩
      case round =>
        obtain ⟨k, l, hk, rfl, hl, hA, hB, hbel⟩ := hrel
        by_cases hlt : k < T.size
        · obtain ⟨ga, hga, q1, q2, q3, q4⟩ := hA.addr (by have := hA.le; omega)
          have hca : wr.cell? ⟨ga, k, none⟩ = some (.int .u8 T[k].toNat) := q3 k _ (by rw [hl k (Nat.le_refl _), List.getElem?_map, List.getElem?_eq_getElem (by simpa using hlt)]; rfl)
          have hf := (q4 k (by have := hA.le; omega)).2
          subst hga
          have H1 := Lib.hid hl
          have H2 := Lib.hid hA
          have H3 := Lib.hid hB
          have H5 := Lib.hid hbel
          clear hl hA hB hbel q3 q4
          have h0 : (0 : Int) ≤ (k : Int) := by omega
          have h1 : (k : Int) < (T.size : Int) := by omega
          go_wp2
          go_roundw
          case rel =>
            refine ⟨k + 1, l.set k _, by omega, by go_num, ?_, H2.out.stored k hlt _, H3.out.stored_other _ _ (apart_block H3.out P89.out), H5.out.setCell (p := ⟨ga, k, none⟩) q1 _⟩
            intro j hj
            rw [List.getElem?_set_ne (by omega)]
            exact H1.out j (by omega)
          case measure => simp [intOf]; omega
        · obtain rfl : T.size = k := by omega
          have H3 := Lib.hid hB
          have H5 := Lib.hid hbel
          clear hl hB hbel
          have hcvs : ∀ W, Below w7.heap.size w7 W → (convert 50 9 (.slice (some ⟨g7, 0, none⟩) s.size c7)).run Try.prog W = .ok (.string s) W := fun W h => run_str (w := W) (P := Try.prog) 50 9 5 Try.underlying50 Try.underlying5 Try.underlying9 (some ⟨g7, 0, none⟩) s.size c7 s.data.toList (by simp) (RP.out.below h).toCells
          have hcvt : ∀ W, Own W w8.heap.size 1 a9 T.size c9 (T.data.toList.map byteV) → (convert 50 9 (.slice a9 T.size c9)).run Try.prog W = .ok (.string T) W := fun W h => run_str (w := W) (P := Try.prog) 50 9 5 Try.underlying50 Try.underlying5 Try.underlying9 a9 T.size c9 T.data.toList HTL.out h.toCells
          have HCVS := Lib.hid hcvs
          have HCVT := Lib.hid hcvt
          clear hcvs hcvt
          go_wp2_with (at_builtin; refine wpList_app rfl _ _ 50 50 rfl 5 i2 (.int .u8 0) 1 1 Try.underlying50 ki kz0 kz1 kz2 rfl (by simp [Value.cells, Value.oneCell']) w7.heap.size _ _ _ _ rfl (hA.alloc _) _ 8 [.int .u8 1, .int .u8 2, .int .u8 3, .int .u8 4, .int .u8 5, .int .u8 6, .int .u8 7, .int .u8 8] rfl (Src.ofCells Try.underlying50 _ _ _ _ rfl (Cells.new _ _ _) (by simp [Value.oneCell']) (by decide)) (by simp [maxLen]; omega) (by omega) (by have := H5.out.size; simp; omega) ?_; intro a12 c12 w12 hown12 hap12; have hb12 := (H5.out.alloc H5.out.size _).trans (hap12.below (hA.alloc _) (by have := H5.out.size; simp; omega)); have hc1 := HCVS.out w12 hb12; have hc2 := HCVT.out w12 (hap12.other (H3.out.alloc _) P89.out); have HB12 := Lib.hid hb12; clear hown12 hap12 hA hb12)
          clear hc1 hc2
          have R12 := HR7.out.below HB12.out
          obtain ⟨gr, hgr, t1, t2, t3, t4⟩ := R12.addr (by have := R12.le; omega)
          simp at hgr
          subst hgr
          have hcell : ∀ k, s.size ≤ k → k < s.size + 8 → w12.cell? ⟨g7, k, none⟩ = some (.int .u8 9) := fun k h1 h2 => t3 k _ (by
            rw [List.getElem?_append_right (by simpa using h1), List.length_map]
            have e : s.data.toList.length = s.size := by simp
            rw [e]
            unfold nines
            rw [List.getElem?_replicate, if_pos (by omega)])
          have HCELL := Lib.hid hcell
          have N12 := Lib.hid (N7c.out.below HB12.out)
          have C12 := Lib.hid (C7c.out.below HB12.out)
          clear hcell t3 t4 R12
          go_wp2
          go_loopw [17] (fun i wx => w12 = wx ∧ ∃ k : Nat, s.size ≤ k ∧ k ≤ s.size + 8 ∧ i = .int .i64 k) (fun i _ => s.size + 8 - (intOf i).toNat)
          case atStart => exact ⟨rfl, s.size, Nat.le_refl _, by omega, rfl⟩
          case round =>
            obtain ⟨rfl, k, hk1, hk2, rfl⟩ := hrel
            by_cases hlt : k < s.size + 8
            · have hck := HCELL.out k hk1 hlt
              have h0 : (0 : Int) ≤ (k : Int) := by omega
              have h1 : (k : Int) < (s.size : Int) + 8 := by omega
              go_wp2
              go_roundw
              case rel => exact ⟨by trivial, k + 1, by omega, by omega, by go_num⟩
              case measure => simp [intOf]; omega
            · obtain rfl : k = s.size + 8 := by omega
              go_wp2
              go_loopw [18] (fun i wx => ∃ k : Nat, k ≤ ls.length ∧ i = .int .i64 k ∧ Below w12.heap.size w12 wx) (fun i _ => ls.length - (intOf i).toNat)
              case atStart => exact ⟨0, Nat.zero_le _, rfl, Below.refl _ _⟩
              case round =>
                obtain ⟨k, hk, rfl, hbel⟩ := hrel
                have NX := N12.out.below hbel
                have CX := C12.out.below hbel
                obtain ⟨gn, hgn, u1, u2, u3, u4⟩ := NX.addr (by have := NX.le; omega)
                simp at hgn
                subst hgn
                have HBX := Lib.hid hbel
                by_cases hlt : k < ls.length
                · obtain ⟨gc, hgc, v1, v2, v3, v4⟩ := CX.addr (by have := CX.le; omega)
                  obtain ⟨x, hx⟩ : ∃ x, xs[k]? = some x := ⟨_, List.getElem?_eq_getElem (by rw [HXL.out]; exact hlt)⟩
                  have hxs : x < 4294967296 := HXT.out x (List.mem_of_getElem? hx)
                  have hca : wr.cell? ⟨g1, k, none⟩ = some (.int .u32 x) := u3 k _ (by rw [List.getElem?_append_left (by rw [List.length_map, HXL.out]; exact hlt), List.getElem?_map, hx]; rfl)
                  have hcd : wr.cell? ⟨gc, k, none⟩ = some (.int .u32 x) := v3 k _ (by rw [List.getElem?_map, hx]; rfl)
                  subst hgc
                  have h0 : (0 : Int) ≤ (k : Int) := by omega
                  have h1 : (k : Int) < (ls.length : Int) := by omega
                  clear hbel NX CX u3 u4 v3 v4 hx
                  go_wp2
                  go_quiet (fail)
                  go_wp2
                  go_roundw
                  case rel => exact ⟨k + 1, by omega, by go_num, below_drewN HBX.out nq⟩
                  case measure => simp [intOf]; omega
                · obtain rfl : k = ls.length := by omega
                  have hca : wr.cell? ⟨g1, ls.length, none⟩ = some (.int .u32 77) := u3 ls.length _ (by rw [List.getElem?_append_right (by rw [List.length_map, HXL.out]; exact Nat.le_refl _), List.length_map, HXL.out, Nat.sub_self]; rfl)
                  clear hbel NX CX u3 u4
                  go_wp2
                  go_ret
                  exact ⟨rfl, after (after B7c.out HB12.out) HBX.out⟩

theorem put2_small (s : ByteArray) (xs : List Nat) (n : Nat) (hl : xs.length = n) (g7 c7 g1 c5 : Nat) (W : World) (h1 : Cells W (some ⟨g7, 0, none⟩) (s.data.toList.map byteV)) (h2 : Cells W (some ⟨g1, 0, none⟩) (xs.map (numV .u8)))
    (hx : ∀ x ∈ xs, x < 256) (hs : s.size ≤ 1048576) (hn : n ≤ 1048576) :
    Calls Try.prog 50 #[.slice (some ⟨g7, 0, none⟩) s.size c7, .slice (some ⟨g1, 0, none⟩) n c5] W fun e w' => ∃ a c, e = .returned (.slice a (laidStr 1 s xs).size c) ∧ Own w' W.heap.size 1 a (laidStr 1 s xs).size c ((laidStr 1 s xs).data.toList.map byteV) ∧ Below W.heap.size W w' := by
  subst hl
  refine (put_small (some ⟨g7, 0, none⟩) c7 s.data.toList (some ⟨g1, 0, none⟩) c5 xs W h1 h2 hx ?_).mono ?_
  · have : s.data.toList.length = s.size := by simp
    omega
  rintro e w' ⟨a, n, c, rfl, hown, hb⟩
  obtain rfl : n = (laidStr 1 s xs).size := by
    have := hown.len
    rw [laidStr_size]
    rw [List.length_map, laidAt_length] at this
    simpa using this.symm
  exact ⟨a, c, rfl, hown, hb⟩

set_option maxRecDepth 20000 in
set_option maxHeartbeats 8000000 in
theorem laid_small (s : ByteArray) (al : Option Addr) (cl : Nat) (ls : List Nat) (w : World) (hs : s.size ≤ 1048576) (hn : ls.length ≤ 1048576) (hcl : Cells w al (ls.map (numV .u32))) (hx : ∀ x ∈ ls, x < 4294967296) :
    Calls Try.prog 23 #[.string s, .slice al ls.length cl, .int .i64 1] w fun e w' => e = .returned (.bool true) ∧ Below w.heap.size w w' := by
  obtain ⟨i0, hi, hz0, hz1, hz2⟩ := info_parts info32n
  obtain ⟨i1, ji, jz0, jz1, jz2⟩ := info_parts info23n
  obtain ⟨i2, ki, kz0, kz1, kz2⟩ := info_parts info5
  have HCL := Lib.hid hcl
  have HXS := Lib.hid hx
  clear hcl hx
  go_enter Try.func23, Try.ntmps23
  go_wp2
  go_loopw [7, 8, 9] (fun v u i wr => ∃ (k : Nat) (a : Option Addr) (c : Nat) (a' : Option Addr) (c' : Nat), k ≤ ls.length ∧ i = .int .i64 k ∧ v = .slice a k c ∧ u = .slice a' k c' ∧ Own wr w.heap.size 1 a k c (((ls.take k).map (· % 256)).map (numV .u8)) ∧ Own wr w.heap.size 1 a' k c' (((ls.take k).map (· % 256)).map (numV .u32)) ∧ (a' = none ∨ blockOf a' ≠ blockOf a) ∧ (a = none ∨ blockOf a ≠ blockOf a') ∧ Below w.heap.size w wr) (fun _ _ i _ => ls.length - (intOf i).toNat)
  case atStart => exact ⟨0, none, 0, none, 0, Nat.zero_le _, rfl, rfl, rfl, Own.nil _ _ _, Own.nil _ _ _, .inl rfl, .inl rfl, Below.refl _ _⟩
  case round =>
    obtain ⟨k, a, c, a', c', hk, rfl, rfl, rfl, hA, hC, pca, pac, hbel⟩ := hrel
    by_cases hlt : k < ls.length
    · obtain ⟨g, off, x, rfl, hxk, hck⟩ := (HCL.out.below hbel).at hlt
      have hxt := HXS.out x (List.mem_of_getElem? hxk)
      obtain ⟨y, hy⟩ : ∃ y, y = x % 256 := ⟨_, rfl⟩
      have hyt : y < 256 := by omega
      have hconv : True := trivial
      have HY := Lib.hid hy
      have HX := Lib.hid hxk
      unfold numV at hck
      have PCA := Lib.hid pca
      have PAC := Lib.hid pac
      have HC := Lib.hid hC
      have HBEL := Lib.hid hbel
      clear hxk hy pca pac hC hbel
      have h0 : (0 : Int) ≤ (k : Int) := by omega
      have h1 : (k : Int) < (ls.length : Int) := by omega
      go_wp2_with (first
        | (at_builtin; refine wpList_app rfl _ _ 72 72 rfl 32 i0 (.int .u8 0) 1 1 Try.underlying72 hi hz0 hz1 hz2 rfl (by simp [Value.cells, Value.oneCell']) w.heap.size _ _ _ _ rfl (hA.alloc _) _ 1 [.int .u8 ((x : Int) % 256)] rfl (Src.ofCells Try.underlying72 _ _ _ _ rfl (Cells.new _ _ _) (by simp [Value.oneCell']) (by decide)) (by simp [maxLen]; omega) (by omega) (by have := HBEL.out.size; simp; omega) ?_; intro a4 c4 w4 hown4 hap4; have hb4 := Lib.hid ((HBEL.out.alloc HBEL.out.size _).trans (hap4.below (hA.alloc _) (by have := HBEL.out.size; simp; omega))); have HO4 := Lib.hid hown4; have hC4 := hap4.other (HC.out.alloc _) PCA.out; have P4 := Lib.hid (hap4.apart (HC.out.alloc _) PCA.out); clear hown4 hap4 hA hck hconv)
        | (at_builtin; refine wpList_app rfl _ _ 29 29 rfl 23 i1 (.int .u32 0) 1 4 Try.underlying29 ji jz0 jz1 jz2 rfl (by simp [Value.cells, Value.oneCell']) w.heap.size _ _ _ _ rfl (hC4.alloc _) _ 1 [.int .u32 ((x : Int) % 256)] rfl (Src.ofCells Try.underlying29 _ _ _ _ rfl (Cells.new _ _ _) (by simp [Value.oneCell']) (by decide)) (by simp [maxLen]; omega) (by omega) (by have := hb4.out.size; simp; omega) ?_; intro a5 c5 w5 hown5 hap5; have hb5 := Lib.hid ((hb4.out.alloc hb4.out.size _).trans (hap5.below (hC4.alloc _) (by have := hb4.out.size; simp; omega))); have HO5 := Lib.hid hown5; have q4 := sym_apart P4.out; have HN5 := Lib.hid (hap5.other (HO4.out.alloc _) q4); have P5 := Lib.hid (hap5.apart (HO4.out.alloc _) q4); clear hown5 hap5 hC4 q4))
      go_roundw
      case rel =>
        have e1 : ∀ K, ((ls.take (k + 1)).map (· % 256)).map (numV K) = ((ls.take k).map (· % 256)).map (numV K) ++ [.int K ((x : Int) % 256)] := fun K => by
          rw [List.take_add_one, HX.out]
          simp [numV, HY.out]
        exact ⟨k + 1, a4, c4, a5, c5, by omega, by go_num, rfl, rfl, HN5.out.mapcong (e1 _).symm, HO5.out.mapcong (e1 _).symm, sym_apart P5.out, P5.out, hb5.out⟩
      case measure => simp [intOf]; omega
    · obtain rfl : k = ls.length := by omega
      rw [List.take_of_length_le (Nat.le_refl _)] at hA hC
      obtain ⟨xs, hxs⟩ : ∃ xs, xs = ls.map (· % 256) := ⟨_, rfl⟩
      rw [← hxs] at hA hC
      have hxl : xs.length = ls.length := by rw [hxs]; simp
      have hxt : ∀ x ∈ xs, x < 256 := fun x hx => by
        rw [hxs] at hx
        obtain ⟨y, _, rfl⟩ := List.mem_map.1 hx
        exact Nat.mod_lt _ (by decide)
      have HXL := Lib.hid hxl
      have HXT := Lib.hid hxt
      have PCA := Lib.hid pca
      have HC := Lib.hid hC
      have HBEL := Lib.hid hbel
      clear hxs hxl hxt pca pac hC hbel
      obtain ⟨T, hT⟩ : ∃ T, T = laidStr 1 s xs := ⟨_, rfl⟩
      have hTs : T.size ≤ 5242880 := by
        rw [hT, laidStr_size, HXL.out]
        omega
      have HT := Lib.hid hT
      clear hT
      go_wp2_with (first
        | (at_builtin; refine wpList_app rfl _ _ 72 72 rfl 32 i0 (.int .u8 0) 1 1 Try.underlying72 hi hz0 hz1 hz2 rfl (by simp [Value.cells, Value.oneCell']) w.heap.size _ _ _ _ rfl (hA.alloc _) _ 1 [.int .u8 77] rfl (Src.ofCells Try.underlying72 _ _ _ _ rfl (Cells.new _ _ _) (by simp [Value.oneCell']) (by decide)) (by simp [maxLen]; omega) (by omega) (by have := HBEL.out.size; simp; omega) ?_; intro a4 c4 w4 hown4 hap4; have hb4 := Lib.hid ((HBEL.out.alloc HBEL.out.size _).trans (hap4.below (hA.alloc _) (by have := HBEL.out.size; simp; omega))); obtain ⟨g1, rfl, _, hg1, _⟩ := hown4.addr (by have := hown4.le; omega); have HN4 := Lib.hid hown4; have HC4 := Lib.hid (hap4.other (HC.out.alloc _) PCA.out); have hle4 := hown4.le; clear hown4 hap4 hA)
        | (with_reducible refine wpList_bytes rfl _ 9 50 5 rfl Try.underlying9 Try.underlying50 Try.underlying5 s rfl (by simp [maxLen]; omega) ?_; intro g6 c6 w6 hown6 hb6)
        | (at_builtin; refine wpList_app rfl _ _ 50 50 rfl 5 i2 (.int .u8 0) 1 1 Try.underlying50 ki kz0 kz1 kz2 rfl (by simp [Value.cells, Value.oneCell']) w4.heap.size _ _ _ _ rfl (hown6.alloc _) _ 8 nines rfl (Src.ofCells Try.underlying50 _ _ _ _ rfl (Cells.new _ nines _) (by simp [nines, Value.oneCell']) (by decide)) (by simp [maxLen]; omega) (by omega) (by have := hb6.size; simp; omega) ?_; intro a7 c7 w7 hown7 hap7; have hb7 := Lib.hid ((hb6.alloc hb6.size _).trans (hap7.below (hown6.alloc _) (by have := hb6.size; simp; omega))); obtain ⟨g7, rfl, _, hg7, _⟩ := hown7.addr (by have := hown7.le; omega); have HR7 := Lib.hid hown7; have hle7 := hown7.le; clear hown7 hap7 hown6 hb6)
        | fail)
      have N7 := HN4.out.below hb7.out
      have C7 := HC4.out.below hb7.out
      have B7 := after hb4.out hb7.out
      have np := N7.prefix ls.length (by omega)
      rw [Nat.mul_one, List.take_left' (by rw [List.length_map, HXL.out])] at np
      have rp := HR7.out.prefix s.size (by omega)
      rw [Nat.mul_one, List.take_left' (by simp)] at rp
      have N7c := Lib.hid N7
      have C7c := Lib.hid C7
      have B7c := Lib.hid B7
      have NP := Lib.hid np
      have RP := Lib.hid rp
      clear N7 C7 B7 np rp hg1 hg7
      refine (put2_small s xs ls.length HXL.out g7 c7 g1 c4 w7 RP.out.toCells NP.out.toCells HXT.out hs hn).mono ?_
      rintro e w8 ⟨a8, c8, rfl, hown8, hb8⟩
      rw [← HT.out] at hown8 ⊢
      have H8 := Lib.hid hown8
      have B8 := Lib.hid hb8
      clear hown8 hb8
      go_wp2_with fail
      refine (put2_small s xs ls.length HXL.out g7 c7 g1 c4 w8 (RP.out.below B8.out).toCells (NP.out.below B8.out).toCells HXT.out hs hn).mono ?_
      rintro e w9 ⟨a9, c9, rfl, hown9, hb9⟩
      rw [← HT.out] at hown9 ⊢
      have H9 := Lib.hid hown9
      have B9 := Lib.hid hb9
      clear hown9 hb9
      go_wp2_with fail
      have hrp := rput_any 1 s a' c' xs w9 (by omega) ((C7c.out.below B8.out).below B9.out).toCells (fun x hx => by have := HXT.out x hx; omega) hs (by rw [HXL.out]; exact hn)
      rw [HXL.out] at hrp
      refine hrp.mono ?_
      rintro e w10 ⟨rfl, hb10⟩
      rw [← HT.out]
      clear hrp
      have B10 := Lib.hid hb10
      clear hb10
      have hTl : T.data.toList.length = T.size := by simp
      have hcv1 : (convert 50 9 (.slice a8 T.size c8)).run Try.prog w10 = .ok (.string T) w10 := run_str (w := w10) (P := Try.prog) 50 9 5 Try.underlying50 Try.underlying5 Try.underlying9 a8 T.size c8 T.data.toList hTl ((H8.out.below B9.out).below B10.out).toCells
      have hcv2 : (convert 50 9 (.slice a9 T.size c9)).run Try.prog w10 = .ok (.string T) w10 := run_str (w := w10) (P := Try.prog) 50 9 5 Try.underlying50 Try.underlying5 Try.underlying9 a9 T.size c9 T.data.toList hTl (H9.out.below B10.out).toCells
      have HTL := Lib.hid hTl
      clear hTl
      go_wp2
      clear hcv1 hcv2
      have p89 := apart_of H8.out H9.out
      have P89 := Lib.hid p89
      clear p89
      go_loopw [16] (fun i wr => ∃ (k : Nat) (l : List Value), k ≤ T.size ∧ i = .int .i64 k ∧ (∀ j, k ≤ j → l[j]? = (T.data.toList.map byteV)[j]?) ∧ Own wr w7.heap.size 1 a8 T.size c8 l ∧ Own wr w8.heap.size 1 a9 T.size c9 (T.data.toList.map byteV) ∧ Below w7.heap.size w7 wr) (fun i _ => T.size - (intOf i).toNat)
      case atStart => exact ⟨0, _, Nat.zero_le _, rfl, fun _ _ => rfl, (H8.out.below B9.out).below B10.out, H9.out.below B10.out, after (after B8.out B9.out) B10.out⟩
      case round =>
        obtain ⟨k, l, hk, rfl, hl, hA, hB, hbel⟩ := hrel
        by_cases hlt : k < T.size
        · obtain ⟨ga, hga, q1, q2, q3, q4⟩ := hA.addr (by have := hA.le; omega)
          have hca : wr.cell? ⟨ga, k, none⟩ = some (.int .u8 T[k].toNat) := q3 k _ (by rw [hl k (Nat.le_refl _), List.getElem?_map, List.getElem?_eq_getElem (by simpa using hlt)]; rfl)
          have hf := (q4 k (by have := hA.le; omega)).2
          subst hga
          have H1 := Lib.hid hl
          have H2 := Lib.hid hA
          have H3 := Lib.hid hB
          have H5 := Lib.hid hbel
          clear hl hA hB hbel q3 q4
          have h0 : (0 : Int) ≤ (k : Int) := by omega
          have h1 : (k : Int) < (T.size : Int) := by omega
          go_wp2
          go_roundw
          case rel =>
            refine ⟨k + 1, l.set k _, by omega, by go_num, ?_, H2.out.stored k hlt _, H3.out.stored_other _ _ (apart_block H3.out P89.out), H5.out.setCell (p := ⟨ga, k, none⟩) q1 _⟩
            intro j hj
            rw [List.getElem?_set_ne (by omega)]
            exact H1.out j (by omega)
          case measure => simp [intOf]; omega
        · obtain rfl : T.size = k := by omega
          have H3 := Lib.hid hB
          have H5 := Lib.hid hbel
          clear hl hB hbel
          have hcvs : ∀ W, Below w7.heap.size w7 W → (convert 50 9 (.slice (some ⟨g7, 0, none⟩) s.size c7)).run Try.prog W = .ok (.string s) W := fun W h => run_str (w := W) (P := Try.prog) 50 9 5 Try.underlying50 Try.underlying5 Try.underlying9 (some ⟨g7, 0, none⟩) s.size c7 s.data.toList (by simp) (RP.out.below h).toCells
          have hcvt : ∀ W, Own W w8.heap.size 1 a9 T.size c9 (T.data.toList.map byteV) → (convert 50 9 (.slice a9 T.size c9)).run Try.prog W = .ok (.string T) W := fun W h => run_str (w := W) (P := Try.prog) 50 9 5 Try.underlying50 Try.underlying5 Try.underlying9 a9 T.size c9 T.data.toList HTL.out h.toCells
          have HCVS := Lib.hid hcvs
          have HCVT := Lib.hid hcvt
          clear hcvs hcvt
          go_wp2_with (at_builtin; refine wpList_app rfl _ _ 50 50 rfl 5 i2 (.int .u8 0) 1 1 Try.underlying50 ki kz0 kz1 kz2 rfl (by simp [Value.cells, Value.oneCell']) w7.heap.size _ _ _ _ rfl (hA.alloc _) _ 8 [.int .u8 1, .int .u8 2, .int .u8 3, .int .u8 4, .int .u8 5, .int .u8 6, .int .u8 7, .int .u8 8] rfl (Src.ofCells Try.underlying50 _ _ _ _ rfl (Cells.new _ _ _) (by simp [Value.oneCell']) (by decide)) (by simp [maxLen]; omega) (by omega) (by have := H5.out.size; simp; omega) ?_; intro a12 c12 w12 hown12 hap12; have hb12 := (H5.out.alloc H5.out.size _).trans (hap12.below (hA.alloc _) (by have := H5.out.size; simp; omega)); have hc1 := HCVS.out w12 hb12; have hc2 := HCVT.out w12 (hap12.other (H3.out.alloc _) P89.out); have HB12 := Lib.hid hb12; clear hown12 hap12 hA hb12)
          clear hc1 hc2
          have R12 := HR7.out.below HB12.out
          obtain ⟨gr, hgr, t1, t2, t3, t4⟩ := R12.addr (by have := R12.le; omega)
          simp at hgr
          subst hgr
          have hcell : ∀ k, s.size ≤ k → k < s.size + 8 → w12.cell? ⟨g7, k, none⟩ = some (.int .u8 9) := fun k h1 h2 => t3 k _ (by
            rw [List.getElem?_append_right (by simpa using h1), List.length_map]
            have e : s.data.toList.length = s.size := by simp
            rw [e]
            unfold nines
            rw [List.getElem?_replicate, if_pos (by omega)])
          have HCELL := Lib.hid hcell
          have N12 := Lib.hid (N7c.out.below HB12.out)
          have C12 := Lib.hid (C7c.out.below HB12.out)
          clear hcell t3 t4 R12
          go_wp2
          go_loopw [17] (fun i wx => w12 = wx ∧ ∃ k : Nat, s.size ≤ k ∧ k ≤ s.size + 8 ∧ i = .int .i64 k) (fun i _ => s.size + 8 - (intOf i).toNat)
          case atStart => exact ⟨rfl, s.size, Nat.le_refl _, by omega, rfl⟩
          case round =>
            obtain ⟨rfl, k, hk1, hk2, rfl⟩ := hrel
            by_cases hlt : k < s.size + 8
            · have hck := HCELL.out k hk1 hlt
              have h0 : (0 : Int) ≤ (k : Int) := by omega
              have h1 : (k : Int) < (s.size : Int) + 8 := by omega
              go_wp2
              go_roundw
              case rel => exact ⟨by trivial, k + 1, by omega, by omega, by go_num⟩
              case measure => simp [intOf]; omega
            · obtain rfl : k = s.size + 8 := by omega
              go_wp2
              go_loopw [18] (fun i wx => ∃ k : Nat, k ≤ ls.length ∧ i = .int .i64 k ∧ Below w12.heap.size w12 wx) (fun i _ => ls.length - (intOf i).toNat)
              case atStart => exact ⟨0, Nat.zero_le _, rfl, Below.refl _ _⟩
              case round =>
                obtain ⟨k, hk, rfl, hbel⟩ := hrel
                have NX := N12.out.below hbel
                have CX := C12.out.below hbel
                obtain ⟨gn, hgn, u1, u2, u3, u4⟩ := NX.addr (by have := NX.le; omega)
                simp at hgn
                subst hgn
                have HBX := Lib.hid hbel
                by_cases hlt : k < ls.length
                · obtain ⟨gc, hgc, v1, v2, v3, v4⟩ := CX.addr (by have := CX.le; omega)
                  obtain ⟨x, hx⟩ : ∃ x, xs[k]? = some x := ⟨_, List.getElem?_eq_getElem (by rw [HXL.out]; exact hlt)⟩
                  have hxs : x < 256 := HXT.out x (List.mem_of_getElem? hx)
                  have hca : wr.cell? ⟨g1, k, none⟩ = some (.int .u8 x) := u3 k _ (by rw [List.getElem?_append_left (by rw [List.length_map, HXL.out]; exact hlt), List.getElem?_map, hx]; rfl)
                  have hcd : wr.cell? ⟨gc, k, none⟩ = some (.int .u32 x) := v3 k _ (by rw [List.getElem?_map, hx]; rfl)
                  subst hgc
                  have h0 : (0 : Int) ≤ (k : Int) := by omega
                  have h1 : (k : Int) < (ls.length : Int) := by omega
                  clear hbel NX CX u3 u4 v3 v4 hx
                  go_wp2
                  go_quiet (fail)
                  go_wp2
                  go_roundw
                  case rel => exact ⟨k + 1, by omega, by go_num, below_drewN HBX.out nq⟩
                  case measure => simp [intOf]; omega
                · obtain rfl : k = ls.length := by omega
                  have hca : wr.cell? ⟨g1, ls.length, none⟩ = some (.int .u8 77) := u3 ls.length _ (by rw [List.getElem?_append_right (by rw [List.length_map, HXL.out]; exact Nat.le_refl _), List.length_map, HXL.out, Nat.sub_self]; rfl)
                  clear hbel NX CX u3 u4
                  go_wp2
                  go_ret
                  exact ⟨rfl, after (after B7c.out HB12.out) HBX.out⟩

theorem put2_middle (s : ByteArray) (xs : List Nat) (n : Nat) (hl : xs.length = n) (g7 c7 g1 c5 : Nat) (W : World) (h1 : Cells W (some ⟨g7, 0, none⟩) (s.data.toList.map byteV)) (h2 : Cells W (some ⟨g1, 0, none⟩) (xs.map (numV .u16)))
    (hx : ∀ x ∈ xs, x < 65536) (hs : s.size ≤ 1048576) (hn : n ≤ 1048576) :
    Calls Try.prog 51 #[.slice (some ⟨g7, 0, none⟩) s.size c7, .slice (some ⟨g1, 0, none⟩) n c5] W fun e w' => ∃ a c, e = .returned (.slice a (laidStr 2 s xs).size c) ∧ Own w' W.heap.size 1 a (laidStr 2 s xs).size c ((laidStr 2 s xs).data.toList.map byteV) ∧ Below W.heap.size W w' := by
  subst hl
  refine (put_middle (some ⟨g7, 0, none⟩) c7 s.data.toList (some ⟨g1, 0, none⟩) c5 xs W h1 h2 hx ?_).mono ?_
  · have : s.data.toList.length = s.size := by simp
    omega
  rintro e w' ⟨a, n, c, rfl, hown, hb⟩
  obtain rfl : n = (laidStr 2 s xs).size := by
    have := hown.len
    rw [laidStr_size]
    rw [List.length_map, laidAt_length] at this
    simpa using this.symm
  exact ⟨a, c, rfl, hown, hb⟩

set_option maxRecDepth 20000 in
set_option maxHeartbeats 8000000 in
theorem laid_middle (s : ByteArray) (al : Option Addr) (cl : Nat) (ls : List Nat) (w : World) (hs : s.size ≤ 1048576) (hn : ls.length ≤ 1048576) (hcl : Cells w al (ls.map (numV .u32))) (hx : ∀ x ∈ ls, x < 4294967296) :
    Calls Try.prog 24 #[.string s, .slice al ls.length cl, .int .i64 2] w fun e w' => e = .returned (.bool true) ∧ Below w.heap.size w w' := by
  obtain ⟨i0, hi, hz0, hz1, hz2⟩ := info_parts info33n
  obtain ⟨i1, ji, jz0, jz1, jz2⟩ := info_parts info23n
  obtain ⟨i2, ki, kz0, kz1, kz2⟩ := info_parts info5
  have HCL := Lib.hid hcl
  have HXS := Lib.hid hx
  clear hcl hx
  go_enter Try.func24, Try.ntmps24
  go_wp2
  go_loopw [7, 8, 9] (fun v u i wr => ∃ (k : Nat) (a : Option Addr) (c : Nat) (a' : Option Addr) (c' : Nat), k ≤ ls.length ∧ i = .int .i64 k ∧ v = .slice a k c ∧ u = .slice a' k c' ∧ Own wr w.heap.size 1 a k c (((ls.take k).map (· % 65536)).map (numV .u16)) ∧ Own wr w.heap.size 1 a' k c' (((ls.take k).map (· % 65536)).map (numV .u32)) ∧ (a' = none ∨ blockOf a' ≠ blockOf a) ∧ (a = none ∨ blockOf a ≠ blockOf a') ∧ Below w.heap.size w wr) (fun _ _ i _ => ls.length - (intOf i).toNat)
  case atStart => exact ⟨0, none, 0, none, 0, Nat.zero_le _, rfl, rfl, rfl, Own.nil _ _ _, Own.nil _ _ _, .inl rfl, .inl rfl, Below.refl _ _⟩
  case round =>
    obtain ⟨k, a, c, a', c', hk, rfl, rfl, rfl, hA, hC, pca, pac, hbel⟩ := hrel
    by_cases hlt : k < ls.length
    · obtain ⟨g, off, x, rfl, hxk, hck⟩ := (HCL.out.below hbel).at hlt
      have hxt := HXS.out x (List.mem_of_getElem? hxk)
      obtain ⟨y, hy⟩ : ∃ y, y = x % 65536 := ⟨_, rfl⟩
      have hyt : y < 65536 := by omega
      have hconv : IntKind.u16.wrap (x : Int) = (y : Int) := by rw [hy]; simp [IntKind.wrap, IntKind.signed, IntKind.bits]
      have HY := Lib.hid hy
      have HX := Lib.hid hxk
      unfold numV at hck
      have PCA := Lib.hid pca
      have PAC := Lib.hid pac
      have HC := Lib.hid hC
      have HBEL := Lib.hid hbel
      clear hxk hy pca pac hC hbel
      have h0 : (0 : Int) ≤ (k : Int) := by omega
      have h1 : (k : Int) < (ls.length : Int) := by omega
      go_wp2_with (first
        | (at_builtin; refine wpList_app rfl _ _ 74 74 rfl 33 i0 (.int .u16 0) 1 2 Try.underlying74 hi hz0 hz1 hz2 rfl (by simp [Value.cells, Value.oneCell']) w.heap.size _ _ _ _ rfl (hA.alloc _) _ 1 [.int .u16 (y : Int)] rfl (Src.ofCells Try.underlying74 _ _ _ _ rfl (Cells.new _ _ _) (by simp [Value.oneCell']) (by decide)) (by simp [maxLen]; omega) (by omega) (by have := HBEL.out.size; simp; omega) ?_; intro a4 c4 w4 hown4 hap4; have hb4 := Lib.hid ((HBEL.out.alloc HBEL.out.size _).trans (hap4.below (hA.alloc _) (by have := HBEL.out.size; simp; omega))); have HO4 := Lib.hid hown4; have hC4 := hap4.other (HC.out.alloc _) PCA.out; have P4 := Lib.hid (hap4.apart (HC.out.alloc _) PCA.out); clear hown4 hap4 hA hck hconv)
        | (at_builtin; refine wpList_app rfl _ _ 29 29 rfl 23 i1 (.int .u32 0) 1 4 Try.underlying29 ji jz0 jz1 jz2 rfl (by simp [Value.cells, Value.oneCell']) w.heap.size _ _ _ _ rfl (hC4.alloc _) _ 1 [.int .u32 (y : Int)] rfl (Src.ofCells Try.underlying29 _ _ _ _ rfl (Cells.new _ _ _) (by simp [Value.oneCell']) (by decide)) (by simp [maxLen]; omega) (by omega) (by have := hb4.out.size; simp; omega) ?_; intro a5 c5 w5 hown5 hap5; have hb5 := Lib.hid ((hb4.out.alloc hb4.out.size _).trans (hap5.below (hC4.alloc _) (by have := hb4.out.size; simp; omega))); have HO5 := Lib.hid hown5; have q4 := sym_apart P4.out; have HN5 := Lib.hid (hap5.other (HO4.out.alloc _) q4); have P5 := Lib.hid (hap5.apart (HO4.out.alloc _) q4); clear hown5 hap5 hC4 q4))
      go_roundw
      case rel =>
        have e1 : ∀ K, ((ls.take (k + 1)).map (· % 65536)).map (numV K) = ((ls.take k).map (· % 65536)).map (numV K) ++ [.int K (y : Int)] := fun K => by
          rw [List.take_add_one, HX.out]
          simp [numV, HY.out]
        exact ⟨k + 1, a4, c4, a5, c5, by omega, by go_num, rfl, rfl, HN5.out.mapcong (e1 _).symm, HO5.out.mapcong (e1 _).symm, sym_apart P5.out, P5.out, hb5.out⟩
      case measure => simp [intOf]; omega
    · obtain rfl : k = ls.length := by omega
      rw [List.take_of_length_le (Nat.le_refl _)] at hA hC
      obtain ⟨xs, hxs⟩ : ∃ xs, xs = ls.map (· % 65536) := ⟨_, rfl⟩
      rw [← hxs] at hA hC
      have hxl : xs.length = ls.length := by rw [hxs]; simp
      have hxt : ∀ x ∈ xs, x < 65536 := fun x hx => by
        rw [hxs] at hx
        obtain ⟨y, _, rfl⟩ := List.mem_map.1 hx
        exact Nat.mod_lt _ (by decide)
      have HXL := Lib.hid hxl
      have HXT := Lib.hid hxt
      have PCA := Lib.hid pca
      have HC := Lib.hid hC
      have HBEL := Lib.hid hbel
      clear hxs hxl hxt pca pac hC hbel
      obtain ⟨T, hT⟩ : ∃ T, T = laidStr 2 s xs := ⟨_, rfl⟩
      have hTs : T.size ≤ 5242880 := by
        rw [hT, laidStr_size, HXL.out]
        omega
      have HT := Lib.hid hT
      clear hT
      go_wp2_with (first
        | (at_builtin; refine wpList_app rfl _ _ 74 74 rfl 33 i0 (.int .u16 0) 1 2 Try.underlying74 hi hz0 hz1 hz2 rfl (by simp [Value.cells, Value.oneCell']) w.heap.size _ _ _ _ rfl (hA.alloc _) _ 1 [.int .u16 77] rfl (Src.ofCells Try.underlying74 _ _ _ _ rfl (Cells.new _ _ _) (by simp [Value.oneCell']) (by decide)) (by simp [maxLen]; omega) (by omega) (by have := HBEL.out.size; simp; omega) ?_; intro a4 c4 w4 hown4 hap4; have hb4 := Lib.hid ((HBEL.out.alloc HBEL.out.size _).trans (hap4.below (hA.alloc _) (by have := HBEL.out.size; simp; omega))); obtain ⟨g1, rfl, _, hg1, _⟩ := hown4.addr (by have := hown4.le; omega); have HN4 := Lib.hid hown4; have HC4 := Lib.hid (hap4.other (HC.out.alloc _) PCA.out); have hle4 := hown4.le; clear hown4 hap4 hA)
        | (with_reducible refine wpList_bytes rfl _ 9 50 5 rfl Try.underlying9 Try.underlying50 Try.underlying5 s rfl (by simp [maxLen]; omega) ?_; intro g6 c6 w6 hown6 hb6)
        | (at_builtin; refine wpList_app rfl _ _ 50 50 rfl 5 i2 (.int .u8 0) 1 1 Try.underlying50 ki kz0 kz1 kz2 rfl (by simp [Value.cells, Value.oneCell']) w4.heap.size _ _ _ _ rfl (hown6.alloc _) _ 8 nines rfl (Src.ofCells Try.underlying50 _ _ _ _ rfl (Cells.new _ nines _) (by simp [nines, Value.oneCell']) (by decide)) (by simp [maxLen]; omega) (by omega) (by have := hb6.size; simp; omega) ?_; intro a7 c7 w7 hown7 hap7; have hb7 := Lib.hid ((hb6.alloc hb6.size _).trans (hap7.below (hown6.alloc _) (by have := hb6.size; simp; omega))); obtain ⟨g7, rfl, _, hg7, _⟩ := hown7.addr (by have := hown7.le; omega); have HR7 := Lib.hid hown7; have hle7 := hown7.le; clear hown7 hap7 hown6 hb6)
        | fail)
      have N7 := HN4.out.below hb7.out
      have C7 := HC4.out.below hb7.out
      have B7 := after hb4.out hb7.out
      have np := N7.prefix ls.length (by omega)
      rw [Nat.mul_one, List.take_left' (by rw [List.length_map, HXL.out])] at np
      have rp := HR7.out.prefix s.size (by omega)
      rw [Nat.mul_one, List.take_left' (by simp)] at rp
      have N7c := Lib.hid N7
      have C7c := Lib.hid C7
      have B7c := Lib.hid B7
      have NP := Lib.hid np
      have RP := Lib.hid rp
      clear N7 C7 B7 np rp hg1 hg7
      refine (put2_middle s xs ls.length HXL.out g7 c7 g1 c4 w7 RP.out.toCells NP.out.toCells HXT.out hs hn).mono ?_
      rintro e w8 ⟨a8, c8, rfl, hown8, hb8⟩
      rw [← HT.out] at hown8 ⊢
      have H8 := Lib.hid hown8
      have B8 := Lib.hid hb8
      clear hown8 hb8
      go_wp2_with fail
      refine (put2_middle s xs ls.length HXL.out g7 c7 g1 c4 w8 (RP.out.below B8.out).toCells (NP.out.below B8.out).toCells HXT.out hs hn).mono ?_
      rintro e w9 ⟨a9, c9, rfl, hown9, hb9⟩
      rw [← HT.out] at hown9 ⊢
      have H9 := Lib.hid hown9
      have B9 := Lib.hid hb9
      clear hown9 hb9
      go_wp2_with fail
      have hrp := rput_any 2 s a' c' xs w9 (by omega) ((C7c.out.below B8.out).below B9.out).toCells (fun x hx => by have := HXT.out x hx; omega) hs (by rw [HXL.out]; exact hn)
      rw [HXL.out] at hrp
      refine hrp.mono ?_
      rintro e w10 ⟨rfl, hb10⟩
      rw [← HT.out]
      clear hrp
      have B10 := Lib.hid hb10
      clear hb10
      have hTl : T.data.toList.length = T.size := by simp
      have hcv1 : (convert 50 9 (.slice a8 T.size c8)).run Try.prog w10 = .ok (.string T) w10 := run_str (w := w10) (P := Try.prog) 50 9 5 Try.underlying50 Try.underlying5 Try.underlying9 a8 T.size c8 T.data.toList hTl ((H8.out.below B9.out).below B10.out).toCells
      have hcv2 : (convert 50 9 (.slice a9 T.size c9)).run Try.prog w10 = .ok (.string T) w10 := run_str (w := w10) (P := Try.prog) 50 9 5 Try.underlying50 Try.underlying5 Try.underlying9 a9 T.size c9 T.data.toList hTl (H9.out.below B10.out).toCells
      have HTL := Lib.hid hTl
      clear hTl
      go_wp2
      clear hcv1 hcv2
      have p89 := apart_of H8.out H9.out
      have P89 := Lib.hid p89
      clear p89
      go_loopw [16] (fun i wr => ∃ (k : Nat) (l : List Value), k ≤ T.size ∧ i = .int .i64 k ∧ (∀ j, k ≤ j → l[j]? = (T.data.toList.map byteV)[j]?) ∧ Own wr w7.heap.size 1 a8 T.size c8 l ∧ Own wr w8.heap.size 1 a9 T.size c9 (T.data.toList.map byteV) ∧ Below w7.heap.size w7 wr) (fun i _ => T.size - (intOf i).toNat)
      case atStart => exact ⟨0, _, Nat.zero_le _, rfl, fun _ _ => rfl, (H8.out.below B9.out).below B10.out, H9.out.below B10.out, after (after B8.out B9.out) B10.out⟩
      case round =>
        obtain ⟨k, l, hk, rfl, hl, hA, hB, hbel⟩ := hrel
        by_cases hlt : k < T.size
        · obtain ⟨ga, hga, q1, q2, q3, q4⟩ := hA.addr (by have := hA.le; omega)
          have hca : wr.cell? ⟨ga, k, none⟩ = some (.int .u8 T[k].toNat) := q3 k _ (by rw [hl k (Nat.le_refl _), List.getElem?_map, List.getElem?_eq_getElem (by simpa using hlt)]; rfl)
          have hf := (q4 k (by have := hA.le; omega)).2
          subst hga
          have H1 := Lib.hid hl
          have H2 := Lib.hid hA
          have H3 := Lib.hid hB
          have H5 := Lib.hid hbel
          clear hl hA hB hbel q3 q4
          have h0 : (0 : Int) ≤ (k : Int) := by omega
          have h1 : (k : Int) < (T.size : Int) := by omega
          go_wp2
          go_roundw
          case rel =>
            refine ⟨k + 1, l.set k _, by omega, by go_num, ?_, H2.out.stored k hlt _, H3.out.stored_other _ _ (apart_block H3.out P89.out), H5.out.setCell (p := ⟨ga, k, none⟩) q1 _⟩
            intro j hj
            rw [List.getElem?_set_ne (by omega)]
            exact H1.out j (by omega)
          case measure => simp [intOf]; omega
        · obtain rfl : T.size = k := by omega
          have H3 := Lib.hid hB
          have H5 := Lib.hid hbel
          clear hl hB hbel
          have hcvs : ∀ W, Below w7.heap.size w7 W → (convert 50 9 (.slice (some ⟨g7, 0, none⟩) s.size c7)).run Try.prog W = .ok (.string s) W := fun W h => run_str (w := W) (P := Try.prog) 50 9 5 Try.underlying50 Try.underlying5 Try.underlying9 (some ⟨g7, 0, none⟩) s.size c7 s.data.toList (by simp) (RP.out.below h).toCells
          have hcvt : ∀ W, Own W w8.heap.size 1 a9 T.size c9 (T.data.toList.map byteV) → (convert 50 9 (.slice a9 T.size c9)).run Try.prog W = .ok (.string T) W := fun W h => run_str (w := W) (P := Try.prog) 50 9 5 Try.underlying50 Try.underlying5 Try.underlying9 a9 T.size c9 T.data.toList HTL.out h.toCells
          have HCVS := Lib.hid hcvs
          have HCVT := Lib.hid hcvt
          clear hcvs hcvt
          go_wp2_with (at_builtin; refine wpList_app rfl _ _ 50 50 rfl 5 i2 (.int .u8 0) 1 1 Try.underlying50 ki kz0 kz1 kz2 rfl (by simp [Value.cells, Value.oneCell']) w7.heap.size _ _ _ _ rfl (hA.alloc _) _ 8 [.int .u8 1, .int .u8 2, .int .u8 3, .int .u8 4, .int .u8 5, .int .u8 6, .int .u8 7, .int .u8 8] rfl (Src.ofCells Try.underlying50 _ _ _ _ rfl (Cells.new _ _ _) (by simp [Value.oneCell']) (by decide)) (by simp [maxLen]; omega) (by omega) (by have := H5.out.size; simp; omega) ?_; intro a12 c12 w12 hown12 hap12; have hb12 := (H5.out.alloc H5.out.size _).trans (hap12.below (hA.alloc _) (by have := H5.out.size; simp; omega)); have hc1 := HCVS.out w12 hb12; have hc2 := HCVT.out w12 (hap12.other (H3.out.alloc _) P89.out); have HB12 := Lib.hid hb12; clear hown12 hap12 hA hb12)
          clear hc1 hc2
          have R12 := HR7.out.below HB12.out
          obtain ⟨gr, hgr, t1, t2, t3, t4⟩ := R12.addr (by have := R12.le; omega)
          simp at hgr
          subst hgr
          have hcell : ∀ k, s.size ≤ k → k < s.size + 8 → w12.cell? ⟨g7, k, none⟩ = some (.int .u8 9) := fun k h1 h2 => t3 k _ (by
            rw [List.getElem?_append_right (by simpa using h1), List.length_map]
            have e : s.data.toList.length = s.size := by simp
            rw [e]
            unfold nines
            rw [List.getElem?_replicate, if_pos (by omega)])
          have HCELL := Lib.hid hcell
          have N12 := Lib.hid (N7c.out.below HB12.out)
          have C12 := Lib.hid (C7c.out.below HB12.out)
          clear hcell t3 t4 R12
          go_wp2
          go_loopw [17] (fun i wx => w12 = wx ∧ ∃ k : Nat, s.size ≤ k ∧ k ≤ s.size + 8 ∧ i = .int .i64 k) (fun i _ => s.size + 8 - (intOf i).toNat)
          case atStart => exact ⟨rfl, s.size, Nat.le_refl _, by omega, rfl⟩
          case round =>
            obtain ⟨rfl, k, hk1, hk2, rfl⟩ := hrel
            by_cases hlt : k < s.size + 8
            · have hck := HCELL.out k hk1 hlt
              have h0 : (0 : Int) ≤ (k : Int) := by omega
              have h1 : (k : Int) < (s.size : Int) + 8 := by omega
              go_wp2
              go_roundw
              case rel => exact ⟨by trivial, k + 1, by omega, by omega, by go_num⟩
              case measure => simp [intOf]; omega
            · obtain rfl : k = s.size + 8 := by omega
              go_wp2
              go_loopw [18] (fun i wx => ∃ k : Nat, k ≤ ls.length ∧ i = .int .i64 k ∧ Below w12.heap.size w12 wx) (fun i _ => ls.length - (intOf i).toNat)
              case atStart => exact ⟨0, Nat.zero_le _, rfl, Below.refl _ _⟩
              case round =>
                obtain ⟨k, hk, rfl, hbel⟩ := hrel
                have NX := N12.out.below hbel
                have CX := C12.out.below hbel
                obtain ⟨gn, hgn, u1, u2, u3, u4⟩ := NX.addr (by have := NX.le; omega)
                simp at hgn
                subst hgn
                have HBX := Lib.hid hbel
                by_cases hlt : k < ls.length
                · obtain ⟨gc, hgc, v1, v2, v3, v4⟩ := CX.addr (by have := CX.le; omega)
                  obtain ⟨x, hx⟩ : ∃ x, xs[k]? = some x := ⟨_, List.getElem?_eq_getElem (by rw [HXL.out]; exact hlt)⟩
                  have hxs : x < 65536 := HXT.out x (List.mem_of_getElem? hx)
                  have hca : wr.cell? ⟨g1, k, none⟩ = some (.int .u16 x) := u3 k _ (by rw [List.getElem?_append_left (by rw [List.length_map, HXL.out]; exact hlt), List.getElem?_map, hx]; rfl)
                  have hcd : wr.cell? ⟨gc, k, none⟩ = some (.int .u32 x) := v3 k _ (by rw [List.getElem?_map, hx]; rfl)
                  subst hgc
                  have h0 : (0 : Int) ≤ (k : Int) := by omega
                  have h1 : (k : Int) < (ls.length : Int) := by omega
                  clear hbel NX CX u3 u4 v3 v4 hx
                  go_wp2
                  go_quiet (fail)
                  go_wp2
                  go_roundw
                  case rel => exact ⟨k + 1, by omega, by go_num, below_drewN HBX.out nq⟩
                  case measure => simp [intOf]; omega
                · obtain rfl : k = ls.length := by omega
                  have hca : wr.cell? ⟨g1, ls.length, none⟩ = some (.int .u16 77) := u3 ls.length _ (by rw [List.getElem?_append_right (by rw [List.length_map, HXL.out]; exact Nat.le_refl _), List.length_map, HXL.out, Nat.sub_self]; rfl)
                  clear hbel NX CX u3 u4
                  go_wp2
                  go_ret
                  exact ⟨rfl, after (after B7c.out HB12.out) HBX.out⟩

theorem put2_large (s : ByteArray) (xs : List Nat) (n : Nat) (hl : xs.length = n) (g7 c7 g1 c5 : Nat) (W : World) (h1 : Cells W (some ⟨g7, 0, none⟩) (s.data.toList.map byteV)) (h2 : Cells W (some ⟨g1, 0, none⟩) (xs.map (numV .u32)))
    (hx : ∀ x ∈ xs, x < 4294967296) (hs : s.size ≤ 1048576) (hn : n ≤ 1048576) :
    Calls Try.prog 38 #[.slice (some ⟨g7, 0, none⟩) s.size c7, .slice (some ⟨g1, 0, none⟩) n c5] W fun e w' => ∃ a c, e = .returned (.slice a (laidStr 4 s xs).size c) ∧ Own w' W.heap.size 1 a (laidStr 4 s xs).size c ((laidStr 4 s xs).data.toList.map byteV) ∧ Below W.heap.size W w' := by
  subst hl
  refine (put_large (some ⟨g7, 0, none⟩) c7 s.data.toList (some ⟨g1, 0, none⟩) c5 xs W h1 h2 hx ?_).mono ?_
  · have : s.data.toList.length = s.size := by simp
    omega
  rintro e w' ⟨a, n, c, rfl, hown, hb⟩
  obtain rfl : n = (laidStr 4 s xs).size := by
    have := hown.len
    rw [laidStr_size]
    rw [List.length_map, laidAt_length] at this
    simpa using this.symm
  exact ⟨a, c, rfl, hown, hb⟩

set_option maxRecDepth 20000 in
set_option maxHeartbeats 8000000 in
theorem laid_large (s : ByteArray) (al : Option Addr) (cl : Nat) (ls : List Nat) (w : World) (hs : s.size ≤ 1048576) (hn : ls.length ≤ 1048576) (hcl : Cells w al (ls.map (numV .u32))) (hx : ∀ x ∈ ls, x < 4294967296) :
    Calls Try.prog 25 #[.string s, .slice al ls.length cl, .int .i64 4] w fun e w' => e = .returned (.bool true) ∧ Below w.heap.size w w' := by
  obtain ⟨i0, hi, hz0, hz1, hz2⟩ := info_parts info34n
  obtain ⟨i1, ji, jz0, jz1, jz2⟩ := info_parts info23n
  obtain ⟨i2, ki, kz0, kz1, kz2⟩ := info_parts info5
  have HCL := Lib.hid hcl
  have HXS := Lib.hid hx
  clear hcl hx
  go_enter Try.func25, Try.ntmps25
  go_wp2
  go_loopw [7, 8, 9] (fun v u i wr => ∃ (k : Nat) (a : Option Addr) (c : Nat) (a' : Option Addr) (c' : Nat), k ≤ ls.length ∧ i = .int .i64 k ∧ v = .slice a k c ∧ u = .slice a' k c' ∧ Own wr w.heap.size 1 a k c (((ls.take k).map (· % 4294967296)).map (numV .u32)) ∧ Own wr w.heap.size 1 a' k c' (((ls.take k).map (· % 4294967296)).map (numV .u32)) ∧ (a' = none ∨ blockOf a' ≠ blockOf a) ∧ (a = none ∨ blockOf a ≠ blockOf a') ∧ Below w.heap.size w wr) (fun _ _ i _ => ls.length - (intOf i).toNat)
  case atStart => exact ⟨0, none, 0, none, 0, Nat.zero_le _, rfl, rfl, rfl, Own.nil _ _ _, Own.nil _ _ _, .inl rfl, .inl rfl, Below.refl _ _⟩
  case round =>
    obtain ⟨k, a, c, a', c', hk, rfl, rfl, rfl, hA, hC, pca, pac, hbel⟩ := hrel
    by_cases hlt : k < ls.length
    · obtain ⟨g, off, x, rfl, hxk, hck⟩ := (HCL.out.below hbel).at hlt
      have hxt := HXS.out x (List.mem_of_getElem? hxk)
      obtain ⟨y, hy⟩ : ∃ y, y = x % 4294967296 := ⟨_, rfl⟩
      have hyt : y < 4294967296 := by omega
      have hconv : (x : Int) = (y : Int) := by omega
      have HY := Lib.hid hy
      have HX := Lib.hid hxk
      unfold numV at hck
      have PCA := Lib.hid pca
      have PAC := Lib.hid pac
      have HC := Lib.hid hC
      have HBEL := Lib.hid hbel
      clear hxk hy pca pac hC hbel
      have h0 : (0 : Int) ≤ (k : Int) := by omega
      have h1 : (k : Int) < (ls.length : Int) := by omega
      go_wp2_with (first
        | (at_builtin; refine wpList_app rfl _ _ 47 47 rfl 34 i0 (.int .u32 0) 1 4 Try.underlying47 hi hz0 hz1 hz2 rfl (by simp [Value.cells, Value.oneCell']) w.heap.size _ _ _ _ rfl (hA.alloc _) _ 1 [.int .u32 (y : Int)] rfl (Src.ofCells Try.underlying47 _ _ _ _ rfl (Cells.new _ _ _) (by simp [Value.oneCell']) (by decide)) (by simp [maxLen]; omega) (by omega) (by have := HBEL.out.size; simp; omega) ?_; intro a4 c4 w4 hown4 hap4; have hb4 := Lib.hid ((HBEL.out.alloc HBEL.out.size _).trans (hap4.below (hA.alloc _) (by have := HBEL.out.size; simp; omega))); have HO4 := Lib.hid hown4; have hC4 := hap4.other (HC.out.alloc _) PCA.out; have P4 := Lib.hid (hap4.apart (HC.out.alloc _) PCA.out); clear hown4 hap4 hA hck hconv)
        | (at_builtin; refine wpList_app rfl _ _ 29 29 rfl 23 i1 (.int .u32 0) 1 4 Try.underlying29 ji jz0 jz1 jz2 rfl (by simp [Value.cells, Value.oneCell']) w.heap.size _ _ _ _ rfl (hC4.alloc _) _ 1 [.int .u32 (y : Int)] rfl (Src.ofCells Try.underlying29 _ _ _ _ rfl (Cells.new _ _ _) (by simp [Value.oneCell']) (by decide)) (by simp [maxLen]; omega) (by omega) (by have := hb4.out.size; simp; omega) ?_; intro a5 c5 w5 hown5 hap5; have hb5 := Lib.hid ((hb4.out.alloc hb4.out.size _).trans (hap5.below (hC4.alloc _) (by have := hb4.out.size; simp; omega))); have HO5 := Lib.hid hown5; have q4 := sym_apart P4.out; have HN5 := Lib.hid (hap5.other (HO4.out.alloc _) q4); have P5 := Lib.hid (hap5.apart (HO4.out.alloc _) q4); clear hown5 hap5 hC4 q4))
      go_roundw
      case rel =>
        have e1 : ∀ K, ((ls.take (k + 1)).map (· % 4294967296)).map (numV K) = ((ls.take k).map (· % 4294967296)).map (numV K) ++ [.int K (y : Int)] := fun K => by
          rw [List.take_add_one, HX.out]
          simp [numV, HY.out]
        exact ⟨k + 1, a4, c4, a5, c5, by omega, by go_num, rfl, rfl, HN5.out.mapcong (e1 _).symm, HO5.out.mapcong (e1 _).symm, sym_apart P5.out, P5.out, hb5.out⟩
      case measure => simp [intOf]; omega
    · obtain rfl : k = ls.length := by omega
      rw [List.take_of_length_le (Nat.le_refl _)] at hA hC
      obtain ⟨xs, hxs⟩ : ∃ xs, xs = ls.map (· % 4294967296) := ⟨_, rfl⟩
      rw [← hxs] at hA hC
      have hxl : xs.length = ls.length := by rw [hxs]; simp
      have hxt : ∀ x ∈ xs, x < 4294967296 := fun x hx => by
        rw [hxs] at hx
        obtain ⟨y, _, rfl⟩ := List.mem_map.1 hx
        exact Nat.mod_lt _ (by decide)
      have HXL := Lib.hid hxl
      have HXT := Lib.hid hxt
      have PCA := Lib.hid pca
      have HC := Lib.hid hC
      have HBEL := Lib.hid hbel
      clear hxs hxl hxt pca pac hC hbel
      obtain ⟨T, hT⟩ : ∃ T, T = laidStr 4 s xs := ⟨_, rfl⟩
      have hTs : T.size ≤ 5242880 := by
        rw [hT, laidStr_size, HXL.out]
        omega
      have HT := Lib.hid hT
      clear hT
      go_wp2_with (first
        | (at_builtin; refine wpList_app rfl _ _ 47 47 rfl 34 i0 (.int .u32 0) 1 4 Try.underlying47 hi hz0 hz1 hz2 rfl (by simp [Value.cells, Value.oneCell']) w.heap.size _ _ _ _ rfl (hA.alloc _) _ 1 [.int .u32 77] rfl (Src.ofCells Try.underlying47 _ _ _ _ rfl (Cells.new _ _ _) (by simp [Value.oneCell']) (by decide)) (by simp [maxLen]; omega) (by omega) (by have := HBEL.out.size; simp; omega) ?_; intro a4 c4 w4 hown4 hap4; have hb4 := Lib.hid ((HBEL.out.alloc HBEL.out.size _).trans (hap4.below (hA.alloc _) (by have := HBEL.out.size; simp; omega))); obtain ⟨g1, rfl, _, hg1, _⟩ := hown4.addr (by have := hown4.le; omega); have HN4 := Lib.hid hown4; have HC4 := Lib.hid (hap4.other (HC.out.alloc _) PCA.out); have hle4 := hown4.le; clear hown4 hap4 hA)
        | (with_reducible refine wpList_bytes rfl _ 9 50 5 rfl Try.underlying9 Try.underlying50 Try.underlying5 s rfl (by simp [maxLen]; omega) ?_; intro g6 c6 w6 hown6 hb6)
        | (at_builtin; refine wpList_app rfl _ _ 50 50 rfl 5 i2 (.int .u8 0) 1 1 Try.underlying50 ki kz0 kz1 kz2 rfl (by simp [Value.cells, Value.oneCell']) w4.heap.size _ _ _ _ rfl (hown6.alloc _) _ 8 nines rfl (Src.ofCells Try.underlying50 _ _ _ _ rfl (Cells.new _ nines _) (by simp [nines, Value.oneCell']) (by decide)) (by simp [maxLen]; omega) (by omega) (by have := hb6.size; simp; omega) ?_; intro a7 c7 w7 hown7 hap7; have hb7 := Lib.hid ((hb6.alloc hb6.size _).trans (hap7.below (hown6.alloc _) (by have := hb6.size; simp; omega))); obtain ⟨g7, rfl, _, hg7, _⟩ := hown7.addr (by have := hown7.le; omega); have HR7 := Lib.hid hown7; have hle7 := hown7.le; clear hown7 hap7 hown6 hb6)
        | fail)
      have N7 := HN4.out.below hb7.out
      have C7 := HC4.out.below hb7.out
      have B7 := after hb4.out hb7.out
      have np := N7.prefix ls.length (by omega)
      rw [Nat.mul_one, List.take_left' (by rw [List.length_map, HXL.out])] at np
      have rp := HR7.out.prefix s.size (by omega)
      rw [Nat.mul_one, List.take_left' (by simp)] at rp
      have N7c := Lib.hid N7
      have C7c := Lib.hid C7
      have B7c := Lib.hid B7
      have NP := Lib.hid np
      have RP := Lib.hid rp
      clear N7 C7 B7 np rp hg1 hg7
      refine (put2_large s xs ls.length HXL.out g7 c7 g1 c4 w7 RP.out.toCells NP.out.toCells HXT.out hs hn).mono ?_
      rintro e w8 ⟨a8, c8, rfl, hown8, hb8⟩
      rw [← HT.out] at hown8 ⊢
      have H8 := Lib.hid hown8
      have B8 := Lib.hid hb8
      clear hown8 hb8
      go_wp2_with fail
      refine (put2_large s xs ls.length HXL.out g7 c7 g1 c4 w8 (RP.out.below B8.out).toCells (NP.out.below B8.out).toCells HXT.out hs hn).mono ?_
      rintro e w9 ⟨a9, c9, rfl, hown9, hb9⟩
      rw [← HT.out] at hown9 ⊢
      have H9 := Lib.hid hown9
      have B9 := Lib.hid hb9
      clear hown9 hb9
      go_wp2_with fail
      have hrp := rput_any 4 s a' c' xs w9 (by omega) ((C7c.out.below B8.out).below B9.out).toCells (fun x hx => by have := HXT.out x hx; omega) hs (by rw [HXL.out]; exact hn)
      rw [HXL.out] at hrp
      refine hrp.mono ?_
      rintro e w10 ⟨rfl, hb10⟩
      rw [← HT.out]
      clear hrp
      have B10 := Lib.hid hb10
      clear hb10
      have hTl : T.data.toList.length = T.size := by simp
      have hcv1 : (convert 50 9 (.slice a8 T.size c8)).run Try.prog w10 = .ok (.string T) w10 := run_str (w := w10) (P := Try.prog) 50 9 5 Try.underlying50 Try.underlying5 Try.underlying9 a8 T.size c8 T.data.toList hTl ((H8.out.below B9.out).below B10.out).toCells
      have hcv2 : (convert 50 9 (.slice a9 T.size c9)).run Try.prog w10 = .ok (.string T) w10 := run_str (w := w10) (P := Try.prog) 50 9 5 Try.underlying50 Try.underlying5 Try.underlying9 a9 T.size c9 T.data.toList hTl (H9.out.below B10.out).toCells
      have HTL := Lib.hid hTl
      clear hTl
      go_wp2
      clear hcv1 hcv2
      have p89 := apart_of H8.out H9.out
      have P89 := Lib.hid p89
      clear p89
      go_loopw [16] (fun i wr => ∃ (k : Nat) (l : List Value), k ≤ T.size ∧ i = .int .i64 k ∧ (∀ j, k ≤ j → l[j]? = (T.data.toList.map byteV)[j]?) ∧ Own wr w7.heap.size 1 a8 T.size c8 l ∧ Own wr w8.heap.size 1 a9 T.size c9 (T.data.toList.map byteV) ∧ Below w7.heap.size w7 wr) (fun i _ => T.size - (intOf i).toNat)
      case atStart => exact ⟨0, _, Nat.zero_le _, rfl, fun _ _ => rfl, (H8.out.below B9.out).below B10.out, H9.out.below B10.out, after (after B8.out B9.out) B10.out⟩
      case round =>
        obtain ⟨k, l, hk, rfl, hl, hA, hB, hbel⟩ := hrel
        by_cases hlt : k < T.size
        · obtain ⟨ga, hga, q1, q2, q3, q4⟩ := hA.addr (by have := hA.le; omega)
          have hca : wr.cell? ⟨ga, k, none⟩ = some (.int .u8 T[k].toNat) := q3 k _ (by rw [hl k (Nat.le_refl _), List.getElem?_map, List.getElem?_eq_getElem (by simpa using hlt)]; rfl)
          have hf := (q4 k (by have := hA.le; omega)).2
          subst hga
          have H1 := Lib.hid hl
          have H2 := Lib.hid hA
          have H3 := Lib.hid hB
          have H5 := Lib.hid hbel
          clear hl hA hB hbel q3 q4
          have h0 : (0 : Int) ≤ (k : Int) := by omega
          have h1 : (k : Int) < (T.size : Int) := by omega
          go_wp2
          go_roundw
          case rel =>
            refine ⟨k + 1, l.set k _, by omega, by go_num, ?_, H2.out.stored k hlt _, H3.out.stored_other _ _ (apart_block H3.out P89.out), H5.out.setCell (p := ⟨ga, k, none⟩) q1 _⟩
            intro j hj
            rw [List.getElem?_set_ne (by omega)]
            exact H1.out j (by omega)
          case measure => simp [intOf]; omega
        · obtain rfl : T.size = k := by omega
          have H3 := Lib.hid hB
          have H5 := Lib.hid hbel
          clear hl hB hbel
          have hcvs : ∀ W, Below w7.heap.size w7 W → (convert 50 9 (.slice (some ⟨g7, 0, none⟩) s.size c7)).run Try.prog W = .ok (.string s) W := fun W h => run_str (w := W) (P := Try.prog) 50 9 5 Try.underlying50 Try.underlying5 Try.underlying9 (some ⟨g7, 0, none⟩) s.size c7 s.data.toList (by simp) (RP.out.below h).toCells
          have hcvt : ∀ W, Own W w8.heap.size 1 a9 T.size c9 (T.data.toList.map byteV) → (convert 50 9 (.slice a9 T.size c9)).run Try.prog W = .ok (.string T) W := fun W h => run_str (w := W) (P := Try.prog) 50 9 5 Try.underlying50 Try.underlying5 Try.underlying9 a9 T.size c9 T.data.toList HTL.out h.toCells
          have HCVS := Lib.hid hcvs
          have HCVT := Lib.hid hcvt
          clear hcvs hcvt
          go_wp2_with (at_builtin; refine wpList_app rfl _ _ 50 50 rfl 5 i2 (.int .u8 0) 1 1 Try.underlying50 ki kz0 kz1 kz2 rfl (by simp [Value.cells, Value.oneCell']) w7.heap.size _ _ _ _ rfl (hA.alloc _) _ 8 [.int .u8 1, .int .u8 2, .int .u8 3, .int .u8 4, .int .u8 5, .int .u8 6, .int .u8 7, .int .u8 8] rfl (Src.ofCells Try.underlying50 _ _ _ _ rfl (Cells.new _ _ _) (by simp [Value.oneCell']) (by decide)) (by simp [maxLen]; omega) (by omega) (by have := H5.out.size; simp; omega) ?_; intro a12 c12 w12 hown12 hap12; have hb12 := (H5.out.alloc H5.out.size _).trans (hap12.below (hA.alloc _) (by have := H5.out.size; simp; omega)); have hc1 := HCVS.out w12 hb12; have hc2 := HCVT.out w12 (hap12.other (H3.out.alloc _) P89.out); have HB12 := Lib.hid hb12; clear hown12 hap12 hA hb12)
          clear hc1 hc2
          have R12 := HR7.out.below HB12.out
          obtain ⟨gr, hgr, t1, t2, t3, t4⟩ := R12.addr (by have := R12.le; omega)
          simp at hgr
          subst hgr
          have hcell : ∀ k, s.size ≤ k → k < s.size + 8 → w12.cell? ⟨g7, k, none⟩ = some (.int .u8 9) := fun k h1 h2 => t3 k _ (by
            rw [List.getElem?_append_right (by simpa using h1), List.length_map]
            have e : s.data.toList.length = s.size := by simp
            rw [e]
            unfold nines
            rw [List.getElem?_replicate, if_pos (by omega)])
          have HCELL := Lib.hid hcell
          have N12 := Lib.hid (N7c.out.below HB12.out)
          have C12 := Lib.hid (C7c.out.below HB12.out)
          clear hcell t3 t4 R12
          go_wp2
          go_loopw [17] (fun i wx => w12 = wx ∧ ∃ k : Nat, s.size ≤ k ∧ k ≤ s.size + 8 ∧ i = .int .i64 k) (fun i _ => s.size + 8 - (intOf i).toNat)
          case atStart => exact ⟨rfl, s.size, Nat.le_refl _, by omega, rfl⟩
          case round =>
            obtain ⟨rfl, k, hk1, hk2, rfl⟩ := hrel
            by_cases hlt : k < s.size + 8
            · have hck := HCELL.out k hk1 hlt
              have h0 : (0 : Int) ≤ (k : Int) := by omega
              have h1 : (k : Int) < (s.size : Int) + 8 := by omega
              go_wp2
              go_roundw
              case rel => exact ⟨by trivial, k + 1, by omega, by omega, by go_num⟩
              case measure => simp [intOf]; omega
            · obtain rfl : k = s.size + 8 := by omega
              go_wp2
              go_loopw [18] (fun i wx => ∃ k : Nat, k ≤ ls.length ∧ i = .int .i64 k ∧ Below w12.heap.size w12 wx) (fun i _ => ls.length - (intOf i).toNat)
              case atStart => exact ⟨0, Nat.zero_le _, rfl, Below.refl _ _⟩
              case round =>
                obtain ⟨k, hk, rfl, hbel⟩ := hrel
                have NX := N12.out.below hbel
                have CX := C12.out.below hbel
                obtain ⟨gn, hgn, u1, u2, u3, u4⟩ := NX.addr (by have := NX.le; omega)
                simp at hgn
                subst hgn
                have HBX := Lib.hid hbel
                by_cases hlt : k < ls.length
                · obtain ⟨gc, hgc, v1, v2, v3, v4⟩ := CX.addr (by have := CX.le; omega)
                  obtain ⟨x, hx⟩ : ∃ x, xs[k]? = some x := ⟨_, List.getElem?_eq_getElem (by rw [HXL.out]; exact hlt)⟩
                  have hxs : x < 4294967296 := HXT.out x (List.mem_of_getElem? hx)
                  have hca : wr.cell? ⟨g1, k, none⟩ = some (.int .u32 x) := u3 k _ (by rw [List.getElem?_append_left (by rw [List.length_map, HXL.out]; exact hlt), List.getElem?_map, hx]; rfl)
                  have hcd : wr.cell? ⟨gc, k, none⟩ = some (.int .u32 x) := v3 k _ (by rw [List.getElem?_map, hx]; rfl)
                  subst hgc
                  have h0 : (0 : Int) ≤ (k : Int) := by omega
                  have h1 : (k : Int) < (ls.length : Int) := by omega
                  clear hbel NX CX u3 u4 v3 v4 hx
                  go_wp2
                  go_quiet (fail)
                  go_wp2
                  go_roundw
                  case rel => exact ⟨k + 1, by omega, by go_num, below_drewN HBX.out nq⟩
                  case measure => simp [intOf]; omega
                · obtain rfl : k = ls.length := by omega
                  have hca : wr.cell? ⟨g1, ls.length, none⟩ = some (.int .u32 77) := u3 ls.length _ (by rw [List.getElem?_append_right (by rw [List.length_map, HXL.out]; exact Nat.le_refl _), List.length_map, HXL.out, Nat.sub_self]; rfl)
                  clear hbel NX CX u3 u4
                  go_wp2
                  go_ret
                  exact ⟨rfl, after (after B7c.out HB12.out) HBX.out⟩

end Go.Proofs.Ytallfhfgplgfpaa
