/-
  The walk of the law WideReads.
-/
import Derived.Test.YtmdcbpdmkonmlaaGoes
import Derived.Test.YtmdcbpdmkonmlaaLent
import Derived.IntWalk
namespace Go.Proofs.Ytmdcbpdmkonmlaa
open Go.RowKit Go.Shelf

set_option maxHeartbeats 1000000 in
theorem backW_any (a : Option Addr) (n c : Nat) (w : World) :
    Calls Try.prog 49 #[.slice a n c] w fun e w' => e = .returned (.func (.func 67) #[] #[.pointer (some ⟨w.heap.size, 0, none⟩)]) ∧ w' = w.alloc (.cells #[.slice a n c] 31) := by
  refine (callsIn_wide (n := 3)).1 ?_
  refine callsIn_of_wp Try.func49 rfl trivial ?_ rfl
  simp only [Try.ntmps49, List.size_toArray, List.length_cons, List.length_nil, Nat.reduceAdd, Nat.reduceSub, Array.replicate_succ, Array.replicate_zero, List.push_toArray, List.append_toArray, List.nil_append, List.cons_append]
  gi_wp2
  go_ret
  exact ⟨rfl, rfl⟩

theorem u16_in {l : List Int} (h : ∀ x ∈ l, (Lit.int .u16 x).wf = true) : ∀ u ∈ l, 0 ≤ u ∧ u ≤ 65535 := by
  intro u hu
  simpa [Lit.wf, IntKind.min, IntKind.max, IntKind.signed, IntKind.bits] using h u hu

/-- A row that lies apart from another one, and below a bound. -/
def Far (N : Nat) (a0 b : Option Addr) : Prop := b = none ∨ (blockOf b ≠ blockOf a0 ∧ ∃ g, blockOf b = some g ∧ g < N)
/-- A block of that other one's, or a new one. -/
def Turn (N : Nat) (a0 : Option Addr) (r : Option Nat) : Prop := r = blockOf a0 ∨ r = none ∨ ∃ g, r = some g ∧ N ≤ g
theorem far_ne {N : Nat} {a0 b : Option Addr} {r : Option Nat} (h : Far N a0 b) (t : Turn N a0 r) : b = none ∨ blockOf b ≠ r := by
  rcases h with h | ⟨h, g, hg, hl⟩
  · exact .inl h
  · right
    rcases t with rfl | rfl | ⟨g', rfl, hg'⟩
    · exact h
    · rw [hg]; simp
    · rw [hg]; simp; omega
theorem own_block {w : World} {B size n c : Nat} {a : Option Addr} {xs : List Value} (h : Own w B size a n c xs) : a = none ∨ ∃ g, blockOf a = some g ∧ B ≤ g ∧ g < w.heap.size := by
  rcases h.row with ⟨h0, _⟩ | ⟨g, ha, h1, h2, _⟩
  · exact .inl h0
  · right
    exact ⟨g, by rw [ha]; rfl, h1, h2⟩
/-- .. where it is the earlier one. -/
theorem far_early {w1 w2 W : World} {B size n c B' size' n' c' : Nat} {a b : Option Addr} {xs ys : List Value} (hb : Own w1 B size b n c xs) (ha : Own w2 B' size' a n' c' ys) (h : w1.heap.size ≤ B') (hW : w1.heap.size ≤ W.heap.size) : Far W.heap.size a b := by
  rcases own_block hb with h0 | ⟨g, hg, _, hl⟩
  · exact .inl h0
  · right
    refine ⟨?_, g, hg, by omega⟩
    rcases own_block ha with h1 | ⟨g', hg', hl', _⟩
    · rw [hg, h1]; simp [blockOf]
    · rw [hg, hg']; simp; omega
/-- .. where it is the later one. -/
theorem far_late {w1 w2 W : World} {B size n c B' size' n' c' : Nat} {a b : Option Addr} {xs ys : List Value} (ha : Own w1 B size a n c xs) (hb : Own w2 B' size' b n' c' ys) (h : w1.heap.size ≤ B') (hW : w2.heap.size ≤ W.heap.size) : Far W.heap.size a b := by
  rcases own_block hb with h0 | ⟨g, hg, h2, hl⟩
  · exact .inl h0
  · right
    refine ⟨?_, g, hg, by omega⟩
    rcases own_block ha with h1 | ⟨g', hg', _, hl'⟩
    · rw [hg, h1]; simp [blockOf]
    · rw [hg, hg']; simp; omega

/-- The rows that the law keeps, while one answer is written over. -/
structure RdB (us : List Int) (N g cl cm cb cw : Nat) (a0 am ab aw : Option Addr) (W : World) : Prop where
  marks : Own W 0 3 am (marksC us 0).length cm ((marksC us 0).flatMap markL)
  lent : Own W 0 1 (some ⟨g, 0, none⟩) (us.length + 2) cl (us.map (Value.int .u16) ++ [.int .u16 7, .int .u16 8])
  two : Own W 0 1 ab (runesOf us).length cb ((runesOf us).map (Value.int .i32))
  want : Own W 0 1 aw (runesOf us).length cw ((runesOf us).map (Value.int .i32))
  fm : Far N a0 am
  fl : Far N a0 (some ⟨g, 0, none⟩)
  fb : Far N a0 ab
  fw : Far N a0 aw
theorem RdB.turn {us : List Int} {N g cl cm cb cw : Nat} {a0 am ab aw : Option Addr} {W W' : World} {r : Option Nat} (h : RdB us N g cl cm cb cw a0 am ab aw W) (k : W.grownBy W' r) (t : Turn N a0 r) : RdB us N g cl cm cb cw a0 am ab aw W' :=
  ⟨h.marks.grown k (far_ne h.fm t), h.lent.grown k (far_ne h.fl t), h.two.grown k (far_ne h.fb t), h.want.grown k (far_ne h.fw t), h.fm, h.fl, h.fb, h.fw⟩
theorem RdB.below {us : List Int} {N g cl cm cb cw : Nat} {a0 am ab aw : Option Addr} {W W' : World} (h : RdB us N g cl cm cb cw a0 am ab aw W) (k : Below W.heap.size W W') : RdB us N g cl cm cb cw a0 am ab aw W' :=
  h.turn (grown_below k) (.inr (.inl rfl))

set_option maxRecDepth 100000 in
set_option maxHeartbeats 8000000 in
theorem reads_walk (w : World) (a : Option Addr) (c : Nat) (us : List Int) (hle : us.length ≤ c) (hc : c ≤ 1048576) (hr : Cells w a (us.map (Value.int .u16))) (hwf : ∀ x ∈ us, (Lit.int .u16 x).wf = true) (most : Int) (hmost : (Lit.int .i64 most).wf = true) :
    Calls Try.prog 12 #[.slice a us.length c, .int .i64 most] w fun e w' => e = .returned (.bool true) ∧ Below w.heap.size w w' := by
  have hn : us.length ≤ 1048576 := by omega
  have hu := u16_in hwf
  obtain ⟨i0, hi, hz0, hz1, hz2⟩ := info_parts info21
  have hrl := runesOf_le us
  have HR := Lib.hid hr
  have HU := Lib.hid hu
  clear hr hwf hu hle hc hmost
  go_enter Try.func12, Try.ntmps12
  go_wp2_with fail
  refine (marks_any w a c us (by omega) HR.out HU.out).mono ?_
  rintro e w1 ⟨am, cm, rfl, hown1, hb1⟩
  have HO1 := Lib.hid hown1
  have HB1 := Lib.hid hb1
  clear hown1 hb1
  go_wp2_with fail
  refine (lent_any w1 a c us (by omega) (HR.out.below HB1.out)).mono ?_
  rintro e w2 ⟨g, cl, rfl, hown2, hb2⟩
  have HO2 := Lib.hid hown2
  have HB2 := Lib.hid (after HB1.out hb2)
  have HX2 := Lib.hid hb2
  clear hown2 hb2
  have hpre : Own w2 w1.heap.size 1 (some ⟨g, 0, none⟩) us.length cl (us.map (Value.int .u16)) := by
    have := HO2.out.prefix us.length (by omega)
    rwa [Nat.mul_one, List.take_left' (by simp)] at this
  have HP2 := Lib.hid hpre.toCells
  clear hpre
  go_wp2_with fail
  refine (runes_any w2 (some ⟨g, 0, none⟩) cl us (by omega) HP2.out HU.out).mono ?_
  rintro e w3 ⟨aa, ca, rfl, hown3, hb3⟩
  have HO3 := Lib.hid hown3
  have HB3 := Lib.hid (after HB2.out hb3)
  have HX3 := Lib.hid hb3
  clear hown3 hb3
  go_wp2_with fail
  refine (runes_any w3 (some ⟨g, 0, none⟩) cl us (by omega) (HP2.out.below HX3.out) HU.out).mono ?_
  rintro e w4 ⟨ab, cb, rfl, hown4, hb4⟩
  have HO4 := Lib.hid hown4
  have HB4 := Lib.hid (after HB3.out hb4)
  have HX4 := Lib.hid (after HX3.out hb4)
  have HY4 := Lib.hid hb4
  clear hown4 hb4
  go_wp2_with fail
  refine (rrunesW_any w4 a c us (by omega) (HR.out.below HB4.out) HU.out).mono ?_
  rintro e w5 ⟨aw, cw, rfl, hown5, hb5⟩
  have HO5 := Lib.hid hown5
  have HB5 := Lib.hid (after HB4.out hb5)
  have HX5 := Lib.hid (after HX4.out hb5)
  have HY5 := Lib.hid (after HY4.out hb5)
  have HZ5 := Lib.hid hb5
  clear hown5 hb5
  go_wp2_with fail
  refine (check_any w5 (some ⟨g, 0, none⟩) cl us (by omega) (HP2.out.below HX5.out) HU.out).mono ?_
  rintro e w6 ⟨rfl, hb6⟩
  have HB6 := Lib.hid (after HB5.out hb6)
  have HX6 := Lib.hid (after HX5.out hb6)
  have HT6 := Lib.hid hb6
  clear hb6
  go_wp2_with fail
  refine (rcheckW_any w6 a c us (by omega) (HR.out.below HB6.out) HU.out).mono ?_
  rintro e w7 ⟨rfl, hb7⟩
  have HB7 := Lib.hid (after HB6.out hb7)
  have HT7 := Lib.hid (after HT6.out hb7)
  clear hb7
  -- the rows, as they stand now
  have m1 : w1.heap.size ≤ w2.heap.size := HX2.out.size
  have m2 : w2.heap.size ≤ w3.heap.size := HX3.out.size
  have m3 : w3.heap.size ≤ w4.heap.size := HY4.out.size
  have m4 : w4.heap.size ≤ w5.heap.size := HZ5.out.size
  have m5 : w5.heap.size ≤ w7.heap.size := HT7.out.size
  have hA : Own w7 w.heap.size 1 aa (runesOf us).length ca ((runesOf us).map (Value.int .i32)) := (((HO3.out.below HY5.out).below HT7.out).mono (by have := HB2.out.size; omega))
  have hRD : RdB us w7.heap.size g cl cm cb cw aa am ab aw w7 :=
    ⟨((((HO1.out.below HX2.out).below HX5.out).below HT7.out).mono (Nat.zero_le _)), (((HO2.out.below HX5.out).below HT7.out).mono (Nat.zero_le _)), (((HO4.out.below HZ5.out).below HT7.out).mono (Nat.zero_le _)), ((HO5.out.below HT7.out).mono (Nat.zero_le _)),
     far_early HO1.out HO3.out m1 (by omega), far_early HO2.out HO3.out (Nat.le_refl _) (by omega), far_late HO3.out HO4.out (Nat.le_refl _) (by omega), far_late HO3.out HO5.out m3 (by omega)⟩
  have HA := Lib.hid hA
  have HRD := Lib.hid hRD
  clear hA hRD m1 m2 m3 m4 m5 HO1 HO2 HO3 HO4 HO5 HP2 HX2 HX3 HX4 HX5 HX6 HY4 HY5 HZ5 HT6 HT7
  have S1 := sameRunes_any w7 aa ca (runesOf us) aw cw (runesOf us) (by omega) HA.out.toCells HRD.out.want.toCells
  rw [decide_eq_true rfl] at S1
  have HS1 := Lib.hid S1
  clear S1
  go_wp2_with fail
  refine HS1.out.mono ?_
  rintro e w8 ⟨rfl, hb8⟩
  have HA8 := Lib.hid (HA.out.below hb8)
  have HRD8 := Lib.hid (HRD.out.below hb8)
  have HB8 := Lib.hid (after HB7.out hb8)
  have HK8 := Lib.hid hb8
  clear hb8 HS1 HA HRD
  have hlc : Cells w8 (some ⟨g, 0, none⟩) (us.map (Value.int .u16)) := by
    have := HRD8.out.lent.toCells.take us.length
    rwa [List.take_left' (by simp)] at this
  have HLC := Lib.hid hlc
  clear hlc
  go_wp2_with fail
  refine (text_any w8 (some ⟨g, 0, none⟩) cl us (by omega) HLC.out HU.out).mono ?_
  rintro e w9 ⟨rfl, hb9⟩
  have HA9 := Lib.hid (HA8.out.below hb9)
  have HRD9 := Lib.hid (HRD8.out.below hb9)
  have HB9 := Lib.hid (after HB8.out hb9)
  have HK9 := Lib.hid (after HK8.out hb9)
  clear hb9 HA8 HRD8 HLC
  go_wp2_with fail
  refine (rencode_any w9 aw cw (runesOf us) (by omega) HRD9.out.want.toCells).mono ?_
  rintro e w10 ⟨rfl, hb10⟩
  have HA10 := Lib.hid (HA9.out.below hb10)
  have HRD10 := Lib.hid (HRD9.out.below hb10)
  have HB10 := Lib.hid (after HB9.out hb10)
  have HK10 := Lib.hid (after HK9.out hb10)
  clear hb10 HA9 HRD9
  have HTX := Lib.hid (show textOf us = runesBytes (runesOf us) from rfl)
  rw [show textOf us = runesBytes (runesOf us) from rfl]
  go_wp2_with fail
  refine (kept_any w10 0 g cl a c us (by omega) HRD10.out.lent (HR.out.below HB10.out)).mono ?_
  rintro e w11 ⟨rfl, hb11⟩
  have HA11 := Lib.hid (HA10.out.below hb11)
  have HRD11 := Lib.hid (HRD10.out.below hb11)
  have HB11 := Lib.hid (after HB10.out hb11)
  have HK11 := Lib.hid (after HK10.out hb11)
  clear hb11 HA10 HRD10
  go_wp2_with fail
  obtain ⟨N, hN⟩ : ∃ N, N = w7.heap.size := ⟨_, rfl⟩
  rw [← hN] at HRD11
  have HNW : Hid (N ≤ w11.heap.size) := Lib.hid (by rw [hN]; exact HK11.out.size)
  have HWN : Hid (w.heap.size ≤ N) := Lib.hid (by rw [hN]; exact HB7.out.size)
  clear hN
  go_loopw [14] (fun i wr => ∃ (k : Nat) (l : List Value), k ≤ (runesOf us).length ∧ i = .int .i64 k ∧ Own wr w.heap.size 1 aa (runesOf us).length ca l ∧ RdB us N g cl cm cb cw aa am ab aw wr ∧ N ≤ wr.heap.size ∧ Below w.heap.size w wr) (fun i _ => (runesOf us).length - (intOf i).toNat)
  case atStart => exact ⟨0, _, Nat.zero_le _, rfl, HA11.out, HRD11.out, HNW.out, HB11.out⟩
  case round =>
    obtain ⟨k, l, hk, rfl, hA, hRD, hNW, hB⟩ := hrel
    by_cases hlt : k < (runesOf us).length
    · obtain ⟨ga, rfl, q1, q2, q3, q4⟩ := hA.addr (by have := hA.le; omega)
      obtain ⟨u, hu⟩ := Option.isSome_iff_exists.1 (q4 k (by have := hA.le; omega)).1
      have hf := (q4 k (by have := hA.le; omega)).2
      have K1 := Lib.hid hA
      have K2 := Lib.hid hRD
      have K3 := Lib.hid hB
      have K4 := Lib.hid hNW
      clear hA hRD hB q3 q4 hNW
      have h0 : (0 : Int) ≤ (k : Int) := by omega
      have h1 : (k : Int) < ((runesOf us).length : Int) := by omega
      go_wp2
      go_roundw
      case rel => exact ⟨k + 1, _, by omega, by go_num, K1.out.stored k hlt _, K2.out.turn (grown_set _ _ _ _) (.inl rfl), by simpa using K4.out, K3.out.setCell (p := ⟨ga, k, none⟩) q1 _⟩
      case measure => simp [intOf]; omega
    · obtain rfl : k = (runesOf us).length := by omega
      have K1 := Lib.hid hA
      have K2 := Lib.hid hRD
      have K3 := Lib.hid hB
      have K4 := Lib.hid hNW
      clear hA hRD hB hNW hlt hk
      go_wp2_with fail
      go_loopw [7, 15] (fun v i wr2 => ∃ (k : Nat) (a2 : Option Addr) (c2 : Nat) (l2 : List Value), k ≤ 40 ∧ i = .int .i64 k ∧ v = .slice a2 ((runesOf us).length + k) c2 ∧ Own wr2 w.heap.size 1 a2 ((runesOf us).length + k) c2 l2 ∧ Turn N aa (blockOf a2) ∧ RdB us N g cl cm cb cw aa am ab aw wr2 ∧ N ≤ wr2.heap.size ∧ Below w.heap.size w wr2) (fun _ i _ => 40 - (intOf i).toNat)
      case atStart => exact ⟨0, aa, ca, l, Nat.zero_le _, rfl, rfl, K1.out, .inl rfl, K2.out, K4.out, K3.out⟩
      case round =>
        obtain ⟨k, a2, c2, l2, hk, rfl, rfl, hA, hT, hRD, hNW, hB⟩ := hrel
        by_cases hlt : k < 40
        · have hki : (k : Int) < 40 := by omega
          have J2 := Lib.hid hRD
          have J3 := Lib.hid hB
          have J4 := Lib.hid hNW
          have J5 := Lib.hid hT
          clear hRD hB hNW hT
          go_wp2_with (at_builtin; refine wpList_app rfl _ _ 30 30 rfl 21 i0 (.int .i32 0) 1 4 Try.underlying30 hi hz0 hz1 hz2 rfl (by simp [Value.cells, Value.oneCell']) w.heap.size _ _ _ _ rfl (hA.alloc _) _ 1 [.int .i32 (-9)] rfl (Src.ofCells Try.underlying30 _ _ _ _ rfl (Cells.new _ _ _) (by simp [Value.oneCell']) (by decide)) (by simp [maxLen]; omega) (by omega) (by have := J3.out.size; simp; omega) ?_; intro a4 c4 w4 hown4 hap4; have hg4 := Lib.hid (hap4.grown); have hp4 := Lib.hid hap4.place; have hbb := Lib.hid ((J3.out.alloc J3.out.size _).trans (hap4.below (hA.alloc _) (by have := J3.out.size; simp; omega))); have HO4 := Lib.hid hown4; clear hown4 hap4 hA)
          go_roundw
          case rel =>
            refine ⟨k + 1, a4, c4, _, by omega, by first | rfl | go_num, rfl, HO4.out, ?_, (J2.out.turn (World.grownBy_alloc _ _ none) (.inr (.inl rfl))).turn hg4.out J5.out, Nat.le_trans J4.out (Nat.le_trans (by simp) hg4.out.size), hbb.out⟩
            rcases hp4.out with e | ⟨g4, e, hg⟩
            · rw [e]; exact J5.out
            · exact .inr (.inr ⟨g4, by rw [e], by have := J4.out; simp at hg; omega⟩)
          case measure => simp [intOf]; omega
        · obtain rfl : k = 40 := by omega
          have J2 := Lib.hid hRD
          have J3 := Lib.hid hB
          clear hRD hB hNW hT hA hlt hk K1 K2 K3 K4 HA11 HRD11 HNW
          have S2 := sameRunes_any wr ab cb (runesOf us) aw cw (runesOf us) (by omega) J2.out.two.toCells J2.out.want.toCells
          rw [decide_eq_true rfl] at S2
          have HS2 := Lib.hid S2
          clear S2
          go_wp2_with fail
          refine HS2.out.mono ?_
          rintro e w12 ⟨rfl, hb12⟩
          have G2 := Lib.hid (J2.out.below hb12)
          have G3 := Lib.hid (after J3.out hb12)
          clear hb12 HS2 J2 J3
          go_wp2_with fail
          refine (each_any _ _ _ _).mono ?_
          rintro e w13 ⟨rfl, rfl⟩
          go_wp2_with fail
          refine (backW_any _ _ _ _).mono ?_
          rintro e w14 ⟨rfl, rfl⟩
          have e1 : ((w12.alloc (.cells #[.slice (some ⟨g, 0, none⟩) us.length cl] 31)).alloc (.cells #[.slice (some ⟨g, 0, none⟩) us.length cl] 31)).cell? ⟨w12.heap.size, 0, none⟩ = some (.slice (some ⟨g, 0, none⟩) us.length cl) := ((Boxed.new w12 31 (.slice (some ⟨g, 0, none⟩) us.length cl)).alloc _).cell
          have e2 := (Boxed.new (w12.alloc (.cells #[.slice (some ⟨g, 0, none⟩) us.length cl] 31)) 31 (.slice (some ⟨g, 0, none⟩) us.length cl)).cell
          rw [World.size_alloc] at e2
          have hbl : Below w12.heap.size w12 ((w12.alloc (.cells #[.slice (some ⟨g, 0, none⟩) us.length cl] 31)).alloc (.cells #[.slice (some ⟨g, 0, none⟩) us.length cl] 31)) := ((Below.refl _ _).alloc (Nat.le_refl _) _).alloc (by simp) _
          have hs15 : w12.heap.size + 1 < ((w12.alloc (.cells #[.slice (some ⟨g, 0, none⟩) us.length cl] 31)).alloc (.cells #[.slice (some ⟨g, 0, none⟩) us.length cl] 31)).heap.size := by simp
          obtain ⟨B1, hB1⟩ : ∃ B1, B1 = w12.heap.size := ⟨_, rfl⟩
          simp only [World.size_alloc]
          rw [← hB1] at e1 e2 hs15 ⊢
          generalize (w12.alloc (.cells #[.slice (some ⟨g, 0, none⟩) us.length cl] 31)).alloc (.cells #[.slice (some ⟨g, 0, none⟩) us.length cl] 31) = w15 at *
          have E1 := Lib.hid e1
          have E2 := Lib.hid e2
          have E3 := Lib.hid hs15
          have F2 := Lib.hid (G2.out.below hbl)
          have F3 := Lib.hid (after G3.out hbl)
          clear e1 e2 hs15 hbl hB1 G2 G3
          have lc : ∀ W, Below w15.heap.size w15 W → Cells W (some ⟨g, 0, none⟩) (us.map (Value.int .u16)) := fun W h => by
            have := (F2.out.below h).lent.toCells.take us.length
            rwa [List.take_left' (by simp)] at this
          have GA := Lib.hid (fun W (h : Below w15.heap.size w15 W) (mo : Int) => goes_on W B1 (some ⟨g, 0, none⟩) cl us am cm mo 0 (by omega) (Nat.lt_of_lt_of_le (Nat.lt_of_succ_lt E3.out) h.size) ((h.cell (p := ⟨B1, 0, none⟩) (Nat.lt_of_succ_lt E3.out)).trans E1.out) (lc W h) HU.out (F2.out.below h).marks)
          have GB := Lib.hid (fun W (h : Below w15.heap.size w15 W) (mo : Int) => goes_back W (B1 + 1) (some ⟨g, 0, none⟩) cl us am cm mo 0 (by omega) (Nat.lt_of_lt_of_le E3.out h.size) ((h.cell (p := ⟨B1 + 1, 0, none⟩) E3.out).trans E2.out) (lc W h) HU.out (F2.out.below h).marks)
          clear lc
          go_wp2_with fail
          go_loopw [18] (fun i wr3 => ∃ k : Nat, k ≤ 2 ∧ i = .int .i64 k ∧ Below w15.heap.size w15 wr3) (fun i _ => 2 - (intOf i).toNat)
          case atStart => exact ⟨0, by omega, rfl, Below.refl _ _⟩
          case round =>
            obtain ⟨k, hk, rfl, hb⟩ := hrel
            have L0 := Lib.hid hb
            clear hb
            by_cases hlt : k < 2
            · have hki : (k : Int) < 2 := by omega
              have hkk : (0 : Int) ≤ (k : Int) := by omega
              go_wp2_with fail
              refine (GA.out _ L0.out most).mono ?_
              rintro e x1 ⟨rfl, h1⟩
              have L1 := Lib.hid (after L0.out h1)
              clear h1
              go_wp2_with fail
              refine (GB.out _ L1.out most).mono ?_
              rintro e x2 ⟨rfl, h2⟩
              have L2 := Lib.hid (after L1.out h2)
              clear h2
              go_wp2_with fail
              refine (GA.out _ L2.out (-1)).mono ?_
              rintro e x3 ⟨rfl, h3⟩
              have L3 := Lib.hid (after L2.out h3)
              clear h3
              go_wp2_with fail
              refine (GB.out _ L3.out (-1)).mono ?_
              rintro e x4 ⟨rfl, h4⟩
              have L4 := Lib.hid (after L3.out h4)
              clear h4
              go_wp2
              go_roundw
              case rel => exact ⟨k + 1, by omega, by go_num, L4.out⟩
              case measure => simp [intOf]; omega
            · have hki : (2 : Int) ≤ (k : Int) := by omega
              have HKE := Lib.hid (kept_any wr 0 g cl a c us (by omega) (F2.out.below L0.out).lent (HR.out.below (after F3.out L0.out)))
              clear GA GB E1 E2 E3
              go_wp2_with fail
              refine HKE.out.mono ?_
              rintro e x5 ⟨rfl, h5⟩
              have L5 := Lib.hid (after (after F3.out L0.out) h5)
              clear h5 HKE
              go_wp2_with (go_at_call 20; refine (awake_any _).mono ?_; rintro e x6 ⟨rfl, h6⟩)
              go_ret
              exact ⟨rfl, after L5.out h6⟩

end Go.Proofs.Ytmdcbpdmkonmlaa
