/-
  The walk of the law WideFrom.
-/
import Derived.Test.YtmdcbpdmkonmlaaLent
namespace Go.Proofs.Ytmdcbpdmkonmlaa
open Go.RowKit

theorem ownlen {w : World} {B n c : Nat} {a : Option Addr} {us : List Int} {k : IntKind} (h : Own w B 1 a n c (us.map (Value.int k))) : n = us.length := by
  have := h.len
  simpa using this.symm

set_option maxRecDepth 20000 in
set_option maxHeartbeats 4000000 in
theorem wfrom_walk (w : World) (a : Option Addr) (c : Nat) (rs : List Int) (hle : rs.length ≤ c) (hc : c ≤ 1048576) (hr : Cells w a (rs.map (Value.int .i32))) (hwf : ∀ x ∈ rs, (Lit.int .i32 x).wf = true) (s : ByteArray) (hs : s.size ≤ 1048576) :
    Calls Try.prog 4 #[.slice a rs.length c, .string s] w fun e w' => e = .returned (.bool true) ∧ Below w.heap.size w w' := by
  have hn : rs.length ≤ 1048576 := by omega
  obtain ⟨i0, hi, hz0, hz1, hz2⟩ := info_parts info21
  have HR := Lib.hid hr
  have hU := unitsAll_le rs
  have hT := unitsAll_le (textRunes s)
  have hTl := textRunes_le s
  obtain ⟨U, hUd⟩ : ∃ U, U = unitsAll rs := ⟨_, rfl⟩
  obtain ⟨T, hTd⟩ : ∃ T, T = unitsAll (textRunes s) := ⟨_, rfl⟩
  rw [← hUd] at hU
  rw [← hTd] at hT
  have hUl : U.length ≤ 2097152 := by omega
  have hTm : T.length ≤ 2097152 := by omega
  have F1 := fun W a c h => from_any W a c rs (by omega) h
  have F2 := fun W a c h => rfrom_any W a c rs (by omega) h
  have F3 := fun W => fromText_any W s (by omega)
  have F4 := fun W => rrunes_any W s (by omega)
  have F5 := fun W a c h => rfrom_any W a c (textRunes s) (by omega) h
  rw [← hUd] at F1 F2
  rw [← hTd] at F3 F5
  have HF1 := Lib.hid F1
  have HF2 := Lib.hid F2
  have HF3 := Lib.hid F3
  have HF4 := Lib.hid F4
  have HF5 := Lib.hid F5
  clear hr hwf hle hc hU hT hUd hTd F1 F2 F3 F4 F5 hTl
  go_enter Try.func4, Try.ntmps4
  go_wp2_with (at_builtin; first | (refine wpList_app rfl _ _ 30 30 rfl 21 i0 (.int .i32 0) 1 4 Try.underlying30 hi hz0 hz1 hz2 rfl (by simp [Value.cells, Value.oneCell']) w.heap.size _ _ _ _ rfl (Own.nil _ _ _) _ _ _ rfl (Src.ofCells Try.underlying30 _ _ _ _ (by simp) HR.out (ints_one _ _) (by decide)) (by simp [maxLen]; omega) (by omega) (Nat.le_refl _) ?_; intro a1 c1 w1 hown1 hap1; rw [Nat.zero_add, List.nil_append] at hown1; have HB1 := Lib.hid (hap1.below (Own.nil w w.heap.size 1) (Nat.le_refl _)); clear hap1) | (refine wpList_app rfl _ _ 30 30 rfl 21 i0 (.int .i32 0) 1 4 Try.underlying30 hi hz0 hz1 hz2 rfl (by simp [Value.cells, Value.oneCell']) w.heap.size _ _ _ _ rfl (hown1.alloc _) _ 2 [.int .i32 (-7), .int .i32 (-8)] rfl (Src.ofCells Try.underlying30 _ _ _ _ rfl (Cells.new _ _ _) (by simp [Value.oneCell']) (by decide)) (by simp [maxLen]; omega) (by omega) (by have := HB1.out.size; exact Nat.le_trans this (by simp)) ?_; intro a2 c2 w2 hown2 hap2; have hb2 := Lib.hid ((HB1.out.alloc HB1.out.size _).trans (hap2.below (hown1.alloc _) (by have := HB1.out.size; exact Nat.le_trans this (by simp)))); obtain ⟨g, rfl, _, _, _⟩ := hown2.addr (by have := hown2.le; omega); have hle2 := hown2.le; have HO2 := Lib.hid hown2; clear hown2 hap2 hown1; have h0 : (0 : Int) ≤ (rs.length : Int) := (by omega); have h1 : (rs.length : Int) ≤ (c2 : Int) := Int.ofNat_le.mpr (Nat.le_trans (Nat.le_add_right _ 2) hle2); have h2 : (rs.length : Int) < (rs.length : Int) + 2 := (by omega); have h3 : (rs.length : Int) + 1 < (rs.length : Int) + 2 := by omega))
  have hpre := HO2.out.prefix rs.length (by omega)
  rw [Nat.mul_one, List.take_left' (by simp)] at hpre
  have HPRE := Lib.hid hpre
  clear hpre
  refine (HF1.out w2 (some ⟨g, 0, none⟩) c2 HPRE.out.toCells).mono ?_
  rintro e w3 ⟨a3, n3, c3, rfl, hown3, hb3⟩
  obtain rfl := ownlen hown3
  have HB3 := Lib.hid hb3
  have HO3 := Lib.hid hown3
  have HBW3 := Lib.hid (after hb2.out hb3)
  clear hown3 hb3
  go_wp2_with fail
  refine (HF1.out w3 a c (HR.out.below HBW3.out)).mono ?_
  rintro e w4 ⟨a4, n4, c4, rfl, hown4, hb4⟩
  obtain rfl := ownlen hown4
  have HB4 := Lib.hid hb4
  have HO4 := Lib.hid hown4
  have HBW4 := Lib.hid (after HBW3.out hb4)
  clear hown4 hb4
  go_wp2_with fail
  refine (HF2.out w4 a c (HR.out.below HBW4.out)).mono ?_
  rintro e w5 ⟨a5, n5, c5, rfl, hown5, hb5⟩
  obtain rfl := ownlen hown5
  have HB5 := Lib.hid hb5
  have HO5 := Lib.hid hown5
  have HBW5 := Lib.hid (after HBW4.out hb5)
  clear hown5 hb5
  have A3 := Lib.hid ((HO3.out.below HB4.out).below HB5.out)
  have A4 := Lib.hid (HO4.out.below HB5.out)
  have s1 := rsame_any w5 a3 c3 U a5 c5 U (by omega) A3.out.toCells HO5.out.toCells
  rw [decide_eq_true rfl] at s1
  have S1 := Lib.hid s1
  clear s1
  go_wp2_with fail
  refine S1.out.mono ?_
  rintro e w6 ⟨rfl, hb6⟩
  have s2 := rsame_any w6 a4 c4 U a5 c5 U (by omega) (A4.out.below hb6).toCells (HO5.out.below hb6).toCells
  rw [decide_eq_true rfl] at s2
  have S2 := Lib.hid s2
  have HB6 := Lib.hid hb6
  have HBW6 := Lib.hid (after HBW5.out hb6)
  clear s2 hb6
  go_wp2_with fail
  refine S2.out.mono ?_
  rintro e w7 ⟨rfl, hb7⟩
  have HB7 := Lib.hid (after HB6.out hb7)
  have HBW7 := Lib.hid (after HBW6.out hb7)
  clear hb7
  have full7 := Lib.hid ((((HO2.out.below HB3.out).below HB4.out).below HB5.out).below HB7.out)
  have pre7 := Lib.hid ((((HPRE.out.below HB3.out).below HB4.out).below HB5.out).below HB7.out)
  have s3 := sameRunes_any w7 (some ⟨g, 0, none⟩) c2 rs a c rs (by omega) pre7.out.toCells (HR.out.below HBW7.out)
  rw [decide_eq_true rfl] at s3
  have S3 := Lib.hid s3
  clear s3
  go_wp2_with fail
  refine S3.out.mono ?_
  rintro e w8 ⟨rfl, hb8⟩
  obtain ⟨g', hg', q1, q2, q3, q4⟩ := (full7.out.below hb8).addr (by omega)
  simp at hg'
  subst hg'
  have hc7 : w8.cell? ⟨g, rs.length, none⟩ = some (.int .i32 (-7)) := q3 _ _ (by rw [List.getElem?_append_right (by simp)]; simp)
  have hc8 : w8.cell? ⟨g, rs.length + 1, none⟩ = some (.int .i32 (-8)) := q3 _ _ (by rw [List.getElem?_append_right (by simp)]; simp)
  have HB8 := Lib.hid (after HB7.out hb8)
  have HBW8 := Lib.hid (after HBW7.out hb8)
  clear hb8 q3 q4
  go_wp2_with fail
  clear hc7 hc8
  refine (HF3.out w8).mono ?_
  rintro e w9 ⟨a9, c9, rfl, hown9, hb9⟩
  have HB9 := Lib.hid hb9
  have HO9 := Lib.hid hown9
  clear hown9 hb9
  go_wp2_with fail
  refine (HF3.out w9).mono ?_
  rintro e w10 ⟨a10, c10, rfl, hown10, hb10⟩
  have HB10 := Lib.hid hb10
  have HO10 := Lib.hid hown10
  clear hown10 hb10
  go_wp2_with fail
  refine (HF4.out w10).mono ?_
  rintro e w11 ⟨a11, c11, rfl, hown11, hb11⟩
  have HB11 := Lib.hid hb11
  have HO11 := Lib.hid hown11
  clear hown11 hb11
  go_wp2_with fail
  refine (HF5.out w11 a11 c11 HO11.out.toCells).mono ?_
  rintro e w12 ⟨a12, n12, c12, rfl, hown12, hb12⟩
  obtain rfl := ownlen hown12
  have HB12 := Lib.hid (after HB11.out hb12)
  have HO12 := Lib.hid hown12
  clear hown12 hb12
  have X12 := Lib.hid ((HO9.out.below HB10.out).below HB12.out)
  have Y12 := Lib.hid (HO10.out.below HB12.out)
  have s4 := rsame_any w12 a9 c9 T a12 c12 T (by omega) X12.out.toCells HO12.out.toCells
  rw [decide_eq_true rfl] at s4
  have S4 := Lib.hid s4
  clear s4
  go_wp2_with fail
  refine S4.out.mono ?_
  rintro e w13 ⟨rfl, hb13⟩
  have HBX := Lib.hid (after (after (after HB9.out HB10.out) HB12.out) hb13)
  have A13 := Lib.hid ((A3.out.below HB8.out).below HBX.out)
  have B13 := Lib.hid ((A4.out.below HB8.out).below HBX.out)
  have C13 := Lib.hid ((HO5.out.below HB8.out).below HBX.out)
  have X13 := Lib.hid (X12.out.below hb13)
  have Y13 := Lib.hid (Y12.out.below hb13)
  have T13 := Lib.hid (HO12.out.below hb13)
  have HBW13 := Lib.hid (after HBW8.out HBX.out)
  clear hb13
  have m3 : w2.heap.size ≤ w3.heap.size := HB3.out.size
  have m5 : w3.heap.size ≤ w5.heap.size := Nat.le_trans HB4.out.size HB5.out.size
  have m8 : w5.heap.size ≤ w8.heap.size := HB8.out.size
  have m9 : w8.heap.size ≤ w9.heap.size := HB9.out.size
  have m10 : w9.heap.size ≤ w10.heap.size := HB10.out.size
  have m11 : w10.heap.size ≤ w11.heap.size := HB11.out.size
  have m4 : w3.heap.size ≤ w4.heap.size := HB4.out.size
  have hap := apart_any w13 w2.heap.size w3.heap.size w4.heap.size a3 c3 _ a4 c4 a5 c5 U (by omega) A13.out B13.out C13.out (later_apart HO3.out B13.out (Nat.le_refl _)) (later_apart HO3.out C13.out m4)
  have PX := Lib.hid (later_apart HO3.out X13.out (show w3.heap.size ≤ w8.heap.size by omega))
  have PY := Lib.hid (later_apart HO3.out Y13.out (show w3.heap.size ≤ w9.heap.size by omega))
  have PT := Lib.hid (later_apart HO3.out T13.out (show w3.heap.size ≤ w11.heap.size by omega))
  have QY := Lib.hid (later_apart HO9.out Y13.out (Nat.le_refl _))
  have QT := Lib.hid (later_apart HO9.out T13.out (show w9.heap.size ≤ w11.heap.size by omega))
  have HAP := Lib.hid hap
  have HBs := Lib.hid hb2.out.size
  clear hap m3 m5 m8 m9 m10 m11 m4
  go_wp2_with fail
  refine HAP.out.mono ?_
  rintro e w14 ⟨rfl, hg14⟩
  have hap2 := apart_any w14 w8.heap.size w9.heap.size w11.heap.size a9 c9 _ a10 c10 a12 c12 T (by omega) (X13.out.grown hg14 PX.out) (Y13.out.grown hg14 PY.out) (T13.out.grown hg14 PT.out) QY.out QT.out
  have hbw14 := HBW13.out.trans (own_grown_below A13.out hg14 HBs.out HBW13.out.size)
  have X14 := Lib.hid (X13.out.grown hg14 PX.out)
  have HBW14 := Lib.hid hbw14
  have HAP2 := Lib.hid hap2
  clear hg14 hap2 hbw14
  go_wp2_with fail
  refine HAP2.out.mono ?_
  rintro e w15 ⟨rfl, hg15⟩
  have hbw15 := HBW14.out.trans (own_grown_below X14.out hg15 HBW8.out.size HBW14.out.size)
  have HBW15 := Lib.hid hbw15
  clear hg15 hbw15
  go_wp2_with (go_at_call 20; refine (awake_any _).mono ?_; rintro e w16 ⟨rfl, hb16⟩)
  go_ret
  exact ⟨rfl, HBW15.out.trans (hb16.mono HBW15.out.size)⟩

end Go.Proofs.Ytmdcbpdmkonmlaa
