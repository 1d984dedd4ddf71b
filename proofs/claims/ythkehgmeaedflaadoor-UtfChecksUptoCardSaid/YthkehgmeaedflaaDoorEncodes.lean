/-
  The reference's bytes of many characters, and the walk of the law UtfEncodes.
-/
import Derived.Test.YthkehgmeaedflaaDoorREnc
import Derived.Test.YthkehgmeaedflaaDoorUBack
namespace Go.Proofs.YthkehgmeaedflaaDoor
open Go.RowKit

theorem bytes_snoc (l : List Int) (x : Int) : runesBytes (l ++ [x]) = runesBytes l ++ Utf8.encode x := by
  unfold runesBytes
  rw [List.foldl_append]
  rfl

set_option maxHeartbeats 2000000 in
theorem rencode_any (w : World) (a : Option Addr) (c : Nat) (xs : List Int) (hn : xs.length ≤ 17592186044416) (hr : Cells w a (xs.map (Value.int .i32))) :
    Calls Tryd.prog 30 #[.slice a xs.length c] w fun e w' => e = .returned (.string (runesBytes xs)) ∧ Below w.heap.size w w' := by
  have HR := Lib.hid hr
  clear hr
  go_enter Tryd.func30, Tryd.ntmps30
  go_wp2
  go_loopw [3, 4] (fun v i wr => ∃ k : Nat, k ≤ xs.length ∧ v = .string (runesBytes (xs.take k)) ∧ i = .int .i64 k ∧ Below w.heap.size w wr) (fun _ i _ => xs.length - (intOf i).toNat)
  case atStart => exact ⟨0, Nat.zero_le _, rfl, rfl, Below.refl _ _⟩
  case round =>
    obtain ⟨k, hk, rfl, rfl, hb⟩ := hrel
    have HB := Lib.hid hb
    clear hb
    have hk0 : (0 : Int) ≤ (k : Int) := by omega
    by_cases hlt : k < xs.length
    · obtain ⟨b1, o1, x, rfl, hx, hc1⟩ := (HR.out.below HB.out).at hlt
      have hlt2 : (k : Int) < (xs.length : Int) := by omega
      have hs := bytes_snoc (xs.take k) x
      rw [show xs.take k ++ [x] = xs.take (k + 1) by rw [List.take_add_one, hx]; rfl] at hs
      have HS := Lib.hid hs
      have hl := bytes_le (xs.take k)
      have hl2 : (xs.take k).length ≤ k := List.length_take_le _ _
      have hsz : (runesBytes (xs.take k)).size ≤ 70368744177664 := by omega
      have hen := enc_le x
      clear hx hs hl hl2
      generalize runesBytes (xs.take k) = S at *
      go_wp2_with (go_at_call 59; refine (rseq_any _ _).mono ?_; rintro e w1 ⟨rfl, hb1⟩)
      go_roundw
      case rel => exact ⟨k + 1, by omega, by rw [HS.out], by go_num, after HB.out hb1⟩
      case measure => simp [intOf]; omega
    · obtain rfl : k = xs.length := by omega
      rw [List.take_of_length_le (Nat.le_refl _)]
      go_wp2
      go_ret
      exact ⟨rfl, HB.out⟩

set_option maxRecDepth 20000 in
set_option maxHeartbeats 4000000 in
theorem encodes_walk (w : World) (a : Option Addr) (c : Nat) (xs : List Int) (hle : xs.length ≤ c) (hc : c ≤ 1048576) (hr : Cells w a (xs.map (Value.int .i32))) (hwf : ∀ x ∈ xs, (Lit.int .i32 x).wf = true) (r : Int) (hrw : (Lit.int .i32 r).wf = true) (hT : Lib.Utf8Tabs 0 1 w) :
    Calls Tryd.prog 9 #[.slice a xs.length c, .int .i32 r] w fun e w' => e = .returned (.bool true) ∧ Below w.heap.size w w' := by
  have hn : xs.length ≤ 1048576 := by omega
  obtain ⟨i0, hi, hz0, hz1, hz2⟩ := info_parts info21
  have HR := Lib.hid hr
  have HT := Lib.hid hT
  clear hr hwf hle hc hT hrw
  go_enter Tryd.func9, Tryd.ntmps9
  go_wp2_with (at_builtin; first | (refine wpList_app rfl _ _ 26 26 rfl 21 i0 (.int .i32 0) 1 4 Tryd.underlying26 hi hz0 hz1 hz2 rfl (by simp [Value.cells, Value.oneCell']) w.heap.size _ _ _ _ rfl (Own.nil _ _ _) _ _ _ rfl (Src.ofCells Tryd.underlying26 _ _ _ _ (by simp) HR.out (ints_one _ _) (by decide)) (by simp [maxLen]; omega) (by omega) (Nat.le_refl _) ?_; intro a1 c1 w1 hown1 hap1; rw [Nat.zero_add, List.nil_append] at hown1; have HB1 := Lib.hid (hap1.below (Own.nil w w.heap.size 1) (Nat.le_refl _)); clear hap1) | (refine wpList_app rfl _ _ 26 26 rfl 21 i0 (.int .i32 0) 1 4 Tryd.underlying26 hi hz0 hz1 hz2 rfl (by simp [Value.cells, Value.oneCell']) w.heap.size _ _ _ _ rfl (hown1.alloc _) _ 1 [.int .i32 (-77)] rfl (Src.ofCells Tryd.underlying26 _ _ _ _ rfl (Cells.new _ _ _) (by simp [Value.oneCell']) (by decide)) (by simp [maxLen]; omega) (by omega) (by have := HB1.out.size; exact Nat.le_trans this (by simp)) ?_; intro a2 c2 w2 hown2 hap2; have hb2 := Lib.hid ((HB1.out.alloc HB1.out.size _).trans (hap2.below (hown1.alloc _) (by have := HB1.out.size; exact Nat.le_trans this (by simp)))); obtain ⟨g, rfl, _, _, _⟩ := hown2.addr (by have := hown2.le; omega); have hle2 := hown2.le; have HO2 := Lib.hid hown2; clear hown2 hap2 hown1; have h0 : (0 : Int) ≤ (xs.length : Int) := (by omega); have h1 : (xs.length : Int) ≤ (c2 : Int) := Int.ofNat_le.mpr (Nat.le_trans (Nat.le_add_right _ 1) hle2); have h2 : (xs.length : Int) < (xs.length : Int) + 1 := (by omega)))
  have hpre := HO2.out.prefix xs.length (by omega)
  rw [Nat.mul_one, List.take_left' (by simp)] at hpre
  have HPRE := Lib.hid hpre
  clear hpre
  refine (encode_any w2 (some ⟨g, 0, none⟩) c2 xs HPRE.out.toCells).mono ?_
  rintro e w3 ⟨rfl, rfl⟩
  go_wp2_with fail
  refine (rencode_any w2 a c xs (by omega) (HR.out.below hb2.out)).mono ?_
  rintro e w4 ⟨rfl, hb4⟩
  have HB4 := Lib.hid (after hb2.out hb4)
  have HPRE4 := Lib.hid (HPRE.out.below hb4)
  have HO4 := Lib.hid (HO2.out.below hb4)
  clear hb4
  have s3 := rsame_any w4 (some ⟨g, 0, none⟩) c2 xs a c xs (by omega) HPRE4.out.toCells (HR.out.below HB4.out)
  rw [decide_eq_true rfl] at s3
  have S3 := Lib.hid s3
  clear s3
  go_wp2_with fail
  refine S3.out.mono ?_
  rintro e w5 ⟨rfl, hb5⟩
  have HB5 := Lib.hid (after HB4.out hb5)
  obtain ⟨g', hg', q1, q2, q3, q4⟩ := (HO4.out.below hb5).addr (by omega)
  simp at hg'
  subst hg'
  have hc7 : w5.cell? ⟨g, xs.length, none⟩ = some (.int .i32 (-77)) := q3 _ _ (by rw [List.getElem?_append_right (by simp)]; simp)
  clear hb5 q3 q4
  have hss : (scalarB r == scalarB r) = true := by simp
  have HLV := Lib.hid (lives_any w5 (tabs_below HT.out HB5.out))
  go_wp2_with (first
    | (go_at_call 18; refine (scalar_any _ _).mono ?_; rintro e w' ⟨rfl, rfl⟩)
    | (go_at_call 32; refine (rscalar_any _ _).mono ?_; rintro e w' ⟨rfl, rfl⟩)
    | (go_at_call 33; refine (width_any _ _).mono ?_; rintro e w' ⟨rfl, rfl⟩)
    | (go_at_call 34; refine (rwidth_any _ _).mono ?_; rintro e w' ⟨rfl, rfl⟩)
    | (go_at_call 16; refine HLV.out.mono ?_; rintro e w6 ⟨rfl, hb6⟩))
  go_ret
  exact ⟨rfl, after HB5.out hb6⟩

end Go.Proofs.YthkehgmeaedflaaDoor
