/-
  Two lists of pairs held against one another: walked.
-/
import Derived.Test.YthkehgmeaedflaaDoorUGo
namespace Go.Proofs.YthkehgmeaedflaaDoor
open Go.RowKit

theorem pair_in {w : World} {a : Option Addr} {L : List (Nat × Nat)} (h : Cells w a (L.flatMap pairL)) {k : Nat} (hk : k < L.length) : ∃ b o x, a = some ⟨b, o, none⟩ ∧ L[k]? = some x ∧ w.cell? ⟨b, o + k * 2, none⟩ = some (.int .i64 (x.1 : Int)) ∧ w.cell? ⟨b, o + k * 2 + 1, none⟩ = some (.int .i32 (x.2 : Int)) := by
  have hl := pairL_len L
  obtain ⟨b, o, ha, hc⟩ := h (by intro e; rw [e] at hl; simp at hl; omega)
  have hx := List.getElem?_eq_getElem hk
  refine ⟨b, o, L[k], ha, hx, hc _ _ ?_, by rw [Nat.add_assoc]; exact hc _ _ (by rw [pairL_at L k _ hx 1 (by omega)]; rfl)⟩
  have := pairL_at L k _ hx 0 (by omega)
  rw [Nat.add_zero] at this
  rw [this]
  rfl

theorem pairs_take (L : List (Nat × Nat)) (m : Nat) : (L.take m).flatMap pairL = (L.flatMap pairL).take (m * 2) := by
  induction L generalizing m with
  | nil => simp
  | cons x L ih =>
    cases m with
    | zero => simp
    | succ m =>
      rw [List.take_succ_cons, List.flatMap_cons, List.flatMap_cons, ih, List.take_append]
      rw [show (pairL x).length = 2 from rfl, List.take_of_length_le (show (pairL x).length ≤ (m + 1) * 2 by show 2 ≤ _; omega), show (m + 1) * 2 - 2 = m * 2 by omega]

set_option maxHeartbeats 2000000 in
theorem samePairs_any (w : World) (a : Option Addr) (c : Nat) (b : Option Addr) (d : Nat) (L : List (Nat × Nat)) (hn : L.length ≤ 140737488355328) (hx : Cells w a (L.flatMap pairL)) (hy : Cells w b (L.flatMap pairL)) :
    Calls Tryd.prog 24 #[.slice a L.length c, .slice b L.length d] w fun e w' => e = .returned (.bool true) ∧ Below w.heap.size w w' := by
  have HX := Lib.hid hx
  have HY := Lib.hid hy
  clear hx hy
  go_enter Tryd.func24, Tryd.ntmps24
  go_wp2
  go_loopw [5] (fun i wr => ∃ k : Nat, k ≤ L.length ∧ i = .int .i64 k ∧ Below w.heap.size w wr) (fun i _ => L.length - (intOf i).toNat)
  case atStart => exact ⟨0, Nat.zero_le _, rfl, Below.refl _ _⟩
  case round =>
    obtain ⟨k, hk, rfl, hb⟩ := hrel
    have HB := Lib.hid hb
    clear hb
    have h0 : (0 : Int) ≤ (k : Int) := by omega
    by_cases hlt : k < L.length
    · obtain ⟨b1, o1, x, rfl, hx, p0, p1⟩ := pair_in (HX.out.below HB.out) hlt
      obtain ⟨b2, o2, y, rfl, hy, r0, r1⟩ := pair_in (HY.out.below HB.out) hlt
      rw [hx] at hy
      simp only [Option.some.injEq] at hy
      subst hy
      have h1 : (k : Int) < (L.length : Int) := by omega
      have e1 : ((x.1 : Int) == (x.1 : Int)) = true := by simp
      have e2 : ((x.2 : Int) == (x.2 : Int)) = true := by simp
      clear hx
      go_wp2
      go_quiet (fail)
      go_wp2
      go_roundw
      case rel => exact ⟨k + 1, by omega, by go_num, below_drewN HB.out _⟩
      case measure => simp [intOf]; omega
    · have h1 : (L.length : Int) ≤ (k : Int) := by omega
      go_wp2
      go_ret
      exact ⟨rfl, HB.out⟩

end Go.Proofs.YthkehgmeaedflaaDoor
