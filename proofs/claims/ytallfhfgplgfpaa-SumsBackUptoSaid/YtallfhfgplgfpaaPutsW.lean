/-
  The walk of the law SumsPuts.
-/
import Derived.Test.YtallfhfgplgfpaaLaids
namespace Go.Proofs.Ytallfhfgplgfpaa
open Go.RowKit

theorem nats_of (xs : List Int) (h : ∀ x ∈ xs, (Lit.int .u32 x).wf = true) : ∃ ys : List Nat, xs = ys.map (fun n : Nat => (n : Int)) ∧ ∀ y ∈ ys, y < 4294967296 := by
  induction xs with
  | nil => exact ⟨[], rfl, fun y hy => by cases hy⟩
  | cons x xs ih =>
    obtain ⟨ys, rfl, hy⟩ := ih (fun z hz => h z (List.mem_cons_of_mem _ hz))
    have hx : 0 ≤ x ∧ x ≤ 4294967295 := by simpa [Lit.wf, IntKind.min, IntKind.max, IntKind.signed, IntKind.bits] using h x (List.mem_cons_self ..)
    obtain ⟨n, rfl⟩ := Int.eq_ofNat_of_zero_le hx.1
    refine ⟨n :: ys, rfl, fun y hy2 => ?_⟩
    rcases List.mem_cons.1 hy2 with rfl | h2
    · omega
    · exact hy y h2

set_option maxHeartbeats 1000000 in
theorem puts_walk (w : World) (s : ByteArray) (hs : s.size ≤ 1048576) (a : Option Addr) (c : Nat) (xs : List Int) (hle : xs.length ≤ c) (hc : c ≤ 1048576) (hr : Cells w a (xs.map (Value.int .u32))) (hwf : ∀ x ∈ xs, (Lit.int .u32 x).wf = true) :
    Calls Try.prog 4 #[.string s, .slice a xs.length c] w fun e w' => e = .returned (.bool true) ∧ Below w.heap.size w w' := by
  obtain ⟨ys, rfl, hy⟩ := nats_of xs hwf
  have hn : ys.length ≤ 1048576 := by simp at hle; omega
  rw [List.map_map] at hr
  have hr2 : Cells w a (ys.map (numV .u32)) := hr
  rw [List.length_map]
  have HR := Lib.hid hr2
  have HY := Lib.hid hy
  clear hwf hle hr hr2 hy
  go_enter Try.func4, Try.ntmps4
  go_wp2_with (first
    | (go_at_call 20; refine (laid_u8 s a c ys _ hs hn HR.out HY.out).mono ?_; rintro e w1 ⟨rfl, hb1⟩)
    | (go_at_call 21; refine (laid_u16 s a c ys _ hs hn (HR.out.below hb1) HY.out).mono ?_; rintro e w2 ⟨rfl, hb2⟩; have hb12 := after hb1 hb2)
    | (go_at_call 22; refine (laid_u32 s a c ys _ hs hn (HR.out.below hb12) HY.out).mono ?_; rintro e w3 ⟨rfl, hb3⟩; have hb13 := after hb12 hb3)
    | (go_at_call 23; refine (laid_small s a c ys _ hs hn (HR.out.below hb13) HY.out).mono ?_; rintro e w4 ⟨rfl, hb4⟩; have hb14 := after hb13 hb4)
    | (go_at_call 24; refine (laid_middle s a c ys _ hs hn (HR.out.below hb14) HY.out).mono ?_; rintro e w5 ⟨rfl, hb5⟩; have hb15 := after hb14 hb5)
    | (go_at_call 25; refine (laid_large s a c ys _ hs hn (HR.out.below hb15) HY.out).mono ?_; rintro e w6 ⟨rfl, hb6⟩; have hb16 := after hb15 hb6)
    | (go_at_call 19; refine (awake_any _).mono ?_; rintro e w7 ⟨rfl, hb7⟩))
  go_ret
  exact ⟨rfl, after hb16 hb7⟩

end Go.Proofs.Ytallfhfgplgfpaa
