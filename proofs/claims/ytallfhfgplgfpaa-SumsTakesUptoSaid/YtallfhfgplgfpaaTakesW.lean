/-
  SumsTakes, and SumsBack's neighbours: the walk of the law SumsTakes.
-/
import Derived.Test.YtallfhfgplgfpaaTooks
namespace Go.Proofs.Ytallfhfgplgfpaa
open Go.RowKit

set_option maxHeartbeats 1000000 in
theorem takes_walk (w : World) (s : ByteArray) (hs : s.size ≤ 1048576) (p : Int) (hp : (Lit.int .i64 p).wf = true) (n : Int) (hn : (Lit.int .i64 n).wf = true) :
    Calls Try.prog 8 #[.string s, .int .i64 p, .int .i64 n] w fun e w' => e = .returned (.bool true) ∧ Below w.heap.size w w' := by
  have hs' : s.size ≤ 2097152 := by omega
  have HP := Lib.hid hp
  have HN := Lib.hid hn
  clear hp hn
  go_enter Try.func8, Try.ntmps8
  go_wp2_with (first
    | (go_at_call 31; refine (took_u8 s p n _ hs' HP.out HN.out).mono ?_; rintro e w1 ⟨rfl, hb1⟩)
    | (go_at_call 32; refine (took_u16 s p n _ hs' HP.out HN.out).mono ?_; rintro e w2 ⟨rfl, hb2⟩)
    | (go_at_call 33; refine (took_u32 s p n _ hs' HP.out HN.out).mono ?_; rintro e w3 ⟨rfl, hb3⟩)
    | (go_at_call 34; refine (took_small s p n _ hs' HP.out HN.out).mono ?_; rintro e w4 ⟨rfl, hb4⟩)
    | (go_at_call 35; refine (took_middle s p n _ hs' HP.out HN.out).mono ?_; rintro e w5 ⟨rfl, hb5⟩)
    | (go_at_call 36; refine (took_large s p n _ hs' HP.out HN.out).mono ?_; rintro e w6 ⟨rfl, hb6⟩)
    | (go_at_call 19; refine (awake_any _).mono ?_; rintro e w7 ⟨rfl, hb7⟩))
  go_ret
  exact ⟨rfl, after (after (after (after (after (after hb1 hb2) hb3) hb4) hb5) hb6) hb7⟩

end Go.Proofs.Ytallfhfgplgfpaa
