/-
  Strict, walked.
-/
import Derived.Test.YthkehgmeaedflaaDoorCheck
import Derived.Test.YthkehgmeaedflaaDoorJoinM
import Derived.Test.YthkehgmeaedflaaDoorUBackM
namespace Go.Proofs.YthkehgmeaedflaaDoor
open Go.RowKit
set_option linter.unusedVariables false

/-- What Strict hands back. -/
def StrictP (s : ByteArray) (w : World) (e : Ending) (w' : World) : Prop :=
  ∃ (a : Option Addr) (n c : Nat) (p : Option Addr), e = .returned (.tuple #[.slice a n c, .pointer p]) ∧ Below w.heap.size w w' ∧
    (((checkOf s).2 = 0 ∧ n = (textRunes s).length ∧ p = none ∧ Own w' w.heap.size 1 a n c ((textRunes s).map (Value.int .i32))) ∨
     ((checkOf s).2 ≠ 0 ∧ a = none ∧ n = 0 ∧ c = 0 ∧ ∃ g, p = some ⟨g, 0, none⟩ ∧ w.heap.size ≤ g ∧ g < w'.heap.size ∧ SpotBox w' g s (checkOf s).1))

set_option maxRecDepth 20000 in
set_option maxHeartbeats 2000000 in
theorem strict_any (w : World) (s : ByteArray) (hs : s.size ≤ 70368744177664) (hT : Lib.Utf8Tabs 0 1 w) :
    Calls Tryd.prog 38 #[.string s] w (StrictP s w) := by
  have HC := Lib.hid (fun w hT => check_any w s (by omega) hT)
  have HT := Lib.hid hT
  clear hT
  by_cases hz : (checkOf s).2 = 0
  · have HZ := Lib.hid hz
    have hzz : ((((checkOf s).2 : Nat) : Int) != 0) = false := by simp [hz]
    generalize hC : checkOf s = C at *
    obtain ⟨c0, z⟩ := C
    simp only at hzz HC
    have HCC := Lib.hid hC
    clear hz hC
    go_enter Tryd.func38, Tryd.ntmps38
    go_wp2_with fail
    refine (HC.out _ HT.out).mono ?_
    rintro e w1 ⟨rfl, hb1⟩
    have HB1 := Lib.hid hb1
    clear hb1 HC
    go_wp2_with (with_reducible refine wpList_runes rfl _ 9 26 21 rfl Tryd.underlying9 Tryd.underlying26 Tryd.underlying21 s rfl (by omega) ?_; intro g2 c2 w2 hown2 hb2; have HO2 := Lib.hid hown2; have HB2 := Lib.hid (after HB1.out hb2); clear hown2 hb2)
    go_ret2
    refine ⟨_, _, _, _, rfl, HB2.out, .inl ⟨?_, rfl, rfl, HO2.out.mono HB1.out.size⟩⟩
    rw [HCC.out]
    exact HZ.out
  · obtain ⟨x, hx, hcx, hcs⟩ := check_nonzero hz
    have hxs := place_lt hx
    have HZ := Lib.hid hz
    have hzz : ((codeOf s x : Int) != 0) = true := by simp [hcx]
    rw [hcs] at HC
    have HCC := Lib.hid hcs
    have HSP := Lib.hid (fun W hT => spot_e W s x hxs (by omega) hT)
    unfold spotE spotV at HSP
    have hx0 : (0 : Int) ≤ (x : Int) := by omega
    obtain ⟨D, hD⟩ : ∃ D, D = Utf8.decode s x := ⟨_, rfl⟩
    have HD := Lib.hid hD
    rw [← hD] at HSP
    clear hz hx hcx hcs hD
    generalize hcd : codeOf s x = cd at *
    have HCD := Lib.hid hcd
    clear hcd
    go_enter Tryd.func38, Tryd.ntmps38
    go_wp2_with fail
    refine (HC.out _ HT.out).mono ?_
    rintro e w1 ⟨rfl, hb1⟩
    have HB1 := Lib.hid hb1
    clear hb1 HC
    go_wp2_with fail
    refine (HSP.out _ (tabs_below HT.out HB1.out)).mono ?_
    rintro e w2 ⟨rfl, hb2⟩
    have HB2 := Lib.hid (after HB1.out hb2)
    clear hb2
    go_wp2_with fail
    go_ret2
    refine ⟨none, 0, 0, _, rfl, HB2.out.alloc HB2.out.size _, .inr ⟨HZ.out, rfl, rfl, rfl, w2.heap.size, rfl, HB2.out.size, by simp, ?_⟩⟩
    rw [HCC.out]
    show (w2.alloc _).heap[w2.heap.size]? = _
    unfold spotV
    simp only
    rw [← HD.out, HCD.out]
    exact World.alloc_heap_new w2 _

end Go.Proofs.YthkehgmeaedflaaDoor
