/-
  The walk of the law WideBytes.
-/
import Derived.Test.YtmdcbpdmkonmlaaRRead
import Derived.Test.YtmdcbpdmkonmlaaWFrom
namespace Go.Proofs.Ytmdcbpdmkonmlaa
open Go.RowKit

theorem readOf_len (o : Int) (s : ByteArray) : (readOf o s).1.length ≤ s.size := by
  unfold readOf
  split
  · simp
  · split
    · simp
    · split
      · simp only [readTo_length]
        have : (s.extract 2 s.size).size ≤ s.size := by rw [ByteArray.size_extract]; omega
        omega
      · simp only [readTo_length]
        omega

set_option maxRecDepth 20000 in
set_option maxHeartbeats 4000000 in
theorem bytes_walk (w : World) (o : Int) (wo : (Lit.int .u8 o).wf = true) (a : Option Addr) (c : Nat) (us : List Int) (hle : us.length ≤ c) (hc : c ≤ 1048576) (hr : Cells w a (us.map (Value.int .u16))) (hwf : ∀ x ∈ us, (Lit.int .u16 x).wf = true) (s : ByteArray) (hs : s.size ≤ 1048576) :
    Calls Try.prog 10 #[.int .u8 o, .slice a us.length c, .string s] w fun e w' => e = .returned (.bool true) ∧ Below w.heap.size w w' := by
  obtain ⟨wo0, wo1⟩ := u8_of wo
  have hwf2 := u16_of hwf
  have hn : us.length ≤ 1048576 := by omega
  have HR := Lib.hid hr
  have HW := Lib.hid hwf2
  have hgl := readOf_len o s
  have F1 := fun W => read_any W o s (by omega)
  have F2 := fun W => rread_any W o wo0 s (by omega)
  have L1 := fun W m a c h => lay_any W o m a c us (by omega) h HW.out
  have L2 := fun W m h => rlay_any W o wo0 m a c us (by omega) h HW.out
  generalize readOf o s = G at *
  obtain ⟨ys, qo, er⟩ := G
  simp only at F1 F2 hgl
  have hyl : ys.length ≤ 1048576 := by omega
  have HF1 := Lib.hid F1
  have HF2 := Lib.hid F2
  have HL1 := Lib.hid L1
  have HL2 := Lib.hid L2
  clear wo hr hwf hwf2 hle hc F1 F2 L1 L2 hgl hs
  go_enter Try.func10, Try.ntmps10
  go_wp2_with (go_at_call 38; refine (lent_any _ a c us (by omega) HR.out).mono ?_; rintro e w1 ⟨g, c1, rfl, hown1, hb1⟩)
  have hpre := hown1.prefix us.length (by omega)
  rw [Nat.mul_one, List.take_left' (by simp)] at hpre
  have HP := Lib.hid hpre
  have HO := Lib.hid hown1
  have HB1 := Lib.hid hb1
  clear hpre hown1 hb1
  refine wp_loop_rounds 3 ?_
  rw [rounds_succ]
  go_wp2_with fail
  have hx0 : Below w1.heap.size w1 (w1.alloc (.cells #[.bool false, .bool true] 4)) := (Below.refl _ _).alloc (Nat.le_refl _) _
  have hcell : (w1.alloc (.cells #[.bool false, .bool true] 4)).cell? ⟨w1.heap.size, 1, none⟩ = some (.bool true) := by simp
  generalize w1.alloc (.cells #[.bool false, .bool true] 4) = wA at *
  have hlt : w1.heap.size < wA.heap.size := World.block_lt_of_cell? wA _ hcell
  refine (HL1.out _ false (some ⟨g, 0, none⟩) c1 (HP.out.below hx0).toCells).mono ?_
  rintro e w2 ⟨rfl, hb2⟩
  go_wp2_with fail
  have hy2 := after hx0 hb2
  refine (HL2.out _ false (HR.out.below (after HB1.out hy2))).mono ?_
  rintro e w3 ⟨rfl, hb3⟩
  have hy3 := after hy2 hb3
  go_wp2_with fail
  refine (kept_any w3 w.heap.size g c1 a c us (by omega) (HO.out.below hy3) (HR.out.below (after HB1.out hy3))).mono ?_
  rintro e w4 ⟨rfl, hb4⟩
  have hy4 := after hy3 hb4
  have hcell4 : w4.cell? ⟨w1.heap.size, 1, none⟩ = some (.bool true) := ((after (after hb2 hb3) hb4).cell (p := ⟨w1.heap.size, 1, none⟩) hlt).trans hcell
  have HY4 := Lib.hid hy4
  clear hx0 hb2 hb3 hb4 hy2 hy3 hy4 hcell hlt
  go_wp2_with fail
  rw [rounds_succ]
  go_wp2_with fail
  clear hcell4
  refine (HL1.out _ true (some ⟨g, 0, none⟩) c1 (HP.out.below HY4.out).toCells).mono ?_
  rintro e w5 ⟨rfl, hb5⟩
  go_wp2_with fail
  have hy5 := after HY4.out hb5
  refine (HL2.out _ true (HR.out.below (after HB1.out hy5))).mono ?_
  rintro e w6 ⟨rfl, hb6⟩
  have hy6 := after hy5 hb6
  go_wp2_with fail
  refine (kept_any w6 w.heap.size g c1 a c us (by omega) (HO.out.below hy6) (HR.out.below (after HB1.out hy6))).mono ?_
  rintro e w7 ⟨rfl, hb7⟩
  have HY7 := Lib.hid (after HB1.out (after hy6 hb7))
  clear hb5 hb6 hb7 hy5 hy6
  go_wp2_with fail
  rw [rounds_succ]
  go_wp2_with fail
  refine (HF1.out w7).mono ?_
  rintro e w8 ⟨a8, n8, c8, rfl, hown8, hb8⟩
  obtain rfl := ownlen hown8
  have HO8 := Lib.hid hown8
  have HB8 := Lib.hid hb8
  clear hown8 hb8
  go_wp2_with fail
  refine (HF1.out w8).mono ?_
  rintro e w9 ⟨a9, n9, c9, rfl, hown9, hb9⟩
  obtain rfl := ownlen hown9
  have HO9 := Lib.hid hown9
  have HB9 := Lib.hid hb9
  clear hown9 hb9
  go_wp2_with fail
  refine (HF2.out w9).mono ?_
  rintro e w10 ⟨a10, n10, c10, rfl, hown10, hb10⟩
  obtain rfl := ownlen hown10
  have HO10 := Lib.hid hown10
  have HB10 := Lib.hid hb10
  clear hown10 hb10
  have A10 := Lib.hid ((HO8.out.below HB9.out).below HB10.out)
  have B10 := Lib.hid (HO9.out.below HB10.out)
  have sm := rsame_any w10 a8 c8 ys a10 c10 ys (by omega) A10.out.toCells HO10.out.toCells
  rw [decide_eq_true rfl] at sm
  have SM := Lib.hid sm
  clear sm
  go_wp2_with fail
  refine SM.out.mono ?_
  rintro e w11 ⟨rfl, hb11⟩
  have A11 := Lib.hid (A10.out.below hb11)
  have hap := apart_any w11 w7.heap.size w8.heap.size w9.heap.size a8 c8 _ a9 c9 a10 c10 ys (by omega) A11.out (B10.out.below hb11) (HO10.out.below hb11) (later_apart HO8.out B10.out (Nat.le_refl _)) (later_apart HO8.out HO10.out HB9.out.size)
  have HAP := Lib.hid hap
  have HBW := Lib.hid (after (after (after (after HY7.out HB8.out) HB9.out) HB10.out) hb11)
  clear hap hb11
  go_wp2_with fail
  refine HAP.out.mono ?_
  rintro e w12 ⟨rfl, hg12⟩
  have hbw := HBW.out.trans (own_grown_below A11.out hg12 HY7.out.size HBW.out.size)
  have HBV := Lib.hid hbw
  clear hg12 hbw
  go_wp2_with (go_at_call 20; refine (awake_any _).mono ?_; rintro e w13 ⟨rfl, hb13⟩)
  go_ret
  exact ⟨rfl, HBV.out.trans (hb13.mono HBV.out.size)⟩

end Go.Proofs.Ytmdcbpdmkonmlaa
