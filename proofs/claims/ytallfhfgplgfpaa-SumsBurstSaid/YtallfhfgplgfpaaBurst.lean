/-
  A sealed text in which bits are turned is refused: the walk.
-/
import Derived.Test.YtallfhfgplgfpaaTurn
import Derived.Test.YtallfhfgplgfpaaWalks
namespace Go.Proofs.Ytallfhfgplgfpaa
open Go.RowKit

def turnBit (t : BitVec 32) (k : Nat) : Int := if t.getLsbD k then 1 else 0

theorem turn_walk (t : BitVec 32) (k : Nat) : bits BinOp.and IntKind.u32 ((t.toNat : Int) / 2 ^ k) 1 = turnBit t k := by
  have e : (t.toNat : Int) / 2 ^ k = ((t >>> k).toNat : Int) := by
    rw [BitVec.toNat_ushiftRight, Nat.shiftRight_eq_div_pow]
    simp
  rw [e, bits_and_u32, ofInt_toNat]
  have e1 : BitVec.ofInt 32 1 = 1#32 := by decide
  rw [e1, BitVec.and_one_eq_setWidth_ofBool_getLsbD, BitVec.getLsbD_ushiftRight, Nat.add_zero]
  unfold turnBit
  cases t.getLsbD k <;> rfl

attribute [local go_sem] turn_walk

theorem flip_walk (x : UInt8) (r : Nat) (hr : r < 8) : bits BinOp.xor IntKind.u8 (x.toNat : Int) ((2 ^ r : Nat) : Int) = ((flip x r).toNat : Int) := by
  have h2 : (2 : Nat) ^ r < 256 := Nat.pow_lt_pow_right (by omega) hr
  have := bits_xor_u8 x (UInt8.ofNat (2 ^ r))
  rw [UInt8.toNat_ofNat', Nat.mod_eq_of_lt (by simpa using h2)] at this
  exact this

set_option maxRecDepth 20000 in
set_option maxHeartbeats 2000000 in
theorem burst_walk (w : World) (s : ByteArray) (hs : s.size ≤ 140737488351232) (f : Int) (hf : (Lit.int .i64 f).wf = true) (t : Int) (ht : (Lit.int .u32 t).wf = true) :
    Calls Try.prog 11 #[.string s, .int .i64 f, .int .u32 t] w fun e w' => e = .returned (.bool true) ∧ Below w.heap.size w w' := by
  have hs' : s.size ≤ 140737488355328 := by omega
  obtain ⟨tv, rfl⟩ := u32_of t ht
  clear ht
  have hsz := sealOf_size s
  have HL := Lib.hid (turned_law s)
  obtain ⟨S, hS⟩ : ∃ S, S = sealOf s := ⟨_, rfl⟩
  rw [← hS] at hsz HL
  have hsz2 : S.size ≤ 140737488355328 := by omega
  have HSZ := Lib.hid hsz
  clear hsz
  by_cases h0 : ((tv.toNat : Int) == 0) = true
  · go_enter Try.func11, Try.ntmps11
    go_wp2_with fail
    refine (awake_any _).mono ?_
    rintro e w1 ⟨rfl, hb1⟩
    go_wp2_with fail
    refine (seal_any s _ hs').mono ?_
    rintro e w2 ⟨rfl, hb2⟩
    go_wp2
    go_ret
    exact ⟨rfl, after hb1 hb2⟩
  have h0' : ((tv.toNat : Int) == 0) = false := by simpa using h0
  clear h0
  by_cases h1 : f < 0
  · go_enter Try.func11, Try.ntmps11
    go_wp2_with fail
    refine (awake_any _).mono ?_
    rintro e w1 ⟨rfl, hb1⟩
    go_wp2_with fail
    refine (seal_any s _ hs').mono ?_
    rintro e w2 ⟨rfl, hb2⟩
    go_wp2
    go_ret
    exact ⟨rfl, after hb1 hb2⟩
  obtain ⟨p, rfl⟩ := Int.eq_ofNat_of_zero_le (Int.not_lt.1 h1)
  clear h1
  have HS := Lib.hid hS
  clear hS
  by_cases h2 : 8 * S.size ≤ p
  · go_enter Try.func11, Try.ntmps11
    go_wp2_with fail
    refine (awake_any _).mono ?_
    rintro e w1 ⟨rfl, hb1⟩
    go_wp2_with fail
    refine (seal_any s _ hs').mono ?_
    rintro e w2 ⟨rfl, hb2⟩
    rw [← HS.out]
    go_wp2
    go_ret
    exact ⟨rfl, after hb1 hb2⟩
  have h3 : p < 8 * S.size := by omega
  clear h2 hf
  go_enter Try.func11, Try.ntmps11
  go_wp2_with fail
  refine (awake_any _).mono ?_
  rintro e w1 ⟨rfl, hb1⟩
  go_wp2_with fail
  refine (seal_any s _ hs').mono ?_
  rintro e w2 ⟨rfl, hb2⟩
  rw [← HS.out]
  have hb3 := after hb1 hb2
  go_wp2_with (with_reducible refine wpList_bytes rfl _ 9 50 5 rfl Try.underlying9 Try.underlying50 Try.underlying5 S rfl (by simp [maxLen]; omega) ?_; intro g c w4 hown4 hb4)
  have hlen : S.data.toList.length = S.size := by simp
  have HB := Lib.hid hb3
  have HT := Lib.hid (Turned.start S.data.toList p tv)
  go_loopw [9, 10] (fun tu i wr => ∃ (k : Nat) (T : List UInt8) (b : Bool), k ≤ 32 ∧ p + k ≤ 8 * S.size ∧ tu = .bool b ∧ i = .int .i64 k ∧ Hid (Turned S.data.toList p tv k T b) ∧ Own wr w2.heap.size 1 (some ⟨g, 0, none⟩) S.size c (T.map byteV) ∧ Below w2.heap.size w2 wr) (fun _ i _ => 32 - (intOf i).toNat)
  case atStart => exact ⟨0, _, false, by omega, by omega, rfl, rfl, HT, by simpa using hown4, hb4⟩
  case round =>
    obtain ⟨k, T, b, hk, hpk, rfl, rfl, HTr, hown, hbr⟩ := hrel
    have HB2 := Lib.hid hbr
    have HO := Lib.hid hown
    by_cases hin : k < 32 ∧ p + k < 8 * S.size
    · obtain ⟨hlt, hlt2⟩ := hin
      by_cases hbit : tv.getLsbD k = true
      · have hT : T.length = S.size := by rw [HTr.out.len]; exact hlen
        have hm : (p + k) / 8 < S.size := by omega
        obtain ⟨g', hg', q1, q2, q3, q4⟩ := hown.addr (by have := hown.le; omega)
        simp at hg'
        subst hg'
        obtain ⟨x, hxe⟩ : ∃ x, T.getD ((p + k) / 8) 0 = x := ⟨_, rfl⟩
        have hx : T[(p + k) / 8]? = some x := by rw [← hxe, List.getD_eq_getElem?_getD, List.getElem?_eq_getElem (by omega)]; rfl
        have hck : wr.cell? ⟨g, (p + k) / 8, none⟩ = some (.int .u8 x.toNat) := q3 _ _ (by rw [List.getElem?_map, hx]; rfl)
        have HXE := Lib.hid hxe
        clear hxe
        have hf := (q4 ((p + k) / 8) (by have := hown.le; omega)).2
        have htest : (turnBit tv k == 1) = true := by simp [turnBit, hbit]
        have HX := Lib.hid hx
        clear hown hbr q3 q4 hx hown4 hb4 hb3 hb1 hb2
        have h5 : (0 : Int) ≤ ((p + k : Nat) : Int) / 8 := by omega
        have h6 : ((p + k : Nat) : Int) / 8 < (S.size : Int) := by omega
        have h7 : ((p + k : Nat) : Int) % 8 < 8 := by omega
        go_wp2
        go_region
        go_wp2
        go_roundw
        case rel =>
          refine ⟨k + 1, flipAt T (p + k), true, by omega, by omega, rfl, by go_num, Lib.hid (HTr.out.turn hbit (by rw [hlen]; exact hlt2)), ?_, (HB2.out.setCell (p := ⟨g, _, none⟩) q1 _).drew⟩
          have h8 : (2 : Int) ^ ((p + k) % 8) % 256 = ((2 ^ ((p + k) % 8) : Nat) : Int) := by
            have h2 : (2 : Nat) ^ ((p + k) % 8) < 2 ^ 8 := Nat.pow_lt_pow_right (by omega) (by omega)
            have e : (2 : Int) ^ ((p + k) % 8) = ((2 ^ ((p + k) % 8) : Nat) : Int) := by simp
            rw [e]
            generalize (2 : Nat) ^ ((p + k) % 8) = z at *
            omega
          rw [h8, flip_walk _ _ (by omega)]
          have := (HO.out.stored ((p + k) / 8) hm (.int .u8 ((flip x ((p + k) % 8)).toNat : Int))).drew
          unfold flipAt
          rw [List.map_set, HXE.out]
          exact this
        case measure => simp [intOf]; omega
      · have hbit' : tv.getLsbD k = false := by simpa using hbit
        have htest : (turnBit tv k == 1) = false := by simp [turnBit, hbit']
        have HBIT := Lib.hid hbit'
        clear hown hbr hown4 hb4 hb3 hb1 hb2 hbit hbit'
        go_wp2
        go_roundw
        case rel => exact ⟨k + 1, T, b, by omega, by omega, rfl, by go_num, Lib.hid (HTr.out.skip HBIT.out), HO.out, HB2.out⟩
        case measure => simp [intOf]; omega
    · have hT : T.length = S.size := by rw [HTr.out.len]; exact hlen
      have hcv : (convert 50 9 (.slice (some ⟨g, 0, none⟩) S.size c)).run Try.prog wr = .ok (.string ⟨T.toArray⟩) wr := run_str (w := wr) (P := Try.prog) 50 9 5 Try.underlying50 Try.underlying5 Try.underlying9 (some ⟨g, 0, none⟩) S.size c T hT hown.toCells
      have hlaw := HL.out p tv k T b HTr.out hk hpk
      have hsz3 : (⟨T.toArray⟩ : ByteArray).size = S.size := by show T.toArray.size = _; simpa using hT
      obtain ⟨U, hU⟩ : ∃ U : ByteArray, U = ⟨T.toArray⟩ := ⟨_, rfl⟩
      have hcv2 : ∀ w6, Below wr.heap.size wr w6 → (convert 50 9 (.slice (some ⟨g, 0, none⟩) S.size c)).run Try.prog w6 = .ok (.string U) w6 := fun w6 h6 => by
        rw [hU]
        exact run_str (w := w6) (P := Try.prog) 50 9 5 Try.underlying50 Try.underlying5 Try.underlying9 (some ⟨g, 0, none⟩) S.size c T hT (hown.below h6).toCells
      have HC2 := Lib.hid hcv2
      rw [← hU] at hcv hlaw hsz3
      clear hown hbr hown4 hb4 hb3 hb1 hb2 HTr HO HL HT hcv2 hU
      have hex : k = 32 ∨ (k < 32 ∧ 8 * S.size ≤ p + k) := by omega
      clear hin hpk hk
      rcases hlaw with ⟨rfl, hB⟩ | ⟨rfl, e1, e2, e3, e4⟩
      · have HB4 := Lib.hid hB
        clear hB
        rcases hex with rfl | ⟨hlt, hk2⟩
        all_goals
          go_wp2_with fail
          refine (burst_any S U _ hsz2).mono ?_
          rintro e w6 ⟨rfl, hb6⟩
          rw [HB4.out]
          have hcv3 := HC2.out _ hb6
          have HB6 := Lib.hid hb6
          clear hb6 hcv
          go_wp2_with fail
          refine (open_any U _ (by omega)).mono ?_
          rintro e w7 ⟨rfl, hb7⟩
          go_wp2
          go_ret
          exact ⟨rfl, after (after (after HB.out HB2.out) HB6.out) hb7⟩
      · have HB4 := Lib.hid e4
        clear e4
        generalize hC : burstOf S U = C at e1 e2 e3
        have HC := Lib.hid hC
        clear hC
        have e1' : (C.2.2 != 0) = false := by simp [e1]
        rcases hex with rfl | ⟨hlt, hk2⟩
        all_goals
          go_wp2_with fail
          refine (burst_any S U _ hsz2).mono ?_
          rintro e w6 ⟨rfl, hb6⟩
          rw [HC.out]
          have hcv3 := HC2.out _ hb6
          have HB6 := Lib.hid hb6
          clear hb6 hcv
          go_wp2_with fail
          refine (open_any U _ (by omega)).mono ?_
          rintro e w7 ⟨rfl, hb7⟩
          rw [HB4.out]
          go_wp2
          go_ret
          exact ⟨rfl, after (after (after HB.out HB2.out) HB6.out) hb7⟩
end Go.Proofs.Ytallfhfgplgfpaa
