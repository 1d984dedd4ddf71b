/-
  Sums joined are the sum of the texts joined: the plain law and the two walks.
-/
import Derived.Test.YtallfhfgplgfpaaRjoin
namespace Go.Proofs.Ytallfhfgplgfpaa
open Go.RowKit
namespace Crc

theorem feed_split (l : List UInt8) (r : BitVec 32) : feed r l = stps (8 * l.length) r ^^^ feed 0#32 l := by
  induction l generalizing r with
  | nil => simp [feed, stps]
  | cons x l ih =>
    show feed (fed r x) l = _ ^^^ feed (fed 0#32 x) l
    rw [ih (fed r x), ih (fed 0#32 x)]
    have e : fed r x = stps 8 r ^^^ fed 0#32 x := by
      unfold fed
      rw [← stps_xor]
      congr 1
      rw [BitVec.zero_xor]
    rw [e, stps_xor, List.length_cons, show 8 * (l.length + 1) = 8 + 8 * l.length from by omega, stps_add, BitVec.xor_assoc]

theorem more_join (la lb : List UInt8) : stps (8 * lb.length) (more 0#32 la) ^^^ more 0#32 lb = more 0#32 (la ++ lb) := by
  have h0 : inv 0#32 = BitVec.allOnes 32 := by decide
  unfold more
  rw [h0, feed_append, feed_split lb (feed _ la), feed_split lb (BitVec.allOnes 32), inv_eq, inv_eq, inv_eq, stps_xor]
  generalize stps (8 * lb.length) (feed (BitVec.allOnes 32) la) = x
  generalize stps (8 * lb.length) (BitVec.allOnes 32) = y
  generalize feed 0#32 lb = z
  apply BitVec.eq_of_getLsbD_eq
  intro i hi
  simp only [BitVec.getLsbD_xor, BitVec.getLsbD_allOnes, hi, decide_true]
  cases x.getLsbD i <;> cases y.getLsbD i <;> cases z.getLsbD i <;> rfl
end Crc

theorem crc_join (a b : ByteArray) : joinOf (crcOf [a]) (crcOf [b]) b.size = crcOf [a ++ b] := by
  have := Crc.more_join a.data.toList b.data.toList
  unfold joinOf
  have e : (a ++ b).data.toList = a.data.toList ++ b.data.toList := by simp [ByteArray.data_append]
  show Crc.stps (8 * b.size) (Crc.more 0#32 a.data.toList) ^^^ Crc.more 0#32 b.data.toList = Crc.more 0#32 (a ++ b).data.toList
  rw [e, ← this]
  simp

theorem crc_more (a b : ByteArray) : Crc.more (crcOf [a]) b.data.toList = crcOf [a ++ b] := by
  have e : (a ++ b).data.toList = a.data.toList ++ b.data.toList := by simp [ByteArray.data_append]
  show Crc.more (Crc.more 0#32 a.data.toList) b.data.toList = Crc.more 0#32 (a ++ b).data.toList
  rw [e, ← Crc.more_append]

theorem crc_three_one (a b c : ByteArray) : crcOf [a, b, c] = crcOf [a ++ b ++ c] := by
  rw [← crc_more, ← crc_more]
  rfl

theorem more_empty (r : BitVec 32) : Crc.more r (ByteArray.empty).data.toList = r := by
  show Crc.inv (Crc.inv r) = r
  exact Crc.inv_inv r

theorem crc_three_two (a b c : ByteArray) : crcOf [a, ⟨#[]⟩, b ++ c] = crcOf [a ++ b ++ c] := by
  have e : a ++ b ++ c = a ++ (b ++ c) := ByteArray.append_assoc
  rw [e, ← crc_more]
  show Crc.more (Crc.more (crcOf [a]) (ByteArray.empty).data.toList) _ = _
  rw [more_empty]

set_option maxHeartbeats 1000000 in
theorem join_neg (a b : BitVec 32) (n : Int) (w : World) (hn : n < 0) :
    Calls Try.prog 43 #[.int .u32 a.toNat, .int .u32 b.toNat, .int .i64 n] w fun e w' => e = .returned (.tuple #[.int .u32 0, .int .i64 2]) ∧ w = w' := by
  go_enter Try.func43, Try.ntmps43
  go_wp2
  go_ret2
  exact ⟨rfl, rfl⟩

set_option maxHeartbeats 1000000 in
theorem joined_walk (w : World) (a : Int) (ha : (Lit.int .u32 a).wf = true) (b : Int) (hb : (Lit.int .u32 b).wf = true) (n : Int) (hn : (Lit.int .i64 n).wf = true) :
    Calls Try.prog 13 #[.int .u32 a, .int .u32 b, .int .i64 n] w fun e w' => e = .returned (.bool true) ∧ Below w.heap.size w w' := by
  obtain ⟨x, rfl⟩ := u32_of a ha
  obtain ⟨y, rfl⟩ := u32_of b hb
  clear ha hb
  by_cases h0 : n < 0
  · clear hn
    go_enter Try.func13, Try.ntmps13
    go_wp2_with fail
    refine (join_neg x y n _ h0).mono ?_
    rintro e w' ⟨rfl, rfl⟩
    go_wp2_with (go_at_call 19; refine (awake_any _).mono ?_; rintro e w5 ⟨rfl, hb5⟩)
    go_ret
    exact ⟨rfl, hb5⟩
  · obtain ⟨m, rfl⟩ := Int.eq_ofNat_of_zero_le (Int.not_lt.1 h0)
    have hm : m ≤ 9223372036854775807 := by
      have : (-9223372036854775808 : Int) ≤ m ∧ (m : Int) ≤ 9223372036854775807 := by simpa [Lit.wf, IntKind.min, IntKind.max, IntKind.signed, IntKind.bits] using hn
      omega
    clear hn h0
    go_enter Try.func13, Try.ntmps13
    go_wp2_with fail
    refine (join_any x y m _ hm).mono ?_
    rintro e w1 ⟨rfl, hb1⟩
    go_wp2_with fail
    refine (rjoin_any x y m _ hm).mono ?_
    rintro e w2 ⟨rfl, hb2⟩
    go_wp2_with (go_at_call 19; refine (awake_any _).mono ?_; rintro e w5 ⟨rfl, hb5⟩)
    go_ret
    exact ⟨rfl, after (after hb1 hb2) hb5⟩

end Go.Proofs.Ytallfhfgplgfpaa
