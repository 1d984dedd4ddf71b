/-
  In however many pieces, the sum is the same: the walk.
-/
import Derived.Test.YtallfhfgplgfpaaJoined
namespace Go.Proofs.Ytallfhfgplgfpaa
open Go.RowKit

theorem crc_fresh (n : Nat) (l : List ByteArray) (hn : l.length = n) (w : World) (hs : ∀ t ∈ l, t.size ≤ 422212465053696) (hl : n ≤ 3) :
    Calls Try.prog 15 #[.slice (some ⟨w.heap.size, 0, none⟩) n n] (w.alloc (.cells (l.map Value.string).toArray 9)) fun e w' => e = .returned (.int .u32 (crcOf l).toNat) ∧ Below w.heap.size w w' := by
  subst hn
  refine (crc_any _ l.length l _ (by simp [maxLen]; omega) (fun t ht => by have := hs t ht; simp [maxLen]; omega) (Cells.new _ _ _)).mono ?_
  rintro e w' ⟨rfl, rfl⟩
  exact ⟨rfl, (Below.refl _ _).alloc (Nat.le_refl _) _⟩

set_option maxRecDepth 20000 in
set_option maxHeartbeats 2000000 in
theorem pieces_walk (w : World) (a : ByteArray) (ha : a.size ≤ 140737488351232) (b : ByteArray) (hb : b.size ≤ 140737488351232) (c : ByteArray) (hc : c.size ≤ 140737488351232) :
    Calls Try.prog 14 #[.string a, .string b, .string c] w fun e w' => e = .returned (.bool true) ∧ Below w.heap.size w w' := by
  obtain ⟨T, hT⟩ : ∃ T, T = crcOf [a ++ b ++ c] := ⟨_, rfl⟩
  obtain ⟨O, hO⟩ : ∃ O, O = crcOf [b ++ c] := ⟨_, rfl⟩
  have E1 := Lib.hid hT
  have E2 : Hid (Crc.more (Crc.more (crcOf [a]) b.data.toList) c.data.toList = T) := by
    show _ = _
    rw [crc_more, crc_more, hT]
  have E3 : Hid (joinOf (crcOf [b]) (crcOf [c]) c.size = O) := by
    show _ = _
    rw [crc_join, hO]
  have E4 : Hid (joinOf (crcOf [a]) O (b.size + c.size) = T) := by
    show _ = _
    rw [hO, show b.size + c.size = (b ++ c).size from by rw [ByteArray.size_append], crc_join, hT, ByteArray.append_assoc]
  have E5 : Hid (crcOf [a, b, c] = T) := by
    show _ = _
    rw [crc_three_one, hT]
  have E6 : Hid (crcOf [a, ⟨#[]⟩, b ++ c] = T) := by
    show _ = _
    rw [crc_three_two, hT]
  have E7 : Hid (crcOf [b ++ c] = O) := hO.symm
  clear hT hO
  have n1 : ([a ++ b ++ c] : List ByteArray).length = 1 := rfl
  have z1 : (a ++ b ++ c).size ≤ 422212465053696 := by rw [ByteArray.size_append, ByteArray.size_append]; omega
  have z2 : (b ++ c).size ≤ 422212465053696 := by rw [ByteArray.size_append]; omega
  clear n1
  have Z1 := Lib.hid z1
  have Z2 := Lib.hid z2
  clear z1 z2
  have ha2 : a.size ≤ 422212465053696 := by omega
  have hb2 : b.size ≤ 422212465053696 := by omega
  have hc2 : c.size ≤ 422212465053696 := by omega
  go_enter Try.func14, Try.ntmps14
  go_wp2_with fail
  refine (crc_fresh 1 [a ++ b ++ c] rfl w (by simp only [List.mem_cons, List.mem_nil_iff, or_false, forall_eq_or_imp, forall_eq]; exact Z1.out) (by omega)).mono ?_
  rintro e w1 ⟨rfl, h1⟩
  rw [← E1.out]
  go_wp2_with fail
  refine (crc_fresh 1 [a] rfl w1 (by simp only [List.mem_cons, List.mem_nil_iff, or_false, forall_eq_or_imp, forall_eq]; exact ha2) (by omega)).mono ?_
  rintro e w2 ⟨rfl, h2⟩
  go_wp2_with fail
  refine (more_any (crcOf [a]) b _ (by simp [maxLen]; omega)).mono ?_
  rintro e w' ⟨rfl, rfl⟩
  go_wp2_with fail
  refine (more_any _ c _ (by simp [maxLen]; omega)).mono ?_
  rintro e w' ⟨rfl, rfl⟩
  rw [E2.out]
  go_wp2_with fail
  refine (crc_fresh 1 [b] rfl w2 (by simp only [List.mem_cons, List.mem_nil_iff, or_false, forall_eq_or_imp, forall_eq]; exact hb2) (by omega)).mono ?_
  rintro e w3 ⟨rfl, h3⟩
  go_wp2_with fail
  refine (crc_fresh 1 [c] rfl w3 (by simp only [List.mem_cons, List.mem_nil_iff, or_false, forall_eq_or_imp, forall_eq]; exact hc2) (by omega)).mono ?_
  rintro e w4 ⟨rfl, h4⟩
  go_wp2_with fail
  refine (join_any (crcOf [b]) (crcOf [c]) c.size _ (by omega)).mono ?_
  rintro e w5 ⟨rfl, h5⟩
  rw [E3.out]
  go_wp2_with fail
  refine (crc_fresh 1 [a] rfl w5 (by simp only [List.mem_cons, List.mem_nil_iff, or_false, forall_eq_or_imp, forall_eq]; exact ha2) (by omega)).mono ?_
  rintro e w6 ⟨rfl, h6⟩
  go_wp2_with fail
  refine (join_any (crcOf [a]) O (b.size + c.size) _ (by omega)).mono ?_
  rintro e w7 ⟨rfl, h7⟩
  rw [E4.out]
  go_wp2_with fail
  refine (crc_fresh 3 [a, b, c] rfl w7 (by simp only [List.mem_cons, List.mem_nil_iff, or_false, forall_eq_or_imp, forall_eq]; exact ⟨ha2, hb2, hc2⟩) (by omega)).mono ?_
  rintro e w8 ⟨rfl, h8⟩
  rw [E5.out]
  go_wp2_with fail
  refine (crc_fresh 3 [a, ⟨#[]⟩, b ++ c] rfl w8 (by simp only [List.mem_cons, List.mem_nil_iff, or_false, forall_eq_or_imp, forall_eq]; exact ⟨ha2, by decide, Z2.out⟩) (by omega)).mono ?_
  rintro e w9 ⟨rfl, h9⟩
  rw [E6.out]
  go_wp2_with fail
  refine (crc_fresh 1 [b ++ c] rfl w9 (by simp only [List.mem_cons, List.mem_nil_iff, or_false, forall_eq_or_imp, forall_eq]; exact Z2.out) (by omega)).mono ?_
  rintro e w10 ⟨rfl, h10⟩
  rw [E7.out]
  go_wp2_with (go_at_call 19; refine (awake_any _).mono ?_; rintro e w11 ⟨rfl, h11⟩)
  go_ret
  exact ⟨rfl, after (after (after (after (after (after (after (after (after (after h1 h2) h3) h4) h5) h6) h7) h8) h9) h10) h11⟩

end Go.Proofs.Ytallfhfgplgfpaa
