/-
  What is laid is taken again: plain laws. No function of the program in sight.
-/
import Derived.Test.YtallfhfgplgfpaaRput
import Derived.Test.YtallfhfgplgfpaaTakes
namespace Go.Proofs.Ytallfhfgplgfpaa
open Go.RowKit

theorem flat_drop (n : Nat) (xs : List Nat) (i x : Nat) (h : xs[i]? = some x) : ((xs.flatMap (numBytes n)).drop (i * n)).take n = numBytes n x := by
  induction xs generalizing i with
  | nil => simp at h
  | cons y ys ih =>
    cases i with
    | zero =>
      simp at h
      subst h
      rw [Nat.zero_mul, List.drop_zero, List.flatMap_cons, List.take_left' (numBytes_length _ _)]
    | succ i =>
      rw [List.flatMap_cons, Nat.succ_mul, Nat.add_comm, ← List.drop_drop, List.drop_left' (numBytes_length _ _)]
      exact ih i (by simpa using h)

theorem seg_laid (n : Nat) (b : ByteArray) (xs : List Nat) (i x : Nat) (h : xs[i]? = some x) : segAt (laidStr n b xs) (b.size + i * n) n = numBytes n x := by
  unfold segAt laidStr laidAt
  rw [← List.drop_drop]
  have e : (b.data.toList ++ xs.flatMap (numBytes n)).drop b.size = xs.flatMap (numBytes n) := List.drop_left' (by simp)
  simp only [List.toList_toArray, e]
  exact flat_drop n xs i x h

theorem takes_laid (n : Nat) (b : ByteArray) (xs : List Nat) (hx : ∀ x ∈ xs, x < 256 ^ n) : takesAt (laidStr n b xs) b.size n xs.length = xs := by
  apply List.ext_getElem?
  intro i
  unfold takesAt
  rw [List.getElem?_map]
  by_cases hi : i < xs.length
  · obtain ⟨x, hxi⟩ : ∃ x, xs[i]? = some x := ⟨_, List.getElem?_eq_getElem hi⟩
    rw [List.getElem?_range hi, hxi]
    simp only [Option.map_some]
    rw [seg_laid n b xs i x hxi, numTop_numBytes n x (hx x (List.mem_of_getElem? hxi))]
  · rw [List.getElem?_eq_none (l := List.range _) (by simpa using hi), List.getElem?_eq_none (by omega)]
    rfl

theorem take_laid (b : ByteArray) (ls : List Nat) (hx : ∀ x ∈ ls, x < 4294967296) : takeOf (laidStr 4 b ls) b.size ls.length 4 = (ls, 0) := by
  have hsz := laidStr_size 4 b ls
  rw [takeOf_ok _ _ _ _ (by omega) (by omega), takes_laid 4 b ls hx]

theorem takes_flat (s : ByteArray) (w n : Nat) (h : n * w ≤ s.size) : (takesAt s 0 w n).flatMap (numBytes w) = s.data.toList.take (n * w) := by
  induction n with
  | zero => simp [takesAt]
  | succ n ih =>
    rw [Nat.succ_mul] at h
    have hl := segAt_length s (0 + n * w) w (by omega)
    have hb := numBytes_numTop (segAt s (0 + n * w) w)
    rw [hl] at hb
    rw [takesAt_succ, List.flatMap_append, ih (by omega), List.flatMap_cons, List.flatMap_nil, List.append_nil, hb, Nat.succ_mul, List.take_add]
    unfold segAt
    rw [Nat.zero_add]

theorem back_str (s : ByteArray) (n : Nat) (h : 2 * n ≤ s.size) : (⟨(laidAt 2 [] (takesAt s 0 2 n)).toArray⟩ : ByteArray) = s.extract 0 (2 * n) := by
  apply ByteArray.ext
  apply Array.toList_inj.1
  unfold laidAt
  rw [takes_flat s 2 n (by omega)]
  simp [ByteArray.data_extract, Nat.mul_comm]

theorem take_half (s : ByteArray) : takeOf s 0 ((s.size / 2 : Nat) : Int) 2 = (takesAt s 0 2 (s.size / 2), 0) :=
  takeOf_ok s 0 _ 2 (Nat.zero_le _) (by omega)

end Go.Proofs.Ytallfhfgplgfpaa
