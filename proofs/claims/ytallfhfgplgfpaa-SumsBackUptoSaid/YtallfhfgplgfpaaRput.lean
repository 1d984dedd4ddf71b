/-
  The reference's Put: walked.
-/
import Derived.Test.YtallfhfgplgfpaaTooks
namespace Go.Proofs.Ytallfhfgplgfpaa
open Go.RowKit

/-- Bytes with numbers laid behind them, as a text. -/
def laidStr (wd : Nat) (b : ByteArray) (xs : List Nat) : ByteArray := ⟨(laidAt wd b.data.toList xs).toArray⟩

theorem laidStr_size (wd : Nat) (b : ByteArray) (xs : List Nat) : (laidStr wd b xs).size = b.size + wd * xs.length := by
  show (laidAt wd b.data.toList xs).toArray.size = _
  rw [List.size_toArray, laidAt_length]
  simp

theorem laidStr_next (wd : Nat) (b : ByteArray) (xs : List Nat) (k x : Nat) (h : xs[k]? = some x) : laidStr wd b (xs.take k) ++ numStr wd x = laidStr wd b (xs.take (k + 1)) := by
  apply ByteArray.ext
  rw [ByteArray.data_append]
  show (laidAt wd b.data.toList (xs.take k)).toArray ++ (numBytes wd x).toArray = (laidAt wd b.data.toList (xs.take (k + 1))).toArray
  rw [← laidAt_snoc wd _ xs k x h]
  simp

set_option maxHeartbeats 1000000 in
theorem rput_any (wd : Nat) (b : ByteArray) (al : Option Addr) (cl : Nat) (xs : List Nat) (w : World) (hw : wd ≤ 4) (hcl : Cells w al (xs.map (numV .u32))) (hx : ∀ x ∈ xs, x < 4294967296) (hb : b.size ≤ 1048576) (hn : xs.length ≤ 1048576) :
    Calls Try.prog 48 #[.string b, .slice al xs.length cl, .int .i64 wd] w fun e w' => e = .returned (.string (laidStr wd b xs)) ∧ Below w.heap.size w w' := by
  have HCL := Lib.hid hcl
  have HXS := Lib.hid hx
  clear hcl hx
  go_enter Try.func48, Try.ntmps48
  go_wp2
  go_loopw [0, 7] (fun t i wr => ∃ k : Nat, k ≤ xs.length ∧ i = .int .i64 k ∧ t = .string (laidStr wd b (xs.take k)) ∧ Below w.heap.size w wr) (fun _ i _ => xs.length - (intOf i).toNat)
  case atStart => exact ⟨0, Nat.zero_le _, rfl, by simp [laidStr, laidAt], Below.refl _ _⟩
  case round =>
    obtain ⟨k, hk, rfl, rfl, hbel⟩ := hrel
    have HB := Lib.hid hbel
    by_cases hlt : k < xs.length
    · obtain ⟨g, off, x, rfl, hxk, hck⟩ := (HCL.out.below hbel).at hlt
      have hxt := HXS.out x (List.mem_of_getElem? hxk)
      have hsz : (laidStr wd b (xs.take k)).size ≤ 5242880 := by
        rw [laidStr_size, List.length_take]
        have : wd * min k xs.length ≤ 4 * 1048576 := Nat.mul_le_mul hw (by omega)
        omega
      have HX := Lib.hid hxk
      clear hxk hbel
      unfold numV at hck
      have h0 : (0 : Int) ≤ (k : Int) := by omega
      have h1 : (k : Int) < (xs.length : Int) := by omega
      have hn1 := numStr_size wd x
      go_wp2_with (go_at_call 52; refine (rbytes_any x wd _ hxt hw).mono ?_; rintro e w1 ⟨rfl, hb1⟩)
      go_roundw
      case rel => exact ⟨k + 1, by omega, by go_num, by rw [laidStr_next wd b xs k x HX.out], after HB.out hb1⟩
      case measure => simp [intOf]; omega
    · clear hbel
      obtain rfl : k = xs.length := by omega
      go_wp2
      go_ret
      exact ⟨by rw [List.take_of_length_le (Nat.le_refl _)]; rfl, HB.out⟩

end Go.Proofs.Ytallfhfgplgfpaa
