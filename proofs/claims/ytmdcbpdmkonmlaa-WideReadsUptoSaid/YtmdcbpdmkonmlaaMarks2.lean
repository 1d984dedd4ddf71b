/-
  The reference's runes of units, its first lone one: walked.
-/
import Derived.Test.YtmdcbpdmkonmlaaMarks
namespace Go.Proofs.Ytmdcbpdmkonmlaa
open Go.RowKit

theorem runes_marks (us : List Int) : (marksC us 0).map (fun x => x.2.1) = runesOf us := by
  unfold runesOf
  rw [← marksC_from, List.map_map]
  rfl

set_option maxHeartbeats 2000000 in
theorem rrunesW_any (w : World) (a : Option Addr) (c : Nat) (us : List Int) (hn : us.length ≤ 1099511627776) (hr : Cells w a (us.map (Value.int .u16))) (hwf : ∀ u ∈ us, 0 ≤ u ∧ u ≤ 65535) :
    Calls Try.prog 45 #[.slice a us.length c] w fun e w' => ∃ a c, e = .returned (.slice a (runesOf us).length c) ∧ Own w' w.heap.size 1 a (runesOf us).length c ((runesOf us).map (Value.int .i32)) ∧ Below w.heap.size w w' := by
  obtain ⟨i0, hi, hz0, hz1, hz2⟩ := info_parts info21
  have HM := Lib.hid (marks_any w a c us hn hr hwf)
  clear hr hwf
  go_enter Try.func45, Try.ntmps45
  go_wp2_with (go_at_call 44; refine HM.out.mono ?_; rintro e w1 ⟨a1, c1, rfl, hown1, hb1⟩)
  have hR := runes_marks us
  have hle := marksC_le us 0
  obtain ⟨L, hL⟩ : ∃ L, L = marksC us 0 := ⟨_, rfl⟩
  rw [← hL] at hown1 hR hle ⊢
  have hlen : L.length ≤ 1099511627776 := by omega
  have HO1 := Lib.hid hown1
  have HB1 := Lib.hid hb1
  have HR := Lib.hid hR
  clear hown1 hb1 hR hle hL HM
  go_loopw [4, 5] (fun v x wr => ∃ (k : Nat) (a : Option Addr) (c : Nat), k ≤ L.length ∧ x = .int .i64 k ∧ v = .slice a k c ∧ Own wr w1.heap.size 1 a k c (((L.take k).map (fun x => x.2.1)).map (Value.int .i32)) ∧ Below w1.heap.size w1 wr) (fun _ x _ => L.length - (intOf x).toNat)
  case atStart => exact ⟨0, none, 0, Nat.zero_le _, rfl, rfl, Own.nil _ _ _, Below.refl _ _⟩
  case round =>
    obtain ⟨k, a2, c2, hk, rfl, rfl, hown, hb⟩ := hrel
    by_cases hlt : k < L.length
    · obtain ⟨x, hx⟩ : ∃ x, L[k]? = some x := ⟨_, List.getElem?_eq_getElem hlt⟩
      obtain ⟨g, rfl, q0, q1, q2⟩ := mark_cells (HO1.out.below hb) hx
      have h0 : (0 : Int) ≤ (k : Int) := by omega
      have h1 : (k : Int) < (L.length : Int) := by omega
      have HX := Lib.hid hx
      have HB := Lib.hid hb
      clear hx q0 q2 hb
      go_wp2_with (at_builtin; refine wpList_app rfl _ _ 30 30 rfl 21 i0 (.int .i32 0) 1 4 Try.underlying30 hi hz0 hz1 hz2 rfl (by simp [Value.cells, Value.oneCell']) w1.heap.size _ _ _ _ rfl (hown.alloc _) _ 1 [.int .i32 x.2.1] rfl (Src.ofCells Try.underlying30 _ _ _ _ rfl (Cells.new _ _ _) (by simp [Value.oneCell']) (by decide)) (by simp [maxLen]; omega) (by omega) (by have := HB.out.size; simp; omega) ?_; intro a4 c4 w4 hown4 hap4; have hb4 := Lib.hid ((HB.out.alloc HB.out.size _).trans (hap4.below (hown.alloc _) (by have := HB.out.size; simp; omega))); have HO4 := Lib.hid hown4; clear hown4 hap4 hown)
      go_roundw
      case rel => exact ⟨k + 1, a4, c4, by omega, by go_num, rfl, by have := HO4.out; rw [List.take_add_one, HX.out]; simpa using this, hb4.out⟩
      case measure => simp [intOf]; omega
    · obtain rfl : L.length = k := by omega
      rw [List.take_of_length_le (Nat.le_refl _), HR.out] at hown
      have hl : L.length = (runesOf us).length := by have := congrArg List.length HR.out; simpa using this
      have HO := Lib.hid hown
      have HB := Lib.hid hb
      have HL := Lib.hid hl
      clear hown hb hl
      go_wp2
      go_ret
      have h1 := HO.out
      rw [HL.out] at h1
      exact ⟨a2, c2, by rw [HL.out]; rfl, h1.mono HB1.out.size, after HB1.out HB.out⟩

theorem marksC_bad (w : List Int) (us : List Int) (k : Nat) (hd : w.drop k = us) : ∀ x ∈ marksC us k, badAt w (x.1, x.2.1) = (x.2.2 != 0) ∧ (x.2.2 ≠ 0 → codeAt w (x.1, x.2.1) = x.2.2) := by
  have hget : ∀ u, us[0]? = some u → w[k]? = some u := by
    intro u hu
    rw [← hd, List.getElem?_drop, Nat.add_zero] at hu
    exact hu
  have lone : ∀ u, us[0]? = some u → badAt w (k, loneR u) = (codeW u != 0) ∧ (codeW u ≠ 0 → codeAt w (k, loneR u) = codeW u) := by
    intro u hu
    unfold badAt codeAt codeW
    simp only [hget u hu, Option.getD_some]
    cases hh : highB u
    · cases hl : lowB u
      · rw [loneR_no hh hl]
        refine ⟨?_, fun h => by simp at h⟩
        by_cases h : u = 65533 <;> simp [h]
      · obtain ⟨h1, h2⟩ := loneR_sur (u := u) (by simp [surB, hl])
        rw [h1]
        refine ⟨by simp [h2], fun _ => by simp⟩
    · obtain ⟨h1, h2⟩ := loneR_sur (u := u) (by simp [surB, hh])
      rw [h1]
      refine ⟨by simp [h2], fun _ => by simp⟩
  match us, hd, hget, lone with
  | [], _, _, _ => intro x hx; simp [marksC] at hx
  | [u], hd, hget, lone =>
    intro x hx
    simp [marksC] at hx
    subst hx
    exact lone u rfl
  | u :: v :: r, hd, hget, lone =>
    intro x hx
    cases hj : (joinOf u v).2
    · have ih := marksC_bad w (v :: r) (k + 1) (by rw [← List.drop_drop, hd]; rfl)
      rw [show marksC (u :: v :: r) k = (k, loneR u, codeW u) :: marksC (v :: r) (k + 1) by simp [marksC, hj]] at hx
      rcases List.mem_cons.1 hx with rfl | hx
      · exact lone u rfl
      · exact ih x hx
    · have ih := marksC_bad w r (k + 2) (by rw [← List.drop_drop, hd]; rfl)
      rw [show marksC (u :: v :: r) k = (k, (joinOf u v).1, 0) :: marksC r (k + 2) by simp [marksC, hj]] at hx
      rcases List.mem_cons.1 hx with rfl | hx
      · obtain ⟨h1, h2⟩ := join_big hj
        obtain ⟨a1, a2⟩ := high_of h1
        obtain ⟨b1, b2⟩ := low_of h2
        have : joinR u v ≠ 65533 := by unfold joinR; omega
        rw [joinOf_yes h1 h2]
        exact ⟨by simp [badAt, this], fun h => absurd rfl h⟩
      · exact ih x hx
  termination_by us.length

theorem find_same {α β : Type} (f : α → β) (p : β → Bool) (q : α → Bool) (l : List α) (h : ∀ x ∈ l, p (f x) = q x) : (l.map f).find? p = (l.find? q).map f := by
  induction l with
  | nil => rfl
  | cons x l ih =>
    have hx := h x (List.mem_cons_self ..)
    rw [List.map_cons, List.find?_cons, List.find?_cons, hx, ih (fun y hy => h y (List.mem_cons_of_mem _ hy))]
    cases q x <;> rfl

theorem check_marks (us : List Int) : checkOf us = match (marksC us 0).find? (fun x => x.2.2 != 0) with
  | some x => ((x.1 : Int), x.2.2)
  | none => (0, 0) := by
  have hb := marksC_bad us us 0 rfl
  unfold checkOf
  rw [← marksC_from, find_same (fun x : Nat × Int × Int => (x.1, x.2.1)) (badAt us) (fun x => x.2.2 != 0) _ (fun x hx => (hb x hx).1)]
  cases hf : (marksC us 0).find? (fun x => x.2.2 != 0) with
  | none => rfl
  | some x =>
    have h1 := List.mem_of_find?_eq_some hf
    have h2 : x.2.2 ≠ 0 := by simpa using List.find?_some hf
    show ((x.1 : Int), codeAt us (x.1, x.2.1)) = _
    rw [(hb x h1).2 h2]

theorem find_take {α : Type} (p : α → Bool) (L : List α) (k : Nat) (x : α) (h : ∀ y ∈ L.take k, p y = false) (hx : L[k]? = some x) (hp : p x = true) : L.find? p = some x := by
  have : L = L.take k ++ x :: L.drop (k + 1) := by
    obtain ⟨hk, rfl⟩ := List.getElem?_eq_some_iff.1 hx
    rw [← List.drop_eq_getElem_cons hk, List.take_append_drop]
  rw [this, List.find?_append]
  have hn : (L.take k).find? p = none := by
    rw [List.find?_eq_none]
    intro z hz
    simp [h z hz]
  rw [hn]
  simp [hp]

set_option maxHeartbeats 2000000 in
theorem rcheckW_any (w : World) (a : Option Addr) (c : Nat) (us : List Int) (hn : us.length ≤ 1099511627776) (hr : Cells w a (us.map (Value.int .u16))) (hwf : ∀ u ∈ us, 0 ≤ u ∧ u ≤ 65535) :
    Calls Try.prog 46 #[.slice a us.length c] w fun e w' => e = .returned (.tuple #[.int .i64 (checkOf us).1, .int .i64 (checkOf us).2]) ∧ Below w.heap.size w w' := by
  have hC := check_marks us
  have HM := Lib.hid (marks_any w a c us hn hr hwf)
  have hle := marksC_le us 0
  obtain ⟨L, hL⟩ : ∃ L, L = marksC us 0 := ⟨_, rfl⟩
  rw [← hL] at HM hC hle
  have hlen : L.length ≤ 1099511627776 := by omega
  have HC := Lib.hid hC
  clear hr hwf hC hL hle
  generalize checkOf us = C at *
  go_enter Try.func46, Try.ntmps46
  go_wp2_with (go_at_call 44; refine HM.out.mono ?_; rintro e w1 ⟨a1, c1, rfl, hown1, hb1⟩)
  have HO1 := Lib.hid hown1
  have HB1 := Lib.hid hb1
  clear hown1 hb1 HM
  go_loopw [5] (fun x wr => w1 = wr ∧ ∃ (k : Nat), k ≤ L.length ∧ x = .int .i64 k ∧ Hid (∀ y ∈ L.take k, (y.2.2 != 0) = false)) (fun x _ => L.length - (intOf x).toNat)
  case atStart => exact ⟨rfl, 0, Nat.zero_le _, rfl, Lib.hid (by simp)⟩
  case round =>
    obtain ⟨rfl, k, hk, rfl, HG⟩ := hrel
    have h0 : (0 : Int) ≤ (k : Int) := by omega
    by_cases hlt : k < L.length
    · obtain ⟨x, hx⟩ : ∃ x, L[k]? = some x := ⟨_, List.getElem?_eq_getElem hlt⟩
      obtain ⟨g, rfl, q0, q1, q2⟩ := mark_cells HO1.out hx
      have h1 : (k : Int) < (L.length : Int) := by omega
      have HX := Lib.hid hx
      clear hx q1
      by_cases hz : x.2.2 = 0
      · have hz2 : (x.2.2 != 0) = false := by simp [hz]
        have HZ := Lib.hid hz2
        clear hz
        go_wp2
        go_roundw
        case rel => exact ⟨trivial, k + 1, by omega, by go_num, Lib.hid (fun y hy => by rw [List.take_add_one, HX.out] at hy; rcases List.mem_append.1 hy with h | h; exact HG.out y h; simp at h; subst h; exact HZ.out)⟩
        case measure => simp [intOf]; omega
      · have hz2 : (x.2.2 != 0) = true := by simp [hz]
        have HF := Lib.hid (find_take (fun y : Nat × Int × Int => y.2.2 != 0) L k x HG.out HX.out hz2)
        clear hz
        go_wp2
        go_quiet (fail)
        go_wp2
        go_ret2
        refine ⟨?_, HB1.out.trans (below_drewN (Below.refl _ _) _ |>.mono HB1.out.size)⟩
        rw [HC.out, HF.out]
        rfl
    · obtain rfl : k = L.length := by omega
      have HF := Lib.hid (show L.find? (fun y : Nat × Int × Int => y.2.2 != 0) = none by
        rw [List.find?_eq_none]
        intro y hy
        have := HG.out y (by rw [List.take_of_length_le (Nat.le_refl _)]; exact hy)
        simp [this])
      go_wp2
      go_ret2
      refine ⟨?_, HB1.out⟩
      rw [HC.out, HF.out]
      rfl

end Go.Proofs.Ytmdcbpdmkonmlaa
