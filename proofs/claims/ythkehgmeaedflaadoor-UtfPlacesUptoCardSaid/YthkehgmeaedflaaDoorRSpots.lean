/-
  The reference's characters of a text, its runes, its first wrong one, its places; two lists held against one another: walked.
-/
import Derived.Test.YthkehgmeaedflaaDoorRAt
import Derived.Test.YthkehgmeaedflaaDoorMethM
import Derived.Test.YthkehgmeaedflaaDoorUBack
namespace Go.Proofs.YthkehgmeaedflaaDoor
open Go.RowKit

theorem info41 : (Tryd.prog.info? 41).map (fun i => (i.zero, i.size, i.bytes)) = some (some (.agg #[.int .i64 0, .int .i64 0, .int .i32 0, .int .i64 0]), 4, 32) := by kernel_rfl

/-- A character's four cells. -/
def spotC (s : ByteArray) (x : Nat) : List Value := [.int .i64 x, .int .i64 (Utf8.decode s x).2, .int .i32 (Utf8.decode s x).1, .int .i64 (codeOf s x)]
theorem spotC_all (s : ByteArray) (L : List Nat) : (L.flatMap (spotC s)).length = L.length * 4 := by
  induction L with
  | nil => rfl
  | cons x L ih => simp only [List.flatMap_cons, List.length_append, ih, List.length_cons, spotC]; simp; omega
theorem spotC_at (s : ByteArray) (L : List Nat) (k x : Nat) (h : L[k]? = some x) (j : Nat) (hj : j < 4) : (L.flatMap (spotC s))[k * 4 + j]? = (spotC s x)[j]? := by
  induction L generalizing k with
  | nil => simp at h
  | cons y L ih =>
    cases k with
    | zero =>
      simp at h
      subst h
      rw [List.flatMap_cons, Nat.zero_mul, Nat.zero_add, List.getElem?_append_left (by simp [spotC]; omega)]
    | succ k =>
      rw [List.flatMap_cons, List.getElem?_append_right (by simp [spotC]; omega)]
      have := ih k (by simpa using h)
      rw [← this]
      congr 1
      simp [spotC]
      omega
/-- A character's cells in a row of them. -/
theorem spot_cells {w : World} {B n c k : Nat} {a : Option Addr} {s : ByteArray} {L : List Nat} {x : Nat} (h : Own w B 4 a n c (L.flatMap (spotC s))) (hx : L[k]? = some x) : ∃ g, a = some ⟨g, 0, none⟩ ∧ w.cell? ⟨g, k * 4, none⟩ = some (.int .i64 x) ∧ w.cell? ⟨g, k * 4 + 1, none⟩ = some (.int .i64 (Utf8.decode s x).2) ∧ w.cell? ⟨g, k * 4 + 2, none⟩ = some (.int .i32 (Utf8.decode s x).1) ∧ w.cell? ⟨g, k * 4 + 3, none⟩ = some (.int .i64 (codeOf s x)) := by
  have hk : k < L.length := (List.getElem?_eq_some_iff.1 hx).1
  have hl := h.len
  rw [spotC_all] at hl
  obtain ⟨g, hg, _, _, q3, _⟩ := h.addr (by have := h.le; omega)
  refine ⟨g, hg, q3 _ _ ?_, q3 _ _ ?_, q3 _ _ ?_, q3 _ _ ?_⟩
  · have := spotC_at s L k x hx 0 (by omega)
    rw [Nat.add_zero] at this
    rw [this]
    rfl
  · rw [spotC_at s L k x hx 1 (by omega)]; rfl
  · rw [spotC_at s L k x hx 2 (by omega)]; rfl
  · rw [spotC_at s L k x hx 3 (by omega)]; rfl

theorem apped_cell {w w' : World} {a a' : Option Addr} (h : Apped w w' a a') {p : Addr} {v : Value} (hc : w.cell? p = some v) (hne : blockOf a ≠ some p.block) : w'.cell? p = some v :=
  (World.cell?_of_block (w := w) (h.grown.block p.block (World.block_lt_of_cell? w p hc) (fun e => hne e.symm))).trans hc
theorem own_block_lt {w : World} {B size n c : Nat} {a : Option Addr} {xs : List Value} (h : Own w B size a n c xs) {k : Nat} (hk : w.heap.size ≤ k) : blockOf a ≠ some k := by
  rcases h.row with ⟨h0, _⟩ | ⟨g, ha, _, h2, _⟩
  · rw [h0]; simp [blockOf]
  · rw [ha]; simp [blockOf]; omega

theorem Cells.new1 (w : World) (o : Obj) (l : List Value) (e : TypeId) : Cells ((w.alloc o).alloc (.cells l.toArray e)) (some ⟨w.heap.size + 1, 0, none⟩) l := by
  have := Cells.new (w.alloc o) l e
  rwa [World.size_alloc] at this

set_option maxHeartbeats 2000000 in
theorem rspots_any (w : World) (s : ByteArray) (hs : s.size ≤ 1099511627776) :
    Calls Tryd.prog 23 #[.string s] w fun e w' => ∃ (a : Option Addr) (c : Nat), e = .returned (.slice a (placesFrom s 0).length c) ∧ Own w' w.heap.size 4 a (placesFrom s 0).length c ((placesFrom s 0).flatMap (spotC s)) ∧ Below w.heap.size w w' := by
  obtain ⟨i0, hi, hz0, hz1, hz2⟩ := info_parts info41
  go_enter Tryd.func23, Tryd.ntmps23
  go_wp2
  go_loopw [3, 4] (fun v x wr => ∃ (pos : Nat) (L : List Nat) (a : Option Addr) (c : Nat), pos ≤ s.size ∧ L.length ≤ pos ∧ x = .int .i64 pos ∧ v = .slice a L.length c ∧ Own wr w.heap.size 4 a L.length c (L.flatMap (spotC s)) ∧ L ++ placesFrom s pos = placesFrom s 0 ∧ Below w.heap.size w wr) (fun _ x _ => s.size - (intOf x).toNat)
  case atStart => exact ⟨0, [], none, 0, Nat.zero_le _, Nat.le_refl _, rfl, rfl, Own.nil _ _ _, rfl, Below.refl _ _⟩
  case round =>
    obtain ⟨pos, L, a2, c2, hps, hLp, rfl, rfl, hown, hsp, hb⟩ := hrel
    by_cases hlt : pos < s.size
    · have hm := placesFrom_more s pos hlt
      have hf := decode_fits s pos hlt
      have hw := decode_width s pos
      have hat := fun W => rat_any s pos W hlt (by omega)
      unfold SpotR spotE at hat
      have hspc : spotC s pos = [.int .i64 pos, .int .i64 (Utf8.decode s pos).2, .int .i32 (Utf8.decode s pos).1, .int .i64 (codeOf s pos)] := rfl
      obtain ⟨D, hD⟩ : ∃ D, D = Utf8.decode s pos := ⟨_, rfl⟩
      obtain ⟨cd, hcd⟩ : ∃ cd, cd = codeOf s pos := ⟨_, rfl⟩
      rw [← hD] at hat hm hf hw hspc
      rw [← hcd] at hat hspc
      obtain ⟨r, wd⟩ := D
      simp only at hat hm hf hw hspc
      have HA := Lib.hid hat
      have HM := Lib.hid hm
      have HS := Lib.hid hsp
      have HB := Lib.hid hb
      have HSP := Lib.hid hspc
      clear hat hm hsp hD hcd hspc
      have hL : L.length + 1 ≤ 1099511627776 := by omega
      go_wp2_with fail
      refine (HA.out _).mono ?_
      rintro e w1 ⟨rfl, hb1⟩
      unfold spotV
      have hown1 := hown.below hb1
      have HB1 := Lib.hid (after HB.out hb1)
      clear hown hb hb1
      have hne1 := own_block_lt hown1 (Nat.le_refl w1.heap.size)
      go_wp2_with (at_builtin; refine wpList_app rfl _ _ 38 38 rfl 41 i0 (.agg #[.int .i64 0, .int .i64 0, .int .i32 0, .int .i64 0]) 4 32 Tryd.underlying38 hi hz0 hz1 hz2 rfl (by simp [Value.cells, Value.oneCell']) w.heap.size _ _ _ _ rfl ((hown1.alloc _).alloc _) _ 1 [.int .i64 (pos : Int), .int .i64 (wd : Int), .int .i32 (r : Int), .int .i64 (cd : Int)] rfl (Src.ofCells Tryd.underlying38 _ _ _ _ rfl (Cells.new1 _ _ _ _) (by simp [Value.oneCell']) (by decide)) (by simp [maxLen]; omega) (by omega) (by have := HB1.out.size; simp; omega) ?_; intro a4 c4 w4 hown4 hap4; have hwd : w4.cell? ⟨w1.heap.size, 1, none⟩ = some (.int .i64 wd) := apped_cell hap4 (by simp) hne1; have hbb := Lib.hid (((HB1.out.alloc HB1.out.size _).alloc (by have := HB1.out.size; simp; omega) _).trans (hap4.below ((hown1.alloc _).alloc _) (by have := HB1.out.size; simp; omega))); have HO4 := Lib.hid hown4; clear hown4 hap4 hown1 hne1)
      go_roundw
      case rel => exact ⟨pos + wd, L ++ [pos], a4, c4, hf, by simp; omega, by go_num, by simp, by have := HO4.out; rw [List.flatMap_append, List.flatMap_singleton, HSP.out]; simpa using this, by rw [← HS.out, HM.out]; simp, hbb.out⟩
      case measure => simp [intOf]; omega
    · rw [placesFrom_end s pos hlt, List.append_nil] at hsp
      subst hsp
      have HO := Lib.hid hown
      have HB := Lib.hid hb
      clear hown hb
      go_wp2
      go_ret
      exact ⟨a2, c2, rfl, HO.out, HB.out⟩

/-- The rune at a place. -/
def runeAt (s : ByteArray) (x : Nat) : Int := ((Utf8.decode s x).1 : Int)
theorem runeAt_all (s : ByteArray) (m i : Nat) : ((spotsN s m i).map Prod.fst).map (runeAt s) = (spotsN s m i).map (fun x => (x.2 : Int)) := by
  induction m generalizing i with
  | zero => rfl
  | succ m ih =>
    unfold spotsN
    split
    · simp only [List.map_cons]
      rw [ih]
      rfl
    · rfl
theorem runes_places (s : ByteArray) : (placesFrom s 0).map (runeAt s) = textRunes s := runeAt_all s s.size 0

set_option maxHeartbeats 2000000 in
theorem rrunes_any (w : World) (s : ByteArray) (hs : s.size ≤ 1099511627776) :
    Calls Tryd.prog 29 #[.string s] w fun e w' => ∃ a c, e = .returned (.slice a (textRunes s).length c) ∧ Own w' w.heap.size 1 a (textRunes s).length c ((textRunes s).map (Value.int .i32)) ∧ Below w.heap.size w w' := by
  obtain ⟨i0, hi, hz0, hz1, hz2⟩ := info_parts info21
  go_enter Tryd.func29, Tryd.ntmps29
  go_wp2_with (go_at_call 23; refine (rspots_any _ s hs).mono ?_; rintro e w1 ⟨a1, c1, rfl, hown1, hb1⟩)
  have hR := runes_places s
  have hle := places_le s
  obtain ⟨L, hL⟩ : ∃ L, L = placesFrom s 0 := ⟨_, rfl⟩
  rw [← hL] at hown1 hR hle ⊢
  have hlen : L.length ≤ 1099511627776 := by omega
  have HO1 := Lib.hid hown1
  have HB1 := Lib.hid hb1
  have HR := Lib.hid hR
  clear hown1 hb1 hR hle hL
  go_loopw [4, 5] (fun v x wr => ∃ (k : Nat) (a : Option Addr) (c : Nat), k ≤ L.length ∧ x = .int .i64 k ∧ v = .slice a k c ∧ Own wr w1.heap.size 1 a k c (((L.take k).map (runeAt s)).map (Value.int .i32)) ∧ Below w1.heap.size w1 wr) (fun _ x _ => L.length - (intOf x).toNat)
  case atStart => exact ⟨0, none, 0, Nat.zero_le _, rfl, rfl, Own.nil _ _ _, Below.refl _ _⟩
  case round =>
    obtain ⟨k, a2, c2, hk, rfl, rfl, hown, hb⟩ := hrel
    by_cases hlt : k < L.length
    · obtain ⟨x, hx⟩ : ∃ x, L[k]? = some x := ⟨_, List.getElem?_eq_getElem hlt⟩
      obtain ⟨g, rfl, q0, q1, q2, q3⟩ := spot_cells (HO1.out.below hb) hx
      have h0 : (0 : Int) ≤ (k : Int) := by omega
      have h1 : (k : Int) < (L.length : Int) := by omega
      have HX := Lib.hid hx
      have HB := Lib.hid hb
      clear hx q0 q1 q3 hb
      go_wp2_with (at_builtin; refine wpList_app rfl _ _ 26 26 rfl 21 i0 (.int .i32 0) 1 4 Tryd.underlying26 hi hz0 hz1 hz2 rfl (by simp [Value.cells, Value.oneCell']) w1.heap.size _ _ _ _ rfl (hown.alloc _) _ 1 [.int .i32 ((Utf8.decode s x).1 : Int)] rfl (Src.ofCells Tryd.underlying26 _ _ _ _ rfl (Cells.new _ _ _) (by simp [Value.oneCell']) (by decide)) (by simp [maxLen]; omega) (by omega) (by have := HB.out.size; simp; omega) ?_; intro a4 c4 w4 hown4 hap4; have hb4 := Lib.hid ((HB.out.alloc HB.out.size _).trans (hap4.below (hown.alloc _) (by have := HB.out.size; simp; omega))); have HO4 := Lib.hid hown4; clear hown4 hap4 hown)
      go_roundw
      case rel => exact ⟨k + 1, a4, c4, by omega, by go_num, rfl, by have := HO4.out; rw [List.take_add_one, HX.out]; simpa [runeAt] using this, hb4.out⟩
      case measure => simp [intOf]; omega
    · obtain rfl : L.length = k := by omega
      rw [List.take_of_length_le (Nat.le_refl _), HR.out] at hown
      have hl : L.length = (textRunes s).length := by have := congrArg List.length HR.out; simpa using this
      have HO := Lib.hid hown
      have HB := Lib.hid hb
      have HL := Lib.hid hl
      clear hown hb hl
      go_wp2
      go_ret
      have h1 := HO.out
      rw [HL.out] at h1
      exact ⟨a2, c2, by rw [HL.out]; rfl, h1.mono HB1.out.size, after HB1.out HB.out⟩

end Go.Proofs.YthkehgmeaedflaaDoor
