/-
  The reference's parts of a text, walked.
-/
import Derived.Test.YthkehgmeaedflaaDoorRLong
import Derived.Test.YthkehgmeaedflaaDoorStep
import Derived.IntWalk
namespace Go.Proofs.YthkehgmeaedflaaDoor
open Go.RowKit
set_option linter.unusedVariables false

theorem info64 : (Tryd.prog.info? 64).map (fun i => (i.zero, i.size, i.bytes)) = some (some (.agg #[.string ⟨#[]⟩, .int .i32 0]), 2, 24) := by kernel_rfl

/-- A part of a text, and what it stands for. -/
def pieceL (s : ByteArray) (x : Nat) : List Value := [.string (partS s x), .int .i32 (runeAt s x)]
theorem pieceL_len (s : ByteArray) (L : List Nat) : (L.flatMap (pieceL s)).length = L.length * 2 := by
  induction L with
  | nil => rfl
  | cons x L ih => rw [List.flatMap_cons, List.length_append, ih, List.length_cons]; show 2 + _ = _; omega

theorem cell_ad {w : World} {p : Addr} {v : Value} (h : w.cell? p = some v) (o : Obj) : ((w.alloc o).drew).cell? p = some v := (((Below.refl w.heap.size w).alloc (Nat.le_refl _) o).drew.cell (World.block_lt_of_cell? w p h)).trans h
theorem Cells.new_drew (w : World) (l : List Value) (e : TypeId) : Cells ((w.alloc (.cells l.toArray e)).drew) (some ⟨w.heap.size, 0, none⟩) l := (Cells.new w l e).below ((Below.refl _ _).drew)

set_option maxRecDepth 20000 in
set_option maxHeartbeats 4000000 in
theorem rpieces_any (w : World) (s : ByteArray) (hs : s.size ≤ 1099511627776) :
    Calls Tryd.prog 40 #[.string s] w fun e w' => ∃ (a : Option Addr) (c : Nat), e = .returned (.slice a (piecesFrom s 0).length c) ∧ Own w' w.heap.size 2 a (piecesFrom s 0).length c ((piecesFrom s 0).flatMap (pieceL s)) ∧ Below w.heap.size w w' := by
  obtain ⟨i0, hi, hz0, hz1, hz2⟩ := info_parts info64
  go_enter Tryd.func40, Tryd.ntmps40
  go_wp2
  go_loopw [3, 4] (fun v x wr => ∃ (pos : Nat) (L : List Nat) (a : Option Addr) (c : Nat), pos ≤ s.size ∧ L.length ≤ pos ∧ x = .int .i64 pos ∧ v = .slice a L.length c ∧ Own wr w.heap.size 2 a L.length c (L.flatMap (pieceL s)) ∧ L ++ piecesFrom s pos = piecesFrom s 0 ∧ Below w.heap.size w wr) (fun _ x _ => s.size - (intOf x).toNat)
  case atStart => exact ⟨0, [], none, 0, Nat.zero_le _, Nat.le_refl _, rfl, rfl, Own.nil _ _ _, rfl, Below.refl _ _⟩
  case round =>
    obtain ⟨pos, L, a2, c2, hps, hLp, rfl, rfl, hown, hsp, hb⟩ := hrel
    by_cases hlt : pos < s.size
    · have hm := piecesFrom_more s pos hlt
      have hf := part_fits s pos hlt
      have hw := part_range s pos
      have hat := fun W => rat_any s pos W hlt (by omega)
      unfold SpotR spotE spotV at hat
      have hspc : pieceL s pos = [.string (s.extract pos (pos + partW s pos)), .int .i32 ((Utf8.decode s pos).1 : Int)] := rfl
      obtain ⟨n, hn⟩ : ∃ n, n = partW s pos := ⟨_, rfl⟩
      rw [← hn] at hm hf hw hspc
      have HM := Lib.hid hm
      have HS := Lib.hid hsp
      have HB := Lib.hid hb
      have HSP := Lib.hid hspc
      have hL : L.length + 1 ≤ 1099511627776 := by omega
      have hp0 : (0 : Int) ≤ (pos : Int) := by omega
      have hf0 : (pos : Int) ≤ (pos : Int) + (n : Int) := by omega
      have hf1 : (pos : Int) + (n : Int) ≤ (s.size : Int) := by omega
      have hf2 : ((pos : Int) + (n : Int)).toNat = pos + n := by omega
      by_cases hc : codeOf s pos = 0
      · rw [part_ok hc] at hn
        rw [hc, ← hn] at hat
        have hz2' : (((0 : Nat) : Int) != 0) = false := rfl
        have HA := Lib.hid hat
        obtain ⟨r, hr⟩ : ∃ r, r = (Utf8.decode s pos).1 := ⟨_, rfl⟩
        rw [← hr] at HA HSP
        clear hat hm hsp hspc hc hn hr
        go_wp2_with fail
        refine (HA.out _).mono ?_
        rintro e w1 ⟨rfl, hb1⟩
        have hown1 := hown.below hb1
        have HB1 := Lib.hid (after HB.out hb1)
        clear hown hb hb1
        have hne1 := own_block_lt hown1 (Nat.le_refl w1.heap.size)
        go_wp2_with fail
        have hr2 : (w1.alloc (.cells #[.int .i64 pos, .int .i64 n, .int .i32 r, .int .i64 ((0 : Nat) : Int)] 41)).cell? ⟨w1.heap.size, 2, none⟩ = some (.int .i32 (r : Int)) := by rw [World.cell?_alloc_new]; rfl
        have hown2 := hown1.alloc (.cells #[.int .i64 pos, .int .i64 n, .int .i32 r, .int .i64 ((0 : Nat) : Int)] 41)
        have HB2 := Lib.hid (HB1.out.alloc HB1.out.size (.cells #[.int .i64 pos, .int .i64 n, .int .i32 r, .int .i64 ((0 : Nat) : Int)] 41))
        clear hown1
        have h01 : (0 : Int) ≤ (pos : Int) + (n : Int) := by omega
        have HWR := Lib.hid (IntWalk.i64_in ((pos : Int) + (n : Int)) (by omega))
        generalize w1.alloc (.cells #[.int .i64 pos, .int .i64 n, .int .i32 r, .int .i64 ((0 : Nat) : Int)] 41) = W2 at *
        have hwr := HWR.out
        go_region_held3 (fun w' => w'.cell? ⟨w1.heap.size, 2, none⟩ = some (.int .i32 (r : Int))) (first | assumption | go_keep)
          ((refine step_app (by rfl) _ _ 61 61 (by rfl) 64 i0 (.agg #[.string ⟨#[]⟩, .int .i32 0]) 2 24 Tryd.underlying61 hi hz0 hz1 hz2 rfl (by simp [Value.cells, Value.oneCell']) w.heap.size _ _ _ _ (by rfl) ((hown2.alloc _).drew) _ 1 [.string (s.extract pos (pos + n)), .int .i32 (r : Int)] (by rfl) (Src.ofCells Tryd.underlying61 _ _ _ _ rfl (Cells.new_drew _ _ _) (by simp [Value.oneCell']) (by decide)) (by simp [maxLen]; omega) (by omega) (by have := HB2.out.size; simp; omega) ?_; intro a4 c4 w4 hown4 hap4; have hr4 : w4.cell? ⟨w1.heap.size, 2, none⟩ = some (.int .i32 (r : Int)) := apped_cell hap4 (cell_ad hr2 _) hne1; have hbb := Lib.hid ((HB2.out.alloc HB2.out.size _).drew.trans (hap4.below ((hown2.alloc _).drew) (by have := HB2.out.size; simp; omega))); have HO4 := Lib.hid hown4; clear hown4 hap4 hne1))
        clear hwr
        go_wp2
        go_roundw
        case rel => exact ⟨pos + n, L ++ [pos], a4, c4, hf, by simp; omega, by go_num, by simp, by have := HO4.out; rw [List.flatMap_append, List.flatMap_singleton, HSP.out]; simpa using this, by rw [← HS.out, HM.out]; simp, hbb.out⟩
        case measure => simp [intOf]; omega
      · rw [part_no hc] at hn
        have hz2' : ((codeOf s pos : Int) != 0) = true := by simp [hc]
        have HLG := Lib.hid (fun W => rlongest_any s pos W (by omega) hlt (code_pos hc))
        rw [← hn] at HLG
        obtain ⟨cd, hcd⟩ : ∃ cd, cd = codeOf s pos := ⟨_, rfl⟩
        obtain ⟨wd, hwd⟩ : ∃ wd, wd = (Utf8.decode s pos).2 := ⟨_, rfl⟩
        rw [← hcd, ← hwd] at hat
        rw [← hcd] at hz2'
        have HA := Lib.hid hat
        obtain ⟨r, hr⟩ : ∃ r, r = (Utf8.decode s pos).1 := ⟨_, rfl⟩
        rw [← hr] at HA HSP
        clear hat hm hsp hspc hc hn hr hcd hwd
        go_wp2_with fail
        refine (HA.out _).mono ?_
        rintro e w1 ⟨rfl, hb1⟩
        have hown1 := hown.below hb1
        have HB1 := Lib.hid (after HB.out hb1)
        clear hown hb hb1
        have hne1 := own_block_lt hown1 (Nat.le_refl w1.heap.size)
        go_wp2_with fail
        refine (HLG.out _).mono ?_
        rintro e W2 ⟨rfl, hb2⟩
        have hr2 : W2.cell? ⟨w1.heap.size, 2, none⟩ = some (.int .i32 (r : Int)) := (hb2.cell (p := ⟨w1.heap.size, 2, none⟩) (by simp)).trans (by rw [World.cell?_alloc_new]; rfl)
        have hown2 := (hown1.alloc _).below hb2
        have HB2 := Lib.hid ((HB1.out.alloc HB1.out.size _).trans (hb2.mono (by have := HB1.out.size; simp; omega)))
        clear hown1 hb2
        go_wp2_with fail
        have h01 : (0 : Int) ≤ (pos : Int) + (n : Int) := by omega
        have HWR := Lib.hid (IntWalk.i64_in ((pos : Int) + (n : Int)) (by omega))
        have hwr := HWR.out
        go_region_held3 (fun w' => w'.cell? ⟨w1.heap.size, 2, none⟩ = some (.int .i32 (r : Int))) (first | assumption | go_keep)
          ((refine step_app (by rfl) _ _ 61 61 (by rfl) 64 i0 (.agg #[.string ⟨#[]⟩, .int .i32 0]) 2 24 Tryd.underlying61 hi hz0 hz1 hz2 rfl (by simp [Value.cells, Value.oneCell']) w.heap.size _ _ _ _ (by rfl) ((hown2.alloc _).drew) _ 1 [.string (s.extract pos (pos + n)), .int .i32 (r : Int)] (by rfl) (Src.ofCells Tryd.underlying61 _ _ _ _ rfl (Cells.new_drew _ _ _) (by simp [Value.oneCell']) (by decide)) (by simp [maxLen]; omega) (by omega) (by have := HB2.out.size; simp; omega) ?_; intro a4 c4 w4 hown4 hap4; have hr4 : w4.cell? ⟨w1.heap.size, 2, none⟩ = some (.int .i32 (r : Int)) := apped_cell hap4 (cell_ad hr2 _) hne1; have hbb := Lib.hid ((HB2.out.alloc HB2.out.size _).drew.trans (hap4.below ((hown2.alloc _).drew) (by have := HB2.out.size; simp; omega))); have HO4 := Lib.hid hown4; clear hown4 hap4 hne1))
        clear hwr
        go_wp2
        go_roundw
        case rel => exact ⟨pos + n, L ++ [pos], a4, c4, hf, by simp; omega, by go_num, by simp, by have := HO4.out; rw [List.flatMap_append, List.flatMap_singleton, HSP.out]; simpa using this, by rw [← HS.out, HM.out]; simp, hbb.out⟩
        case measure => simp [intOf]; omega
    · rw [piecesFrom_end s pos hlt, List.append_nil] at hsp
      subst hsp
      have HO := Lib.hid hown
      have HB := Lib.hid hb
      clear hown hb
      go_wp2
      go_ret
      exact ⟨a2, c2, rfl, HO.out, HB.out⟩

end Go.Proofs.YthkehgmeaedflaaDoor
