/-
  The stack's steps over a list of classes, as an iterator: its contract.
-/
import Derived.Test.YtjnidopbdjbbgaaGreatA05
import Derived.Test.YtjnidopbdjbbgaaGreatA01
import Derived.Test.YtjnidopbdjbbgaaGreatA06
import Derived.RangeFuncCalls
import Derived.Deep.CutBlock
section
namespace Go.Proofs.YtjnidopbdjbbgaaGreat
open Go.RowKit
set_option linter.unusedVariables false
attribute [local go_sem] Oper.semAt_some

/-- The iterator's own memory when so many places have been told. -/
structure StT (W0 : World) (B sb : Nat) (fx : List Nat) (s0 : St) (zl : List (Nat × Nat)) (pre : List Nat) (W : World) : Prop where
  range : pre = List.range pre.length
  stack : ∃ pa pc, StackAt W B sb pa pc (run s0 (zl.take pre.length)) ∧ ∀ k ∈ fx, blockOf pa ≠ some k
  same : ∀ k ∈ fx, W.heap[k]? = W0.heap[k]?
  below : Below B W0 W
/-- What the iterator does between two rounds. -/
def StA (B sb : Nat) (A C : World) : Prop := ∃ pa pc s pa' pc' s', StackAt A B sb pa pc s ∧ StackAt C B sb pa' pc' s' ∧ Moved A C sb pa pa' ∧ 0 < s.l.length
/-- What is told of a place. -/
def tellV (ans : List (Option Nat × Nat)) (k : Nat) : Array Value := #[.int .i64 k, .agg #[.int .i8 (lvI (ans.getD k (none, 0)).1), .int .u8 (ans.getD k (none, 0)).2]]

theorem run_snoc (s : St) (zl : List (Nat × Nat)) (k c v : Nat) (h : zl[k]? = some (c, v)) : run s (zl.take (k + 1)) = (run s (zl.take k)).next c v := by
  unfold run
  rw [List.take_add_one, h, List.foldl_append]
  rfl
theorem answers_at (zl : List (Nat × Nat)) : ∀ (s : St) (k c v : Nat), zl[k]? = some (c, v) → (answers s zl)[k]? = some ((run s (zl.take k)).answer c v) := by
  induction zl with
  | nil => intro s k c v h; simp at h
  | cons x zl ih =>
    intro s k c v h
    cases k with
    | zero => simp at h; subst h; rfl
    | succ k =>
      rw [answers, List.getElem?_cons_succ, ih _ k c v (by simpa using h)]
      rfl

set_option maxRecDepth 100000 in
set_option maxHeartbeats 4000000 in
theorem steps_seq (n : Nat) (hn1 : 1 ≤ n) (W0 : World) (B sb b3 b4 b5 ag c : Nat) (a : Option Addr) (l A : List Nat) (s0 : St) (zl : List (Nat × Nat)) (fx : List Nat)
    (hl : l.length ≤ 1099511627769) (hzl : zl.length = l.length) (hz : ∀ (k x : Nat), l[k]? = some x → ∃ v, zl[k]? = some (x, v) ∧ A[k + 1]? = some v ∧ v ≤ 1) (h23 : ∀ x ∈ l, 1 ≤ x ∧ x ≤ 23) (hAl : A.length = l.length + 1)
    (hfit : ∀ k, k ≤ l.length → Fit (run s0 (zl.take k)) (l.length + 1))
    (hc : ∀ W, Below B W0 W → Cells W a (l.map u8V)) (hag : ∀ (k v : Nat), A[k]? = some v → W0.cell? ⟨ag, k, none⟩ = some (n8V v)) (h3 : W0.heap[b3]? = some (.cells #[.pointer (some ⟨sb, 0, none⟩)] 123)) (h4 : W0.heap[b4]? = some (.cells #[.slice a l.length c] 22)) (h5 : W0.heap[b5]? = some (.cells #[.slice (some ⟨ag, 0, none⟩) (l.length + 1) (l.length + 1)] 27))
    (hfx : b3 ∈ fx ∧ b4 ∈ fx ∧ b5 ∈ fx ∧ ag ∈ fx) (hne : sb ∉ fx) (hfxB : ∀ k ∈ fx, k < W0.heap.size) :
    SeqT Fence.wide n Tryz.prog 111 #[.pointer (some ⟨b4, 0, none⟩), .pointer (some ⟨b3, 0, none⟩), .pointer (some ⟨b5, 0, none⟩)] (tellV (answers s0 zl)) (StT W0 B sb fx s0 zl) (StA B sb) (List.range l.length) := by
  intro lp J W hJA hY h0 t0
  have HJA := Lib.hid hJA
  have HY := Lib.hid hY
  have HC := Lib.hid hc
  have HZ := Lib.hid hz
  have HF := Lib.hid hfit
  have H23 := Lib.hid h23
  have HNE := Lib.hid hne
  have HFX := Lib.hid hfx
  have HFB := Lib.hid hfxB
  have HAG := Lib.hid hag
  have hat : ∀ V, StT W0 B sb fx s0 zl (List.range 0) V ∨ True := fun _ => .inr trivial
  -- what is read stays
  have hrd : ∀ (pre : List Nat) V, StT W0 B sb fx s0 zl pre V → V.cell? ⟨b3, 0, none⟩ = some (.pointer (some ⟨sb, 0, none⟩)) ∧ V.cell? ⟨b4, 0, none⟩ = some (.slice a l.length c) ∧ V.cell? ⟨b5, 0, none⟩ = some (.slice (some ⟨ag, 0, none⟩) (l.length + 1) (l.length + 1)) ∧ ∀ (k v : Nat), A[k]? = some v → V.cell? ⟨ag, k, none⟩ = some (n8V v) := by
    intro pre V hT
    refine ⟨cells_at ((hT.same b3 hfx.1).trans h3) 0, cells_at ((hT.same b4 hfx.2.1).trans h4) 0, cells_at ((hT.same b5 hfx.2.2.1).trans h5) 0, fun k v hk => ?_⟩
    rw [World.cell?_of_block (w := W0) (hT.same ag hfx.2.2.2)]
    exact hag k v hk
  have HRD := Lib.hid hrd
  obtain ⟨m, hm⟩ : ∃ m, m = l.length := ⟨_, rfl⟩
  have HM := Lib.hid hm
  obtain ⟨k3, k4, k5, _⟩ := hrd [] W t0
  rw [← hm] at k4 k5 hl
  clear hJA hY hc hz hfit h23 hne hfx hfxB hag hat hrd hm h3 h4 h5 hzl hAl
  have hm0 : (0 : Int) ≤ (m : Int) := by omega
  refine callsIn_of_wp Tryz.func111 rfl trivial ?_ rfl
  simp only [Tryz.ntmps111, List.size_toArray, List.length_cons, List.length_nil, Nat.reduceAdd, Nat.reduceSub, Array.replicate_succ, Array.replicate_zero, List.push_toArray, List.append_toArray, List.nil_append, List.cons_append]
  refine wpIn_wide.2 ?_
  go_wp2
  go_loopg [12] m (fun r i wr => ∃ k : Nat, k + r = m ∧ i = .int .i64 k ∧ J (List.range k) wr ∧ StT W0 B sb fx s0 zl (List.range k) wr)
  case atStart => exact ⟨0, by omega, rfl, h0, t0⟩
  case round =>
    obtain ⟨k, hk, rfl, hJ, hT⟩ := hrel
    by_cases hlt : k < m
    · obtain ⟨x, hx⟩ : ∃ x, l[k]? = some x := ⟨_, List.getElem?_eq_getElem (by rw [← HM.out]; exact hlt)⟩
      obtain ⟨v, hzk, hAk, hv1⟩ := HZ.out k x hx
      have hx23 := H23.out x (List.mem_of_getElem? hx)
      obtain ⟨k3, k4, k5, k6⟩ := HRD.out _ _ hT
      rw [← HM.out] at k4 k5
      have k7 := k6 (k + 1) v hAk
      unfold n8V at k7
      obtain ⟨b, off, rfl, hcx⟩ := (HC.out _ hT.below).getm hx
      unfold u8V at hcx
      obtain ⟨pa, pc, hst, hpf⟩ := hT.stack
      have HPF := Lib.hid hpf
      rw [List.length_range] at hst
      have HST := Lib.hid hst
      have HT := Lib.hid hT
      have HJ := Lib.hid hJ
      have HSTEP := Lib.hid (fun V hs => step_any V B sb pa pc (run s0 (zl.take k)) (l.length + 1) hs (HF.out k (by rw [← HM.out]; omega)) x hx23 v hv1)
      have HL0 : Hid (0 < (run s0 (zl.take k)).l.length) := Lib.hid (HF.out k (by rw [← HM.out]; omega)).l
      have HX := Lib.hid hx
      have HZK := Lib.hid hzk
      have HAK := Lib.hid hAk
      have hk0 : (0 : Int) ≤ (k : Int) := by omega
      have hk1 : (k : Int) < (m : Int) := by omega
      have hk2 : (k : Int) + 1 < (m : Int) + 1 := by omega
      have hk3 : ((k : Int) + 1).toNat = k + 1 := by omega
      have hk4 : (0 : Int) ≤ (k : Int) + 1 := by omega
      have hk5 : (k : Int) + 1 < ((m + 1 : Nat) : Int) := by omega
      have hwr := IntWalk.i64_in ((k : Int) + 1) (by omega)
      clear hst hpf hT hJ hx hzk hAk k6
      go_wp2
      have HT2 : Hid (StT W0 B sb fx s0 zl (List.range k) wr.drew) := Lib.hid ⟨HT.out.range, by obtain ⟨pa, pc, h, hp⟩ := HT.out.stack; exact ⟨pa, pc, h.drewV rfl, hp⟩, fun k hk => HT.out.same k hk, HT.out.below.drew⟩
      have HST2 : Hid (StackAt wr.drew B sb pa pc (run s0 (zl.take k))) := Lib.hid (HST.out.drewV rfl)
      have HJ2 : Hid (J (List.range k) wr.drew) := Lib.hid (HJA.out _ _ _ HJ.out ⟨_, _, _, _, _, _, HST.out, HST2.out, (Moved.refl _ _ _).drewV rfl, HL0.out⟩)
      have HNX : Hid (∀ W1 pa1 pc1, StackAt W1 B sb pa1 pc1 ((run s0 (zl.take k)).next x v) → Moved wr.drew W1 sb pa pa1 → J (List.range k) W1 ∧ StT W0 B sb fx s0 zl (List.range k ++ [k]) W1) := Lib.hid (by
        intro W1 pa1 pc1 hs1 hm1
        refine ⟨HJA.out _ _ _ HJ2.out ⟨_, _, _, _, _, _, HST2.out, hs1, hm1, HL0.out⟩, ?_, ⟨pa1, pc1, ?_, fun i hi => ?_⟩, fun i hi => ?_, ?_⟩
        · rw [← List.range_succ, List.length_range]
        · rw [List.length_append, List.length_range, List.length_singleton, run_snoc s0 zl k x v HZK.out]
          exact hs1
        · rcases hm1.place with e | ⟨g, e, hg⟩
          · rw [e]; exact HPF.out i hi
          · rw [e]
            intro h
            cases h
            have := HFB.out i hi
            have := HT2.out.below.size
            omega
        · refine (hm1.kept.block i (Nat.lt_of_lt_of_le (HFB.out i hi) HT2.out.below.size) ?_).trans (HT2.out.same i hi)
          rintro (rfl | h)
          · exact HNE.out hi
          · exact HPF.out i hi h
        · exact hm1.kept.below HT2.out.below (fun j hj => by
            rcases hj with rfl | h
            · exact HST2.out.ge
            · rcases HST2.out.own.row with ⟨h0, _⟩ | ⟨g, hg, hBg, _⟩
              · rw [h0] at h; cases h
              · rw [hg] at h; cases h; exact hBg) (by have := HST2.out.lt; have := HST2.out.ge; omega))
      have HKP : Hid (∀ W1, StT W0 B sb fx s0 zl (List.range k ++ [k]) W1 → W1.cell? ⟨b3, 0, none⟩ = some (.pointer (some ⟨sb, 0, none⟩)) ∧ W1.cell? ⟨b5, 0, none⟩ = some (.slice (some ⟨ag, 0, none⟩) (m + 1) (m + 1)) ∧ W1.cell? ⟨ag, k + 1, none⟩ = some (.int .i8 v)) := Lib.hid (by
        intro W1 hT1
        obtain ⟨q3, q4, q5, q6⟩ := HRD.out _ _ hT1
        rw [← HM.out] at q5
        exact ⟨q3, q5, q6 _ _ HAK.out⟩)
      go_region_held3 (fun w' => w'.cell? ⟨b3, 0, none⟩ = some (.pointer (some ⟨sb, 0, none⟩)) ∧ w'.cell? ⟨b5, 0, none⟩ = some (.slice (some ⟨ag, 0, none⟩) (m + 1) (m + 1)) ∧ w'.cell? ⟨ag, k + 1, none⟩ = some (.int .i8 v)) (first | exact ⟨k3, k5, k7⟩ | exact kkp)
        ((go_at_call 112; refine (HSTEP.out _ HST2.out).mono ?_; rintro x1 W1 ⟨⟨b1, rfl⟩, pa1, pc1, hs1, hm1⟩; have HJT := Lib.hid (HNX.out _ _ _ hs1 hm1); have kkp := HKP.out _ HJT.out.2; clear hs1 hm1))
      have hpx : List.range k ++ [k] <+: List.range l.length := by
        rw [← List.range_succ]
        have : (List.range (k + 1)) = (List.range l.length).take (k + 1) := by rw [List.take_range]; congr 1; rw [← HM.out]; omega
        rw [this]
        exact List.take_prefix _ _
      have hyl := HY.out (List.range k) k W1 hpx HJT.out.1 HJT.out.2
      have htv : tellV (answers s0 zl) k = #[.int .i64 k, .agg #[.int .i8 (lvI ((run s0 (zl.take k)).answer x v).1), .int .u8 ((run s0 (zl.take k)).answer x v).2]] := by
        unfold tellV
        rw [List.getD_eq_getElem?_getD, answers_at zl s0 k x v HZK.out]
        rfl
      rw [htv] at hyl
      generalize lvI ((run s0 (zl.take k)).answer x v).1 = lv at *
      generalize ((run s0 (zl.take k)).answer x v).2 = kc at *
      obtain ⟨fn, tmps, assign, body, hy, hR⟩ := hyl
      clear hpx htv k3 k4 k5 k7 kkp hcx
      go_upto_region 4 with (fail)
      refine (wpIn_wide (n := n)).1 ?_
      gi_wp2
      refine hR.mono ?_
      rintro e W4 ⟨rfl, hJ4, hT4⟩
      have HJ4 := Lib.hid hJ4
      have HT4 := Lib.hid hT4
      clear hJ4 hT4 hy hR
      gi_wp2
      go_wp2
      go_roundg (gk - 1)
      case measure => omega
      case rel => exact ⟨k + 1, by omega, by go_num, by rw [List.range_succ]; exact HJ4.out, by rw [List.range_succ]; exact HT4.out⟩
    · obtain rfl : k = m := by omega
      have HT := Lib.hid hT
      have HJ := Lib.hid hJ
      clear hT hJ
      go_wp2
      go_end0
      exact ⟨⟨_, rfl⟩, by rw [← HM.out]; exact HJ.out, by rw [← HM.out]; exact HT.out⟩

end Go.Proofs.YtjnidopbdjbbgaaGreat
end
/-
  The explicit rules, by way of the isolates' ends; how great a stack may grow. Plain laws.
-/
section
namespace Go.Proofs.YtjnidopbdjbbgaaGreat
set_option linter.unusedVariables false

theorem next_auto (s : St) (c a b : Nat) (h : c ≠ 22) : s.next c a = s.next c b := by
  have e : (c == 22) = false := by simpa using h
  unfold St.next
  rw [e]
  simp only [Bool.false_and]
theorem answer_auto (s : St) (c a b : Nat) (h : c ≠ 22) : s.answer c a = s.answer c b := by
  unfold St.answer
  rw [next_auto s c a b h]
theorem answers_eq (l : List Nat) : ∀ (bs : List Nat) (s : St), bs.length = l.length → (∀ k, l[k]? = some 22 → bs[k]? = some (fsi 0 (l.drop (k + 1)))) → answers s (l.zip bs) = answers s (withFsi l) := by
  induction l with
  | nil => intro bs s _ _; rfl
  | cons c l ih =>
    intro bs s hl h
    cases bs with
    | nil => simp at hl
    | cons b bs =>
      have ih2 := fun s => ih bs s (by simpa using hl) (fun k hk => by simpa using h (k + 1) (by simpa using hk))
      rw [List.zip_cons_cons, answers, withFsi, answers]
      by_cases hc : c = 22
      · have := h 0 (by simp [hc])
        simp at this
        rw [this, ih2]
      · rw [answer_auto s c b (fsi 0 l) hc, next_auto s c b (fsi 0 l) hc, ih2]

def Cnt (s t : St) : Prop := t.l.length ≤ s.l.length + 1 ∧ t.isos ≤ s.isos + 1 ∧ t.embs ≤ s.embs + 1
theorem next_counts (s : St) (c a : Nat) : Cnt s (s.next c a) := by
  unfold St.next
  split
  · show Cnt s (if s.room _ = true then _ else _)
    split
    · simp [Cnt, St.put]
    · split <;> simp [Cnt]
  · split
    · show Cnt s (if s.room _ = true then _ else _)
      split <;> simp [Cnt, St.put]
    · split
      · unfold St.pop
        split
        · simp [Cnt]; omega
        · split
          · have := (List.dropWhile_sublist (fun e : Ent => !e.iso) (l := s.l)).length_le
            simp [Cnt]
            omega
          · simp [Cnt]
      · split
        · split
          · simp [Cnt]
          · split
            · simp [Cnt]; omega
            · split
              · simp [Cnt]; omega
              · simp [Cnt]
        · split
          · simp [Cnt]; omega
          · simp [Cnt]
theorem run_counts (base : Nat) (hb : base ≤ 1) (zl : List (Nat × Nat)) : ∀ s : St, Ok base s → Ok base (run s zl) ∧ (run s zl).l.length ≤ s.l.length + zl.length ∧ (run s zl).isos ≤ s.isos + zl.length ∧ (run s zl).embs ≤ s.embs + zl.length := by
  induction zl with
  | nil => intro s h; exact ⟨h, Nat.le_refl _, Nat.le_refl _, Nat.le_refl _⟩
  | cons x zl ih =>
    intro s h
    obtain ⟨h1, h2, h3, h4⟩ := ih (s.next x.1 x.2) (h.next (by omega) x.1 x.2)
    obtain ⟨n1, n2, n3⟩ := next_counts s x.1 x.2
    refine ⟨h1, ?_, ?_, ?_⟩
    · show (run (s.next x.1 x.2) zl).l.length ≤ _
      simp only [List.length_cons]; omega
    · show (run (s.next x.1 x.2) zl).isos ≤ _
      simp only [List.length_cons]; omega
    · show (run (s.next x.1 x.2) zl).embs ≤ _
      simp only [List.length_cons]; omega
theorem fit_run (base : Nat) (hb : base ≤ 1) (zl : List (Nat × Nat)) (N : Nat) (h : zl.length + 1 ≤ N) (hN : N ≤ 1099511627770) : Fit (run (St.first base) zl) N := by
  obtain ⟨h1, h2, h3, h4⟩ := run_counts base hb zl (St.first base) (first_ok base)
  have ht := h1.top (by omega)
  obtain ⟨r, hr, hv, _⟩ := h1.shape
  have hcl : r.countP (fun e => e.iso) ≤ r.length := List.countP_le_length
  have e1 : (St.first base).l.length = 1 := rfl
  have e2 : (St.first base).isos = 0 := rfl
  have e3 : (St.first base).embs = 0 := rfl
  have hlen : (run (St.first base) zl).l.length = r.length + 1 := by rw [hr]; simp
  refine ⟨by omega, by omega, by omega, by omega, by omega, hN, ht.2, fun hv0 => ?_⟩
  obtain ⟨e, r2, hd, _, _⟩ := drop_iso r ⟨base, 0, false⟩ (by omega)
  rw [hr, hd]
  cases r2 with
  | nil => exact ⟨e, _, [], rfl⟩
  | cons f r2 => exact ⟨e, f, r2 ++ [⟨base, 0, false⟩], rfl⟩

theorem autos_le (M : List Int) (l : List Nat) : ∀ i, ∀ v ∈ autosOf M i l, v ≤ 1 := by
  induction l with
  | nil => intro i v hv; simp [autosOf] at hv; omega
  | cons c l ih =>
    intro i v hv
    have hg : ∀ k, (autosOf M (i + 1) l).getD k 0 ≤ 1 := fun k => by
      rw [List.getD_eq_getElem?_getD]
      cases hk : (autosOf M (i + 1) l)[k]? with
      | none => simp
      | some x => exact ih (i + 1) x (List.mem_of_getElem? hk)
    rw [autosOf] at hv
    rcases List.mem_cons.1 hv with rfl | hv
    · have h1 := hg ((M.getD i 0).toNat - i)
      have h2 := hg 0
      repeat' split
      all_goals omega
    · exact ih (i + 1) v hv
theorem autos_get (M : List Int) (l : List Nat) (k : Nat) (hk : k ≤ l.length) : (autosOf M 0 l)[k]? = some ((autosOf M k (l.drop k)).getD 0 0) := by
  have h1 := autos_drop M (l.take k) (l.drop k) 0
  rw [List.take_append_drop, List.length_take, Nat.min_eq_left hk, Nat.zero_add] at h1
  have h2 : (autosOf M 0 l)[k]? = ((autosOf M 0 l).drop k)[0]? := by rw [List.getElem?_drop]; rfl
  rw [h2, h1, List.getD_eq_getElem?_getD, List.getElem?_eq_getElem (by rw [autos_len]; omega)]
  rfl
/-- What stands for the FSI at a place. -/
theorem autos_of_fsi (L : List Nat) (hB : BLast L) (k : Nat) (hk : L[k]? = some 22) : (autosOf (matchOf L) 0 L)[k + 1]? = some (fsi 0 (L.drop (k + 1))) := by
  have hlt := (List.getElem?_eq_some_iff.1 hk).1
  rw [autos_get _ _ (k + 1) (by omega)]
  have e : L.take (k + 1) = L.take k ++ [22] := by rw [List.take_add_one, hk]; rfl
  have hp := pile_step (L.take k) 22
  rw [if_pos (show begins 22 = true from rfl), ← e] at hp
  have := autos_fsi L hB (L.drop (k + 1)).length (L.drop (k + 1)) (L.take (k + 1)) (Nat.le_refl _) (List.take_append_drop _ _).symm (by rw [hp]; simp)
  rw [List.length_take, Nat.min_eq_left (by omega)] at this
  rw [this]
/-- **The explicit rules, as they are reckoned.** -/
theorem explicit_eq (base : Nat) (L : List Nat) (hB : BLast L) : answers (St.first base) (L.zip ((autosOf (matchOf L) 0 L).drop 1)) = explicitOf base L := by
  refine answers_eq L _ _ (by rw [List.length_drop, autos_len]; omega) fun k hk => ?_
  rw [List.getElem?_drop, Nat.add_comm]
  exact autos_of_fsi L hB k hk
/-- Isolates' ends lie behind their beginnings. -/
theorem match_behind (L : List Nat) (i x : Nat) (m : Int) (hx : L[i]? = some x) (hm : (matchOf L)[i]? = some m) (h23 : x ≠ 23) (h0 : 0 ≤ m) : (i : Int) < m := by
  have hlt := (List.getElem?_eq_some_iff.1 hx).1
  have e : L = L.take i ++ x :: L.drop (i + 1) := by
    rw [← drop_get hx, List.take_append_drop]
  have hl : (L.take i).length = i := by rw [List.length_take]; omega
  by_cases hb : begins x = true
  · have h1 := match_begin (L.take i) x (L.drop (i + 1)) hb
    rw [← e, hl, hm] at h1
    split at h1
    · cases h1; omega
    · cases h1; omega
  · have h1 := match_none (L.take i) x (L.drop (i + 1)) (by simpa using hb) h23
    rw [← e, hl, hm] at h1
    cases h1
    omega

end Go.Proofs.YtjnidopbdjbbgaaGreat
end
