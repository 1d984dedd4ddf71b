/-
  All weak rules of a sequence: weak.Resolve, walked.
-/
import Derived.Test.YtjnidopbdjbbgaaGreatA14
namespace Go.Proofs.YtjnidopbdjbbgaaGreat
open Go.RowKit
set_option linter.unusedVariables false
set_option maxRecDepth 20000
set_option maxHeartbeats 4000000

theorem rule_any (k : Nat) (hk : 1 ≤ k ∧ k ≤ 7) (w : World) (s : Sq) (hs : s.Ok) (pa ca : Option Addr) (pc cc : Nat) (hi : s.In w pa ca) :
    Calls Tryz.prog 45 #[.int .i64 k, s.val pa pc ca cc] w fun e w' => ∃ pa' pc' ca' cc', e = .returned (.tuple #[{ s with cs := ruleOf k s.sos s.cs }.val pa' pc' ca' cc', .int .i64 0]) ∧ Own w' w.heap.size 1 pa' s.ps.length pc' (s.ps.map natV) ∧ Own w' w.heap.size 1 ca' s.ps.length cc' ((ruleOf k s.sos s.cs).map u8V) ∧ Below w.heap.size w w' := by
  obtain ⟨h1, h2⟩ := hk
  match k, h1, h2 with
  | 1, _, _ => exact rule1_any w s hs pa ca pc cc hi
  | 2, _, _ => exact rule2_any w s hs pa ca pc cc hi
  | 3, _, _ => exact rule3_any w s hs pa ca pc cc hi
  | 4, _, _ => exact rule4_any w s hs pa ca pc cc hi
  | 5, _, _ => exact rule5_any w s hs pa ca pc cc hi
  | 6, _, _ => exact rule6_any w s hs pa ca pc cc hi
  | 7, _, _ => exact rule7_any w s hs pa ca pc cc hi

theorem each2_all {P : Nat → Nat → Prop} {Q R : Nat → Prop} {a b : List Nat} (h : Each2 P a b) (hq : ∀ c ∈ a, Q c) (hr : ∀ x y, P x y → Q x → R y) : ∀ c ∈ b, R c := by
  intro y hy
  obtain ⟨i, hi, e⟩ := List.getElem_of_mem hy
  have hia : i < a.length := by rw [h.1]; exact hi
  exact hr a[i] y (h.2 i _ _ (List.getElem?_eq_getElem hia) (by rw [List.getElem?_eq_getElem hi, e])) (hq _ (List.getElem_mem _))
theorem rule_cl (k : Nat) (sos : Nat) (hs : sos = 1 ∨ sos = 2) (l : List Nat) (hl : ∀ c ∈ l, Cl c) : (∀ c ∈ ruleOf k sos l, Cl c) ∧ (ruleOf k sos l).length = l.length := by
  have c47 : ∀ y, y = 4 ∨ y = 7 ∨ y = 1 ∨ y = 2 ∨ y = 14 → Cl y := fun y hy => by unfold Cl; omega
  have sc : ∀ (f : Nat → Nat → Nat × Nat), (∀ s c, (f s c).1 = c ∨ Cl (f s c).1) → (∀ c ∈ scan f sos l, Cl c) ∧ (scan f sos l).length = l.length := by
    intro f hf
    refine ⟨each2_all (Q := Cl) (scan_each f (fun _ => True) (fun x y => y = x ∨ Cl y) (fun _ => True) (fun s c _ _ => ⟨hf s c, trivial⟩) l sos trivial (fun _ _ => trivial)) hl (fun x y h hx => ?_), scan_len _ _ _⟩
    rcases h with rfl | h
    · exact hx
    · exact h
  unfold ruleOf
  split
  · have := w1_each sos hs l hl
    exact ⟨each2_all (Q := fun _ => True) this (fun _ _ => trivial) (fun x y h _ => h.2.1), scan_len _ _ _⟩
  · refine sc w2 fun s c => ?_
    unfold w2
    split
    · exact .inl rfl
    · split
      · exact .inr (c47 7 (by omega))
      · exact .inl rfl
  · refine ⟨fun c hc => ?_, by simp⟩
    obtain ⟨x, hx, rfl⟩ := List.mem_map.1 hc
    unfold w3
    split
    · exact c47 2 (by omega)
    · exact hl x hx
  · refine ⟨each2_all (Q := Cl) (w4_each l 0) hl (fun x y h hx => ?_), w4_len l 0⟩
    rcases h.2 with rfl | rfl | rfl
    · exact hx
    · exact c47 4 (by omega)
    · exact c47 7 (by omega)
  · have h5 := w5_each l 0 0
    rw [List.replicate_zero, List.nil_append] at h5
    refine ⟨each2_all (Q := Cl) h5 hl (fun x y h hx => ?_), h5.1.symm⟩
    rcases h.2 with rfl | rfl
    · exact hx
    · exact c47 4 (by omega)
  · refine ⟨fun c hc => ?_, by simp⟩
    obtain ⟨x, hx, rfl⟩ := List.mem_map.1 hc
    unfold w6
    split
    · exact c47 14 (by omega)
    · exact hl x hx
  · refine sc w7 fun s c => ?_
    unfold w7
    split
    · exact .inl rfl
    · split
      · exact .inr (c47 1 (by omega))
      · exact .inl rfl
/-- The classes behind the first k rules. -/
def rulesTo (sos : Nat) (l : List Nat) : Nat → List Nat
  | 0 => l
  | k + 1 => ruleOf (k + 1) sos (rulesTo sos l k)
theorem rulesTo_cl (sos : Nat) (hs : sos = 1 ∨ sos = 2) (l : List Nat) (hl : ∀ c ∈ l, Cl c) (k : Nat) : (∀ c ∈ rulesTo sos l k, Cl c) ∧ (rulesTo sos l k).length = l.length := by
  induction k with
  | zero => exact ⟨hl, rfl⟩
  | succ k ih =>
    have := rule_cl (k + 1) sos hs _ ih.1
    exact ⟨this.1, this.2.trans ih.2⟩
theorem rulesTo_all (sos : Nat) (l : List Nat) : rulesTo sos l 7 = weakOf sos l := rfl
/-- The sequence behind the first k rules. -/
def Sq.to (s : Sq) (k : Nat) : Sq := { s with cs := rulesTo s.sos s.cs k }
theorem Sq.Ok.to {s : Sq} (h : s.Ok) (k : Nat) : (s.to k).Ok := by
  have := rulesTo_cl s.sos h.sos s.cs h.cl k
  exact ⟨h.pos, this.2.trans h.same, h.big, h.up, h.top, this.1, h.lv, h.sos, h.eos⟩

/-- A slice lies in another block. -/
def Away (p : Option Addr) (k : Nat) : Prop := ∀ a : Addr, p = some a → a.block ≠ k
theorem Cells.away {w : World} {p : Option Addr} {xs : List Value} {N j : Nat} (h : Cells w p xs) (ha : Away p N) (v : Value) : Cells (w.setCell ⟨N, j, none⟩ v) p xs := by
  intro hne
  obtain ⟨b, off, e, hc⟩ := h hne
  exact ⟨b, off, e, fun i u hu => cell_set (hc i u hu) (ha _ e)⟩
theorem Cells.away5 {w : World} {p : Option Addr} {xs : List Value} {N : Nat} (h : Cells w p xs) (ha : Away p N) (a b c d e : Value) :
    Cells (((((w.setCell ⟨N, 0, none⟩ a).setCell ⟨N, 1, none⟩ b).setCell ⟨N, 2, none⟩ c).setCell ⟨N, 3, none⟩ d).setCell ⟨N, 4, none⟩ e) p xs := ((((h.away ha a).away ha b).away ha c).away ha d).away ha e
theorem Cells.lt {w : World} {p : Option Addr} {xs : List Value} (h : Cells w p xs) (hp : 0 < xs.length) : ∀ a, p = some a → a.block < w.heap.size := by
  intro a e
  obtain ⟨b, off, e2, hc⟩ := h (by intro e3; rw [e3] at hp; simp at hp)
  rw [e] at e2
  cases e2
  have := hc 0 xs[0] (List.getElem?_eq_getElem hp)
  exact World.block_lt_of_cell? w _ this
theorem Own.away {w : World} {B size n c : Nat} {p : Option Addr} {xs : List Value} (h : Own w B size p n c xs) {k : Nat} (hk : k ∉ blk p) : Away p k := fun a e hb => hk (by rw [blk_mem, e]; show some a.block = some k; rw [hb])

/-- All weak rules. -/
theorem weak_any (w : World) (s : Sq) (hs : s.Ok) (pa ca : Option Addr) (pc cc : Nat) (hi : s.In w pa ca) :
    Calls Tryz.prog 25 #[s.val pa pc ca cc] w fun e w' => ∃ pa' pc' ca' cc', e = .returned (.tuple #[(s.to 7).val pa' pc' ca' cc', .int .i64 0]) ∧ (s.to 7).In w' pa' ca' ∧ Below w.heap.size w w' := by
  have HR := Lib.hid (fun (k : Nat) (hk : k < 7) w pa ca pc cc h => rule_any (k + 1) (by omega) w (s.to k) (hs.to k) pa ca pc cc h)
  have HIN := Lib.hid hi
  have HTO : Hid (∀ k, ({ s.to k with cs := ruleOf (k + 1) (s.to k).sos (s.to k).cs } : Sq) = s.to (k + 1)) := Lib.hid (fun k => rfl)
  have HT0 : Hid (s.to 0 = s) := Lib.hid rfl
  have HAW : Hid (Away pa (w.heap.size + 1) ∧ Away ca (w.heap.size + 1)) := Lib.hid ⟨fun a e => by have := hi.ps.lt (by rw [List.length_map]; exact hs.pos) a e; omega, fun a e => by have := hi.cs.lt (by rw [List.length_map, hs.same]; exact hs.pos) a e; omega⟩
  obtain ⟨n, hn⟩ : ∃ n, n = s.ps.length := ⟨_, rfl⟩
  have hv : ∀ k pa pc ca cc, (s.to k).val pa pc ca cc = .agg #[.slice pa n pc, .slice ca n cc, .int .i8 s.lv, .int .u8 s.sos, .int .u8 s.eos] := fun k pa pc ca cc => by rw [hn]; rfl
  have hv0 : s.val pa pc ca cc = .agg #[.slice pa n pc, .slice ca n cc, .int .i8 s.lv, .int .u8 s.sos, .int .u8 s.eos] := by rw [hn]; rfl
  have HV := Lib.hid hv
  rw [hv0]
  have HRR : Hid (∀ (k : Nat), k < 7 → ∀ (w : World) (pa ca : Option Addr) (pc cc : Nat), (s.to k).In w pa ca → Calls Tryz.prog 45 #[.int .i64 (k + 1 : Nat), .agg #[.slice pa n pc, .slice ca n cc, .int .i8 s.lv, .int .u8 s.sos, .int .u8 s.eos]] w fun e w' => ∃ pa' pc' ca' cc', e = .returned (.tuple #[.agg #[.slice pa' n pc', .slice ca' n cc', .int .i8 s.lv, .int .u8 s.sos, .int .u8 s.eos], .int .i64 0]) ∧ Own w' w.heap.size 1 pa' n pc' ((s.to (k + 1)).ps.map natV) ∧ Own w' w.heap.size 1 ca' n cc' ((s.to (k + 1)).cs.map u8V) ∧ Below w.heap.size w w') := Lib.hid (fun k hk w pa ca pc cc h => by
    have := HR.out k hk w pa ca pc cc h
    rw [hv k] at this
    refine this.mono ?_
    rintro e w' ⟨pa', pc', ca', cc', rfl, h1, h2, h3⟩
    refine ⟨pa', pc', ca', cc', ?_, h1.eqN hn.symm, h2.eqN hn.symm, h3⟩
    rw [HTO.out k, hv (k + 1)])
  obtain ⟨lv, hlv⟩ : ∃ x, x = s.lv := ⟨_, rfl⟩
  obtain ⟨sos, hsos⟩ : ∃ x, x = s.sos := ⟨_, rfl⟩
  obtain ⟨eos, heos⟩ : ∃ x, x = s.eos := ⟨_, rfl⟩
  simp only [← hlv, ← hsos, ← heos] at HRR HV ⊢
  clear hi hs hv hv0 hn hlv hsos heos HR HTO
  obtain ⟨O2, hO2⟩ : ∃ O, O = Obj.cells #[.slice none 0 0, .slice none 0 0, .int .i8 0, .int .u8 0, .int .u8 0] 75 := ⟨_, rfl⟩
  obtain ⟨O1, hO1⟩ : ∃ O, O = Obj.cells #[.slice pa n pc, .slice ca n cc, .int .i8 lv, .int .u8 sos, .int .u8 eos] 75 := ⟨_, rfl⟩
  have hw1 : ((w.alloc O1).alloc O2).heap[w.heap.size]? = some O1 := (Below.heap_alloc _ _ _ (by simp)).trans (heap_alloc_new w O1)
  have hw2 : ((w.alloc O1).alloc O2).heap[w.heap.size + 1]? = some O2 := by
    have := heap_alloc_new (w.alloc O1) O2
    rwa [World.size_alloc] at this
  have HB0 : Hid (Below w.heap.size w ((w.alloc O1).alloc O2)) := Lib.hid (((Below.refl _ _).alloc (Nat.le_refl _) _).alloc (by simp) _)
  have HSZ : Hid (((w.alloc O1).alloc O2).heap.size = w.heap.size + 2) := Lib.hid (by simp)
  have HRL := Lib.hid (fun W => rules_any W)
  subst hO2
  have HW1 := Lib.hid hw1
  have HW2 := Lib.hid hw2
  subst hO1
  clear hw1 hw2
  go_enter Tryz.func25, Tryz.ntmps25
  go_wp2_with (go_at_call 44; refine (HRL.out _).mono ?_; rintro e w2 ⟨rfl, hw2⟩; have HB2 := Lib.hid (show Below w.heap.size w w2 by rw [hw2]; exact HB0.out.alloc HB0.out.size _); have HX2 := Lib.hid ((congrArg (fun v : World => v.heap[w.heap.size]?) hw2).trans ((Below.heap_alloc _ _ w.heap.size (by rw [HSZ.out]; omega)).trans HW1.out)); have HY2 := Lib.hid ((congrArg (fun v : World => v.heap[w.heap.size + 1]?) hw2).trans ((Below.heap_alloc _ _ (w.heap.size + 1) (by rw [HSZ.out]; omega)).trans HW2.out)); clear hw2)
  go_loopg [5, 8] 7 (fun r ev i wr => ∃ k : Nat, k + r = 7 ∧ i = .int .i64 k ∧ (∃ pa pc ca cc, wr.heap[w.heap.size]? = some (.cells #[.slice pa n pc, .slice ca n cc, .int .i8 lv, .int .u8 sos, .int .u8 eos] 75) ∧ (s.to k).In wr pa ca ∧ Away pa (w.heap.size + 1) ∧ Away ca (w.heap.size + 1)) ∧ wr.heap[w.heap.size + 1]? = some (.cells #[.slice none 0 0, .slice none 0 0, .int .i8 0, .int .u8 0, .int .u8 0] 75) ∧ Below w.heap.size w wr)
  case atStart => exact ⟨0, rfl, rfl, ⟨pa, pc, ca, cc, HX2.out, by rw [HT0.out]; exact HIN.out.below HB2.out, HAW.out.1, HAW.out.2⟩, HY2.out, HB2.out⟩
  case round =>
    obtain ⟨k, hk, rfl, ⟨pa1, pc1, ca1, cc1, hx, hin, haw1, haw2⟩, hy, hb⟩ := hrel
    have HAW1 := Lib.hid haw1
    have HAW2 := Lib.hid haw2
    clear haw1 haw2
    have b0 := cells_at hx 0
    have b1 := cells_at hx 1
    have b2 := cells_at hx 2
    have b3 := cells_at hx 3
    have b4 := cells_at hx 4
    have HX := Lib.hid hx
    have HI := Lib.hid hin
    have HY := Lib.hid hy
    have HB := Lib.hid hb
    have HK := Lib.hid hk
    by_cases hlt : k < 7
    · have hk1 : (k : Int) < 7 := by omega
      have hk0 : (0 : Int) ≤ (k : Int) := by omega
      have HC := Lib.hid (HRR.out k hlt wr pa1 ca1 pc1 cc1 hin)
      have HLS := Lib.hid (show w.heap.size + 1 < wr.heap.size from (Array.getElem?_eq_some_iff.1 hy).1)
      clear hx hin hy hb hk
      go_wp2_with (go_at_call 45; refine HC.out.mono ?_; rintro e w5 ⟨pa', pc', ca', cc', rfl, hop5, hoc5, hb5⟩; have HP5 := Lib.hid hop5; have HC5 := Lib.hid hoc5; have HB5 := Lib.hid hb5; have HX5 := Lib.hid ((hb5.block w.heap.size (by have := HLS.out; omega)).trans HX.out); have HY5 := Lib.hid ((hb5.block (w.heap.size + 1) (by have := HLS.out; omega)).trans HY.out); have b0 := cells_at HX5.out 0; have b1 := cells_at HX5.out 1; have b2 := cells_at HX5.out 2; have b3 := cells_at HX5.out 3; have b4 := cells_at HX5.out 4; have f0 := frozen_at HX5.out 0; have f1 := frozen_at HX5.out 1; have f2 := frozen_at HX5.out 2; have f3 := frozen_at HX5.out 3; have f4 := frozen_at HX5.out 4; clear hop5 hoc5 hb5)
      have q1 : w.heap.size ∉ blk pa' := fun h => by have := (HP5.out.blk_lt _ h).1; have := HLS.out; omega
      have q2 : w.heap.size ∉ blk ca' := fun h => by have := (HC5.out.blk_lt _ h).1; have := HLS.out; omega
      go_roundg (gk - 1)
      case measure => have := HK.out; omega
      case rel => exact ⟨k + 1, by have := HK.out; omega, by go_num, ⟨pa', pc', ca', cc', heap_set5 HX5.out _ _ _ _ _, ⟨(HP5.out.set5 q1 _ _ _ _ _).toCells, (HC5.out.set5 q2 _ _ _ _ _).toCells⟩, HP5.out.away (fun h => by have := (HP5.out.blk_lt _ h).1; have := HLS.out; omega), HC5.out.away (fun h => by have := (HC5.out.blk_lt _ h).1; have := HLS.out; omega)⟩, heap_other (heap_other (heap_other (heap_other (heap_other HY5.out (by omega) _) (by omega) _) (by omega) _) (by omega) _) (by omega) _, below_set5 (HB.out.trans (HB5.out.mono HB.out.size)) (Nat.le_refl _) _ _ _ _ _⟩
    · obtain rfl : k = 7 := by omega
      have HLS := Lib.hid (show w.heap.size + 1 < wr.heap.size from (Array.getElem?_eq_some_iff.1 hy).1)
      have e0 := cells_at hy 0
      have e1 := cells_at hy 1
      have e2 := cells_at hy 2
      have e3 := cells_at hy 3
      have e4 := cells_at hy 4
      have f0 := frozen_at hy 0
      have f1 := frozen_at hy 1
      have f2 := frozen_at hy 2
      have f3 := frozen_at hy 3
      have f4 := frozen_at hy 4
      clear hx hin hy hb hk
      go_wp2
      have hfin := heap_set5 HY.out (.slice pa1 n pc1) (.slice ca1 n cc1) (.int .i8 lv) (.int .u8 sos) (.int .u8 eos)
      have hres : ∀ (tmps : Array Value) (W' : World), W'.heap[w.heap.size + 1]? = some (.cells #[.slice pa1 n pc1, .slice ca1 n cc1, .int .i8 lv, .int .u8 sos, .int .u8 eos] 75) → tmps.getD 2 undef = .pointer (some ⟨w.heap.size + 1, 0, none⟩) → tmps.getD 3 undef = .int .i64 0 → (results Tryz.f25 tmps).run Tryz.prog W' = .ok (.tuple #[.agg #[.slice pa1 n pc1, .slice ca1 n cc1, .int .i8 lv, .int .u8 sos, .int .u8 eos], .int .i64 0]) W' := by
        intro tmps W' h1 h2 h3
        rw [results_cell_tmp rfl]
        have hlv := run_loadVar_row (P := Tryz.prog) _ (w.heap.size + 1) 75 75 _ _ _ h1 Tryz.underlying75 rfl (by kernel_rfl)
        rw [h2, h3]
        simp [asAddr, hlv]
      have bs := below_set5 HB.out (show w.heap.size ≤ w.heap.size + 1 by omega) (.slice pa1 n pc1) (.slice ca1 n cc1) (.int .i8 lv) (.int .u8 sos) (.int .u8 eos)
      refine bodyPost_ret (hres _ _ hfin rfl rfl) rfl ⟨pa1, pc1, ca1, cc1, by rw [HV.out], ⟨HI.out.ps.away5 HAW1.out _ _ _ _ _, HI.out.cs.away5 HAW2.out _ _ _ _ _⟩, bs⟩

end Go.Proofs.YtjnidopbdjbbgaaGreat
