/-
  Slices of the call's own that lie apart; appends within a round. No function of the program in sight.
-/
import Derived.Test.YtjnidopbdjbbgaaGreatA05
import Derived.Test.YtjnidopbdjbbgaaGreatA00
import Derived.Test.YtjnidopbdjbbgaaGreatA06
import Derived.OwnWalkIn
import Derived.RangeFuncFrom
import Derived.WalkMore
section
namespace Go.Proofs.YtjnidopbdjbbgaaGreat
set_option linter.unusedVariables false
open Go.RowKit

/-- The block of a slice, where it has one. -/
def blk (a : Option Addr) : List Nat := (blockOf a).toList
theorem blk_mem {a : Option Addr} {g : Nat} : g ∈ blk a ↔ blockOf a = some g := by unfold blk; simp
theorem blk_none : blk none = [] := rfl
theorem blk_some (g o : Nat) : blk (some ⟨g, o, none⟩) = [g] := rfl

theorem Own.blk_lt {w : World} {B size n c : Nat} {a : Option Addr} {xs : List Value} (h : Own w B size a n c xs) : ∀ g ∈ blk a, B ≤ g ∧ g < w.heap.size := by
  intro g hg
  rw [blk_mem] at hg
  rcases h.row with ⟨h0, _⟩ | ⟨g', ha, h1, h2, _⟩
  · rw [h0] at hg; cases hg
  · rw [ha] at hg; cases hg; exact ⟨h1, h2⟩

theorem blk_swap {a a' : Option Addr} {s g : Nat} (hp : blockOf a' = blockOf a ∨ ∃ g, blockOf a' = some g ∧ s ≤ g) (hg : g ∈ blk a') : g ∈ blk a ∨ s ≤ g := by
  rw [blk_mem] at hg
  rcases hp with e | ⟨g', e, h⟩
  · rw [e] at hg
    exact .inl (blk_mem.2 hg)
  · rw [e] at hg
    cases hg
    exact .inr h
theorem Apped.blk {w w' : World} {a a' : Option Addr} {g : Nat} (h : Apped w w' a a') (hg : g ∈ blk a') : g ∈ blk a ∨ w.heap.size ≤ g := blk_swap h.place hg
theorem Apped.heap {w w' : World} {a a' : Option Addr} {o : Obj} (h : Apped (w.alloc o) w' a a') {k : Nat} (hk : k < w.heap.size) (hn : k ∉ Go.Proofs.YtjnidopbdjbbgaaGreat.blk a) : w'.heap[k]? = w.heap[k]? :=
  (h.grown.block k (by simp; omega) (fun e => hn (blk_mem.2 e.symm))).trans (Below.heap_alloc w o k hk)

/-- A turn of a block that holds no cells leaves it. -/
theorem Own.others {w w' : World} {row : Option Nat} {B size n c : Nat} {a : Option Addr} {xs : List Value} (h : Own w B size a n c xs) (hg : w.grownBy w' row) (hr : ∀ r, row = some r → ∃ o : Obj, w.heap[r]? = some o ∧ o.isCells = false) : Own w' B size a n c xs := by
  refine ⟨h.len, h.le, h.ml, h.row.imp id ?_⟩
  rintro ⟨g, ha, h1, h2, h3, h4⟩
  refine ⟨g, ha, h1, Nat.lt_of_lt_of_le h2 hg.size, fun j u hu => cell_kept (h3 j u hu) hg hr, fun j hj => ?_⟩
  obtain ⟨k1, k2⟩ := h4 j hj
  obtain ⟨u, hu⟩ := Option.isSome_iff_exists.1 k1
  exact ⟨by rw [cell_kept hu hg hr]; rfl, (frozen_kept hu hg hr).trans k2⟩
theorem cells_others {w w' : World} {row : Option Nat} {k : Nat} {cs : Array Value} {t : TypeId} {fr : Nat × Nat} (h : w.heap[k]? = some (.cells cs t fr)) (hg : w.grownBy w' row) (hr : ∀ r, row = some r → ∃ o : Obj, w.heap[r]? = some o ∧ o.isCells = false) : w'.heap[k]? = some (.cells cs t fr) :=
  (grownBy_keeps_cells hg hr h rfl).trans h
theorem StackAt.others {w w' : World} {row : Option Nat} {B sb : Nat} {pa : Option Addr} {pc : Nat} {s : St} (h : StackAt w B sb pa pc s) (hg : w.grownBy w' row) (hr : ∀ r, row = some r → ∃ o : Obj, w.heap[r]? = some o ∧ o.isCells = false) : StackAt w' B sb pa pc s :=
  ⟨cells_others h.box hg hr, h.own.others hg hr, h.apart, h.ge⟩

/-- What append leaves keeps whatever is no cells. -/
theorem Apped.others {w w' : World} {B size n c : Nat} {a a' : Option Addr} {xs : List Value} (h : Apped w w' a a') (ho : Own w B size a n c xs) (hc : 0 < c * size ∨ a = none) : KeepsOthers w w' :=
  KeepsOthers.of_grownBy h.grown fun j o hj hw => by
    rcases ho.row with ⟨h0, _⟩ | ⟨g, ha, h1, h2, h3, h4⟩
    · rw [h0] at hj; cases hj
    · rw [ha] at hj
      cases hj
      rcases hc with hc | hc
      · obtain ⟨k1, _⟩ := h4 0 hc
        obtain ⟨u, hu⟩ := Option.isSome_iff_exists.1 k1
        obtain ⟨o', ho', hc'⟩ := cells_of_cell hu
        simp only at ho'
        rw [hw] at ho'
        cases ho'
        exact hc'
      · rw [ha] at hc; cases hc

section
variable {F : Fence} {N : Nat} {P : Program} {w : World}
/-- append of one element of one cell, in a fenced walk. -/
theorem wpListIn_push {ops : Array Oper} {rest : List Oper} {o : Oper} {act : Act} {Q : Exit → Act → World → Prop} (hgd : o.guard = none) (s x : Operand) (t : TypeId)
    (ho : o.op = .call { callee := .builtin .append, args := #[s, x], argTypes := #[t, t] })
    (e : TypeId) (i : TypeInfo) (z : Value) (bytes : Nat) (ht : P.underlying t = some (.slice e)) (hi : P.info? e = some i) (hz : i.zero = some z) (hsize : i.size = 1) (hby : i.bytes = bytes) (hzs : z.cells = #[z]) (hz1 : z.oneCell' = true)
    (B : Nat) (a : Option Addr) (n c : Nat) (xs : List Value) (hs : act.eval s = .slice a n c) (W : World) (v : Value) (hw : w = W.alloc (.cells #[v] e)) (hown : Own W B 1 a n c xs)
    (b : Nat) (hx : act.eval x = .slice (some ⟨b, 0, none⟩) 1 1) (hb : b = W.heap.size) (hv : v.oneCell' = true)
    (h63 : n ≤ 1099511627776) (hby8 : bytes ≤ 64) (hB : B ≤ W.heap.size)
    (h : ∀ a' c' w', Own w' B 1 a' (n + 1) c' (xs ++ [v]) → Apped (W.alloc (.cells #[v] e)) w' a a' → Below B W w' → wpListIn F N P ops Q rest (act.put o.dst (.slice a' (n + 1) c')) w') : wpListIn F N P ops Q (o :: rest) act w := by
  subst hw
  have hbb : (n + 1) * bytes ≤ 140737488355328 := by
    have : (n + 1) * bytes ≤ (1099511627776 + 1) * 64 := Nat.mul_le_mul (by omega) hby8
    omega
  obtain ⟨a', c', w', hr, h2, h3⟩ := run_app (P := P) (w := W.alloc (.cells #[v] e)) t t o.type e i z 1 bytes ht hi hz hsize hby (by rw [hzs]; rfl) (by rw [hzs]; simpa using hz1) B a n c xs (hown.alloc _) _ 1 [v] (src_one ht v hv hb) (by simp only [maxLen]; omega) hbb (by simp; omega)
  refine wpListIn_plain hgd fun K hK' => ?_
  unfold Oper.wpIn
  refine ⟨?_, ?_⟩
  · simp [Oper.about, ho, resolve, Target.leads, Sem.run_pure]
  · rw [Oper.semAt_plain F _ _ (by rw [ho]; intro c hc'; cases hc')]
    simp [execOp, ho, resolve, invoke, builtin, hs, hx, hr, Result.andThen]
    exact hK' _ _ (h a' c' w' h2 h3 (((Below.refl B W).alloc hB _).trans (h3.below (hown.alloc _) (by simp; omega))))
end

end Go.Proofs.YtjnidopbdjbbgaaGreat
end
/-
  A sequence's classes that a weak rule goes over: what lies in memory; what stands ahead and behind: walked.
-/
section
namespace Go.Proofs.YtjnidopbdjbbgaaGreat
open Go.RowKit
set_option linter.unusedVariables false

/-- A sequence being turned: its box, its classes, what stands ahead of it. -/
structure WkAt (w wr : World) (wb B g c sos n : Nat) (xs : List Nat) : Prop where
  box : wr.heap[wb]? = some (.cells #[.slice (some ⟨g, 0, none⟩) n c, .int .u8 sos] 149)
  own : Own wr B 1 (some ⟨g, 0, none⟩) n c (xs.map u8V)
  ne : g ≠ wb
  kept : Kept (fun k => k = g) w wr
theorem WkAt.cells {w wr : World} {wb B g c sos n : Nat} {xs : List Nat} (h : WkAt w wr wb B g c sos n xs) : wr.cell? ⟨wb, 0, none⟩ = some (.slice (some ⟨g, 0, none⟩) n c) ∧ wr.cell? ⟨wb, 1, none⟩ = some (.int .u8 sos) := ⟨cells_at h.box 0, cells_at h.box 1⟩
theorem WkAt.len {w wr : World} {wb B g c sos n : Nat} {xs : List Nat} (h : WkAt w wr wb B g c sos n xs) : xs.length = n := by have := h.own.len; simpa using this
theorem Kept.setCell {S : Nat → Prop} {w wr : World} (h : Kept S w wr) {g : Nat} (hg : S g) (k : Nat) (v : Value) : Kept S w (wr.setCell ⟨g, k, none⟩ v) :=
  ⟨h.os, h.tape, h.output, by have := h.size; simpa using this, fun i hi hs => (Below.heap_setCell wr ⟨g, k, none⟩ v i (fun e => hs (by rw [show i = g from e]; exact hg))).trans (h.block i hi hs)⟩
theorem WkAt.store {w wr : World} {wb B g c sos n : Nat} {xs : List Nat} (h : WkAt w wr wb B g c sos n xs) (k d : Nat) : WkAt w (wr.setCell ⟨g, k, none⟩ (.int .u8 d)) wb B g c sos n (xs.set k d) := by
  refine ⟨heap_other h.box (Ne.symm h.ne) _, ?_, h.ne, h.kept.setCell rfl _ _⟩
  by_cases hk : k < n
  · have := h.own.stored k hk (u8V d)
    refine this.eqL ?_
    rw [List.map_set]
  · have hx : xs.set k d = xs := List.set_eq_of_length_le (by have := h.len; omega)
    rw [hx]
    refine ⟨h.own.len, h.own.le, h.own.ml, ?_⟩
    rcases h.own.row with ⟨h0, _⟩ | ⟨g', ha, h1, h2, h3, h4⟩
    · cases h0
    · cases ha
      refine .inr ⟨g, rfl, h1, by simpa using h2, fun j u hu => ?_, fun j hj => ?_⟩
      · have hj : j < (xs.map u8V).length := (List.getElem?_eq_some_iff.1 hu).1
        have := h.len
        rw [World.cell?_setCell_other _ _ _ _ (fun e => by have := congrArg Addr.off e; simp at this hj; omega)]
        exact h3 j u hu
      · rw [World.frozen?_setCell]
        refine ⟨?_, (h4 j hj).2⟩
        by_cases hjk : j = k
        · subst hjk
          obtain ⟨u', hu'⟩ := Option.isSome_iff_exists.1 (h4 j hj).1
          rw [World.cell?_setCell_same _ _ _ hu']
          rfl
        · rw [World.cell?_setCell_other _ _ _ _ (fun e => hjk (by have := congrArg Addr.off e; simp at this; omega))]
          exact (h4 j hj).1

/-- A list whose first k classes are turned. -/
def scanAt {σ : Type} (f : σ → Nat → Nat × σ) (s : σ) (l : List Nat) (k : Nat) : List Nat := scan f s (l.take k) ++ l.drop k
theorem scan_app {σ : Type} (f : σ → Nat → Nat × σ) (a b : List Nat) : ∀ s, scan f s (a ++ b) = scan f s a ++ scan f (scanSt f s a) b := by
  induction a with
  | nil => intro s; rfl
  | cons c a ih => intro s; simp [scan, scanSt, ih]
theorem scanSt_app {σ : Type} (f : σ → Nat → Nat × σ) (a b : List Nat) : ∀ s, scanSt f s (a ++ b) = scanSt f (scanSt f s a) b := by
  induction a with
  | nil => intro s; rfl
  | cons c a ih => intro s; simp [scanSt, ih]
theorem take_snoc {l : List Nat} {k x : Nat} (h : l[k]? = some x) : l.take (k + 1) = l.take k ++ [x] := by rw [List.take_add_one, h]; rfl
theorem scanSt_step {σ : Type} (f : σ → Nat → Nat × σ) (s : σ) {l : List Nat} {k x : Nat} (h : l[k]? = some x) : scanSt f s (l.take (k + 1)) = (f (scanSt f s (l.take k)) x).2 := by
  rw [take_snoc h, scanSt_app]
  rfl
theorem take_len {l : List Nat} {k x : Nat} (h : l[k]? = some x) : (l.take k).length = k := by
  have := (List.getElem?_eq_some_iff.1 h).1
  rw [List.length_take]
  omega
theorem scanAt_step {σ : Type} (f : σ → Nat → Nat × σ) (s : σ) {l : List Nat} {k x : Nat} (h : l[k]? = some x) : scanAt f s l (k + 1) = (scanAt f s l k).set k (f (scanSt f s (l.take k)) x).1 := by
  unfold scanAt
  rw [take_snoc h, scan_app, drop_get h, List.set_append_right _ _ (by rw [scan_len, take_len h]; exact Nat.le_refl _), scan_len, take_len h, Nat.sub_self, List.append_assoc]
  rfl
theorem scanAt_here {σ : Type} (f : σ → Nat → Nat × σ) (s : σ) {l : List Nat} {k x : Nat} (h : l[k]? = some x) : (scanAt f s l k)[k]? = some x := by
  unfold scanAt
  rw [drop_get h, List.getElem?_append_right (by rw [scan_len, take_len h]; exact Nat.le_refl _), scan_len, take_len h, Nat.sub_self]
  rfl
theorem scanAt_keep {σ : Type} (f : σ → Nat → Nat × σ) (s : σ) {l : List Nat} {k x : Nat} (h : l[k]? = some x) : (scanAt f s l k).set k x = scanAt f s l k := by
  have h1 := scanAt_here f s h
  obtain ⟨hk, e⟩ := List.getElem?_eq_some_iff.1 h1
  apply List.ext_getElem? 
  intro i
  rw [List.getElem?_set]
  split
  · rename_i e2
    subst e2
    exact h1.symm
  · rfl
theorem scanAt_all {σ : Type} (f : σ → Nat → Nat × σ) (s : σ) (l : List Nat) (k : Nat) (h : l.length ≤ k) : scanAt f s l k = scan f s l := by
  unfold scanAt
  rw [List.take_of_length_le h, List.drop_eq_nil_of_le h, List.append_nil]
theorem scan_map (g : Nat → Nat) (l : List Nat) : scan (fun (_ : Unit) c => (g c, ())) () l = l.map g := by
  induction l with
  | nil => rfl
  | cons c l ih => simp [scan, ih]

/-- What stands right ahead of a place. -/
def aheadOf (sos : Nat) (xs : List Nat) (k : Nat) : Nat := if k = 0 then sos else xs.getD (k - 1) 0
theorem w1_ahead (sos : Nat) (l : List Nat) (k : Nat) (hk : k ≤ l.length) : aheadOf sos (scanAt w1 sos l k) k = scanSt w1 sos (l.take k) := by
  have key : ∀ (a : List Nat) (s : Nat), a ≠ [] → (scan w1 s a).getLast? = some (scanSt w1 s a) := by
    intro a
    induction a with
    | nil => intro s h; exact absurd rfl h
    | cons c a ih =>
      intro s _
      cases a with
      | nil => rfl
      | cons d a =>
        have := ih (w1 s c).2 (by simp)
        rw [scan, scanSt, List.getLast?_cons, this]
        rfl
  unfold aheadOf
  cases k with
  | zero => rfl
  | succ k =>
    have hne : l.take (k + 1) ≠ [] := by
      intro e
      have := congrArg List.length e
      rw [List.length_take, List.length_nil] at this
      omega
    have h1 := key (l.take (k + 1)) sos hne
    have hl : (scan w1 sos (l.take (k + 1))).length = k + 1 := by rw [scan_len, List.length_take]; omega
    rw [if_neg (by omega), Nat.add_sub_cancel, List.getD_eq_getElem?_getD]
    unfold scanAt
    rw [List.getElem?_append_left (by omega)]
    rw [List.getLast?_eq_getElem?, hl, Nat.add_sub_cancel] at h1
    rw [h1]
    rfl

set_option maxRecDepth 20000
set_option maxHeartbeats 4000000
theorem ahead_any (w W : World) (B wb g c sos n : Nat) (xs : List Nat) (k st : Nat) (hn : n ≤ 1099511627776) (h : WkAt w W wb B g c sos n xs) (hk : k ≤ n) (hst : aheadOf sos xs k = st) :
    Calls Tryz.prog 117 #[.pointer (some ⟨wb, 0, none⟩), .int .i64 k] W fun e w' => e = .returned (.int .u8 st) ∧ W = w' := by
  obtain ⟨c0, c1⟩ := h.cells
  unfold aheadOf at hst
  cases k with
  | zero =>
    rw [if_pos rfl] at hst
    subst hst
    clear h hk
    go_enter Tryz.func117, Tryz.ntmps117
    go_wp2
    go_ret
    exact ⟨rfl, rfl⟩
  | succ k =>
    rw [if_neg (by omega), Nat.add_sub_cancel, List.getD_eq_getElem?_getD] at hst
    have hlt : k < xs.length := by rw [h.len]; omega
    rw [List.getElem?_eq_getElem hlt] at hst
    simp only [Option.getD_some] at hst
    have hcx := (h.own.getm (List.getElem?_eq_getElem hlt)).1
    rw [hst] at hcx
    unfold u8V at hcx
    have hz : (((k + 1 : Nat) : Int) == 0) = false := by simp; omega
    have hk0 : (0 : Int) ≤ (k : Int) := by omega
    have hk1 : (k : Int) < (n : Int) := by omega
    have hwr := IntWalk.i64_in (k : Int) (by omega)
    clear h hk hst hlt
    go_enter Tryz.func117, Tryz.ntmps117
    go_wp2
    go_ret
    exact ⟨rfl, rfl⟩

/-- What stands right behind a place; 0: nothing does. -/
theorem behind_any (w W : World) (B wb g c sos n : Nat) (xs : List Nat) (k : Nat) (hn : n ≤ 1099511627776) (h : WkAt w W wb B g c sos n xs) (hk : k < n) :
    Calls Tryz.prog 118 #[.pointer (some ⟨wb, 0, none⟩), .int .i64 k] W fun e w' => e = .returned (.int .u8 (xs.getD (k + 1) 0 : Nat)) ∧ W = w' := by
  obtain ⟨c0, c1⟩ := h.cells
  have hlen := h.len
  have hk0 : (0 : Int) ≤ (k : Int) := by omega
  by_cases hlast : k + 1 = n
  · have hv : xs.getD (k + 1) 0 = 0 := by rw [List.getD_eq_getElem?_getD, List.getElem?_eq_none (by omega)]; rfl
    rw [hv]
    have hz : ((k : Int) + 1 == (n : Int)) = true := by simp; omega
    have hwr := IntWalk.i64_in ((k : Int) + 1) (by omega)
    clear h hk hlast hv hlen
    go_enter Tryz.func118, Tryz.ntmps118
    go_wp2
    go_ret
    exact ⟨rfl, rfl⟩
  · have hlt : k + 1 < xs.length := by omega
    have hv : xs.getD (k + 1) 0 = xs[k + 1] := by rw [List.getD_eq_getElem?_getD, List.getElem?_eq_getElem hlt]; rfl
    have hcx := (h.own.getm (List.getElem?_eq_getElem hlt)).1
    rw [← hv] at hcx
    unfold u8V at hcx
    generalize xs.getD (k + 1) 0 = v at *
    have hz : ((k : Int) + 1 == (n : Int)) = false := by simp; omega
    have hwr := IntWalk.i64_in ((k : Int) + 1) (by omega)
    have hk1 : (k : Int) + 1 < (n : Int) := by omega
    have hk2 : ((k : Int) + 1).toNat = k + 1 := by omega
    clear h hk hlast hv hlen hlt
    go_enter Tryz.func118, Tryz.ntmps118
    go_wp2
    go_ret
    exact ⟨rfl, rfl⟩

end Go.Proofs.YtjnidopbdjbbgaaGreat
end
/-
  The weak rule W4: walked.
-/
section
namespace Go.Proofs.YtjnidopbdjbbgaaGreat
open Go.RowKit
set_option linter.unusedVariables false

/-- What W4 makes of a class: ahead (0: nothing), itself, behind. -/
def d4 (x c : Nat) (b : Option Nat) : Nat := if (c = 5 ∨ c = 8) ∧ x ≠ 0 ∧ b = some x ∧ (x = 4 ∨ x = 7 ∧ c = 8) then x else c
theorem w4_len (l : List Nat) : ∀ x, (w4 x l).length = l.length := by
  induction l with
  | nil => intro x; rfl
  | cons c l ih => intro x; simp [w4, ih]
theorem w4_at (l : List Nat) : ∀ (x k c : Nat), l[k]? = some c → (w4 x l)[k]? = some (d4 (if k = 0 then x else (w4 x l).getD (k - 1) 0) c l[k + 1]?) := by
  induction l with
  | nil => intro x k c h; simp at h
  | cons y l ih =>
    intro x k c h
    cases k with
    | zero =>
      simp at h
      subst h
      rw [if_pos rfl]
      show some _ = some _
      unfold d4
      rw [show (y :: l)[0 + 1]? = l.head? from by cases l <;> rfl]
    | succ k =>
      rw [w4, List.getElem?_cons_succ, ih _ k c (by simpa using h)]
      cases k with
      | zero => simp
      | succ k => simp [List.getD_eq_getElem?_getD]
/-- A list whose first k classes W4 has gone over. -/
def fourAt (l : List Nat) (k : Nat) : List Nat := (w4 0 l).take k ++ l.drop k
theorem fourAt_here {l : List Nat} {k x : Nat} (h : l[k]? = some x) : (fourAt l k)[k]? = some x := by
  have hk := (List.getElem?_eq_some_iff.1 h).1
  unfold fourAt
  rw [List.getElem?_append_right (by rw [List.length_take, w4_len]; omega), List.length_take, w4_len, Nat.min_eq_left (by omega), Nat.sub_self, drop_get h]
  rfl
theorem fourAt_behind (l : List Nat) (k : Nat) (hk : k < l.length) : (fourAt l k).getD (k + 1) 0 = l.getD (k + 1) 0 := by
  unfold fourAt
  rw [List.getD_eq_getElem?_getD, List.getD_eq_getElem?_getD, List.getElem?_append_right (by rw [List.length_take, w4_len]; omega), List.length_take, w4_len, Nat.min_eq_left (by omega), List.getElem?_drop]
  congr 2
  omega
theorem fourAt_ahead (sos : Nat) (l : List Nat) (k : Nat) (hk : k + 1 < l.length) : aheadOf sos (fourAt l (k + 1)) (k + 1) = (w4 0 l).getD k 0 := by
  unfold aheadOf fourAt
  rw [if_neg (by omega), Nat.add_sub_cancel, List.getD_eq_getElem?_getD, List.getD_eq_getElem?_getD, List.getElem?_append_left (by rw [List.length_take, w4_len]; omega), List.getElem?_take, if_pos (by omega)]
theorem fourAt_step {l : List Nat} {k x : Nat} (h : l[k]? = some x) : fourAt l (k + 1) = (fourAt l k).set k (d4 (if k = 0 then 0 else (w4 0 l).getD (k - 1) 0) x l[k + 1]?) := by
  have hk := (List.getElem?_eq_some_iff.1 h).1
  have h4 := w4_at l 0 k x h
  unfold fourAt
  rw [List.take_add_one, h4, drop_get h, List.set_append_right _ _ (by rw [List.length_take, w4_len]; omega), List.length_take, w4_len, Nat.min_eq_left (by omega), Nat.sub_self]
  simp
theorem set_keep {l : List Nat} {k x : Nat} (h : l[k]? = some x) : l.set k x = l := by
  obtain ⟨hk, e⟩ := List.getElem?_eq_some_iff.1 h
  apply List.ext_getElem?
  intro i
  rw [List.getElem?_set]
  split
  · rename_i e2; subst e2; rw [h]
  · rfl
theorem w4_pos (l : List Nat) (h : ∀ x ∈ l, 1 ≤ x ∧ x ≤ 23) (k : Nat) (hk : k < l.length) : 1 ≤ (w4 0 l).getD k 0 ∧ (w4 0 l).getD k 0 ≤ 23 := by
  have h1 := (w4_each l 0).2 k l[k] ((w4 0 l)[k]'(by rw [w4_len]; exact hk)) (List.getElem?_eq_getElem _) (List.getElem?_eq_getElem _)
  have h2 := h l[k] (List.getElem_mem _)
  rw [List.getD_eq_getElem?_getD, List.getElem?_eq_getElem (by rw [w4_len]; exact hk)]
  simp only [Option.getD_some]
  omega

set_option maxRecDepth 20000
set_option maxHeartbeats 4000000
theorem between_any (w : World) (B wb g c : Nat) (sos : Nat) (l : List Nat) (hl : l.length ≤ 1099511627776) (h23 : ∀ x ∈ l, 1 ≤ x ∧ x ≤ 23) (h : WkAt w w wb B g c sos l.length l) :
    Calls Tryz.prog 78 #[.pointer (some ⟨wb, 0, none⟩)] w fun e w' => e = .returned (.tuple #[]) ∧ WkAt w w' wb B g c sos l.length (w4 0 l) := by
  have H23 := Lib.hid h23
  have HW := Lib.hid h
  obtain ⟨n, hn⟩ : ∃ n, n = l.length := ⟨_, rfl⟩
  have HN := Lib.hid hn
  rw [← hn] at hl HW ⊢
  obtain ⟨c0, c1⟩ := HW.out.cells
  clear h23 h hn
  go_enter Tryz.func78, Tryz.ntmps78
  go_wp2
  go_loopg [10] n (fun r i wr => ∃ k : Nat, k + r = n ∧ i = .int .i64 k ∧ WkAt w wr wb B g c sos n (fourAt l k))
  case atStart => exact ⟨0, by omega, rfl, HW.out⟩
  case round =>
    obtain ⟨k, hk, rfl, hA⟩ := hrel
    by_cases hlt : k < n
    · obtain ⟨x, hx⟩ : ∃ x, l[k]? = some x := ⟨_, List.getElem?_eq_getElem (by rw [← HN.out]; exact hlt)⟩
      have hx23 := H23.out x (List.mem_of_getElem? hx)
      obtain ⟨d0, d1⟩ := hA.cells
      obtain ⟨hcx, hfx⟩ := hA.own.getm (fourAt_here hx)
      unfold u8V at hcx
      have HX := Lib.hid hx
      have HA := Lib.hid hA
      have HK := Lib.hid hk
      have hk0 : (0 : Int) ≤ (k : Int) := by omega
      have hk1 : (k : Int) < (n : Int) := by omega
      have HSAME : Hid (d4 (if k = 0 then 0 else (w4 0 l).getD (k - 1) 0) x l[k + 1]? = x → WkAt w wr wb B g c sos n (fourAt l (k + 1))) := Lib.hid (fun hd => by
        rw [fourAt_step hx, hd, set_keep (fourAt_here hx)]
        exact hA)
      have HTURN : Hid (∀ v, d4 (if k = 0 then 0 else (w4 0 l).getD (k - 1) 0) x l[k + 1]? = v → WkAt w (wr.setCell ⟨g, k, none⟩ (.int .u8 v)) wb B g c sos n (fourAt l (k + 1))) := Lib.hid (fun v hd => by
        rw [fourAt_step hx, hd]
        exact hA.store k v)
      clear hx hA
      by_cases hc : x = 5 ∨ x = 8
      · cases k with
        | zero =>
          have HS2 := Lib.hid (HSAME.out (by unfold d4; simp))
          rcases hc with rfl | rfl
          all_goals
            go_wp2
            go_roundg (gk - 1)
            case measure => have := HK.out; omega
            case rel => exact ⟨1, by have := HK.out; omega, by go_num, HS2.out⟩
        | succ k =>
          have hkz : (((k + 1 : Nat) : Int) == 0) = false := by simp; omega
          obtain ⟨st, hst⟩ : ∃ st, st = (w4 0 l).getD k 0 := ⟨_, rfl⟩
          have hst1 := w4_pos l H23.out k (by rw [← HN.out]; omega)
          rw [← hst] at hst1
          have HAH := Lib.hid (ahead_any w wr B wb g c sos n (fourAt l (k + 1)) (k + 1) st hl HA.out (by omega) (by rw [fourAt_ahead sos l k (by rw [← HN.out]; omega), hst]))
          have HBH := Lib.hid (behind_any w wr B wb g c sos n (fourAt l (k + 1)) (k + 1) hl HA.out (by omega))
          rw [fourAt_behind l (k + 1) (by rw [← HN.out]; omega)] at HBH
          obtain ⟨bh, hbh⟩ : ∃ bh, bh = l.getD (k + 1 + 1) 0 := ⟨_, rfl⟩
          rw [← hbh] at HBH
          have hbs : l[k + 1 + 1]? = some st ↔ bh = st := by
            rw [hbh, List.getD_eq_getElem?_getD]
            cases l[k + 1 + 1]? with
            | none => simp; omega
            | some y => simp
          have hd4 : ∀ y : Nat, (if k + 1 = 0 then 0 else (w4 0 l).getD (k + 1 - 1) 0) = st := fun y => by rw [if_neg (by omega), Nat.add_sub_cancel, hst]
          by_cases hq : bh = st
          · subst hq
            have hqq : ((bh : Int) != (bh : Int)) = false := by simp
            by_cases h4 : bh = 4
            · have HV : Hid (d4 (if k + 1 = 0 then 0 else (w4 0 l).getD (k + 1 - 1) 0) x l[k + 1 + 1]? = 4) := Lib.hid (by rw [hd4 0, h4, hbs.2 rfl, h4]; unfold d4; rw [if_pos ⟨hc, by omega, rfl, .inl rfl⟩])
              subst h4
              clear hbs hd4 hst hbh
              rcases hc with rfl | rfl
              all_goals
                go_wp2_with (first | (go_at_call 117; refine HAH.out.mono ?_; rintro e w1 ⟨rfl, rfl⟩) | (go_at_call 118; refine HBH.out.mono ?_; rintro e w1 ⟨rfl, rfl⟩))
                go_roundg (gk - 1)
                case measure => have := HK.out; omega
                case rel => exact ⟨k + 1 + 1, by have := HK.out; omega, by go_num, HTURN.out _ HV.out⟩
            · have e4 : ((bh : Int) == 4) = false := by simp; omega
              rcases hc with rfl | rfl
              · have HV := Lib.hid (HSAME.out (by rw [hd4 0, hbs.2 rfl]; unfold d4; rw [if_neg (by omega)]))
                clear hbs hd4 hst hbh
                go_wp2_with (first | (go_at_call 117; refine HAH.out.mono ?_; rintro e w1 ⟨rfl, rfl⟩) | (go_at_call 118; refine HBH.out.mono ?_; rintro e w1 ⟨rfl, rfl⟩))
                all_goals
                  go_roundg (gk - 1)
                  case measure => have := HK.out; omega
                  case rel => exact ⟨k + 1 + 1, by have := HK.out; omega, by go_num, HV.out⟩
              · by_cases h7 : bh = 7
                · have HV : Hid (d4 (if k + 1 = 0 then 0 else (w4 0 l).getD (k + 1 - 1) 0) 8 l[k + 1 + 1]? = 7) := Lib.hid (by rw [hd4 0, h7, hbs.2 rfl, h7]; rfl)
                  subst h7
                  clear hbs hd4 hst hbh
                  go_wp2_with (first | (go_at_call 117; refine HAH.out.mono ?_; rintro e w1 ⟨rfl, rfl⟩) | (go_at_call 118; refine HBH.out.mono ?_; rintro e w1 ⟨rfl, rfl⟩))
                  go_roundg (gk - 1)
                  case measure => have := HK.out; omega
                  case rel => exact ⟨k + 1 + 1, by have := HK.out; omega, by go_num, HTURN.out _ HV.out⟩
                · have e7 : ((bh : Int) == 7) = false := by simp; omega
                  have HV := Lib.hid (HSAME.out (by rw [hd4 0, hbs.2 rfl]; unfold d4; rw [if_neg (by omega)]))
                  clear hbs hd4 hst hbh h7 h4
                  go_wp2_with (first | (go_at_call 117; refine HAH.out.mono ?_; rintro e w1 ⟨rfl, rfl⟩) | (go_at_call 118; refine HBH.out.mono ?_; rintro e w1 ⟨rfl, rfl⟩))
                  go_roundg (gk - 1)
                  case measure => have := HK.out; omega
                  case rel => exact ⟨k + 1 + 1, by have := HK.out; omega, by go_num, HV.out⟩
          · have hqq : ((st : Int) != (bh : Int)) = true := by simp; omega
            have HV := Lib.hid (HSAME.out (by rw [hd4 0]; unfold d4; rw [if_neg (fun hh => hq (hbs.1 hh.2.2.1))]))
            clear hbs hd4 hst hbh hq
            rcases hc with rfl | rfl
            all_goals
              go_wp2_with (first | (go_at_call 117; refine HAH.out.mono ?_; rintro e w1 ⟨rfl, rfl⟩) | (go_at_call 118; refine HBH.out.mono ?_; rintro e w1 ⟨rfl, rfl⟩))
              go_roundg (gk - 1)
              case measure => have := HK.out; omega
              case rel => exact ⟨k + 1 + 1, by have := HK.out; omega, by go_num, HV.out⟩
      · have e5 : ((x : Int) != 5) = true := by simp; omega
        have e8 : ((x : Int) != 8) = true := by simp; omega
        have HS2 := Lib.hid (HSAME.out (by unfold d4; rw [if_neg (by omega)]))
        clear hc
        go_wp2
        all_goals
          go_roundg (gk - 1)
          case measure => have := HK.out; omega
          case rel => exact ⟨k + 1, by have := HK.out; omega, by go_num, HS2.out⟩
    · obtain rfl : k = n := by have := hk; omega
      have HA := Lib.hid hA
      clear hA
      go_wp2
      go_end0
      refine ⟨rfl, ?_⟩
      have := HA.out
      unfold fourAt at this
      rw [List.take_of_length_le (by rw [w4_len, HN.out]; exact Nat.le_refl _), List.drop_eq_nil_of_le (by rw [HN.out]; exact Nat.le_refl _), List.append_nil] at this
      exact this

end Go.Proofs.YtjnidopbdjbbgaaGreat
end
/-
  The weak rule W5: walked.
-/
section
namespace Go.Proofs.YtjnidopbdjbbgaaGreat
open Go.RowKit
set_option linter.unusedVariables false

/-- What a row of ET becomes. -/
def etOf (x : Nat) (rest : List Nat) : Nat := if x = 4 ∨ rest.head? = some 4 then 4 else 6
theorem w5_row (t : Nat) : ∀ (x n : Nat) (rest : List Nat), w5 x n (List.replicate t 6 ++ rest) = w5 x (n + t) rest := by
  induction t with
  | zero => intro x n rest; rfl
  | succ t ih =>
    intro x n rest
    rw [List.replicate_succ, List.cons_append, w5, if_pos rfl, ih]
    congr 1
    omega
theorem w5_end (x t v : Nat) (rest : List Nat) (h : rest.head? ≠ some 6) (hv : v = etOf x rest) : w5 x t rest = List.replicate t v ++ w5 v 0 rest := by
  subst hv
  unfold etOf
  cases rest with
  | nil =>
    rw [w5, w5]
    simp
  | cons c r =>
    have hc : c ≠ 6 := by simpa using h
    rw [w5, if_neg hc, w5, if_neg hc]
    simp
theorem row_split (l : List Nat) : ∃ t rest, l = List.replicate t 6 ++ rest ∧ rest.head? ≠ some 6 := by
  induction l with
  | nil => exact ⟨0, [], rfl, by simp⟩
  | cons c l ih =>
    by_cases h : c = 6
    · obtain ⟨t, rest, h1, h2⟩ := ih
      exact ⟨t + 1, rest, by rw [List.replicate_succ, List.cons_append, ← h1, h], h2⟩
    · exact ⟨0, c :: l, rfl, by simpa using h⟩

/-- Between two rows: what is done, what is held. -/
structure Done (l : List Nat) (done rest : List Nat) (x : Nat) : Prop where
  eq : w5 0 0 l = done ++ w5 x 0 rest
  last : done.getLast?.getD 0 = x
  len : done.length + rest.length = l.length
theorem Done.one {l done rest : List Nat} {x c : Nat} (h : Done l done (c :: rest) x) (hc : c ≠ 6) : Done l (done ++ [c]) rest c := by
  refine ⟨?_, by simp, ?_⟩
  · rw [h.eq, w5, if_neg hc]
    simp
  · have := h.len
    simp at this ⊢
    omega
theorem Done.row {l done rest : List Nat} {x t : Nat} (h : Done l done (List.replicate (t + 1) 6 ++ rest) x) (hr : rest.head? ≠ some 6) : Done l (done ++ List.replicate (t + 1) (etOf x rest)) rest (etOf x rest) := by
  refine ⟨?_, ?_, ?_⟩
  · rw [h.eq, w5_row, Nat.zero_add, w5_end x (t + 1) _ rest hr rfl, List.append_assoc]
  · rw [List.getLast?_append]
    simp [List.getLast?_replicate]
  · have := h.len
    simp at this ⊢
    omega

theorem app_get {a b : List Nat} {k : Nat} : (a ++ b)[a.length + k]? = b[k]? := by rw [List.getElem?_append_right (by omega), Nat.add_sub_cancel_left]
theorem last_get {done rest : List Nat} {x : Nat} (h : done.getLast?.getD 0 = x) (hp : 0 < done.length) : (done ++ rest)[done.length - 1]? = some x := by
  rw [List.getElem?_append_left (by omega), ← List.getLast?_eq_getElem?]
  cases hq : done.getLast? with
  | none => rw [List.getLast?_eq_none_iff] at hq; rw [hq] at hp; simp at hp
  | some y => rw [hq] at h; simp at h; rw [h]

set_option maxRecDepth 20000
set_option maxHeartbeats 4000000
theorem ends_any (w : World) (B wb g c : Nat) (sos : Nat) (l : List Nat) (hl : l.length ≤ 1099511627776) (h : WkAt w w wb B g c sos l.length l) :
    Calls Tryz.prog 79 #[.pointer (some ⟨wb, 0, none⟩)] w fun e w' => e = .returned (.tuple #[]) ∧ WkAt w w' wb B g c sos l.length (w5 0 0 l) := by
  have HW := Lib.hid h
  obtain ⟨n, hn⟩ : ∃ n, n = l.length := ⟨_, rfl⟩
  have HN := Lib.hid hn
  rw [← hn] at hl HW ⊢
  obtain ⟨c0, c1⟩ := HW.out.cells
  clear h hn
  go_enter Tryz.func79, Tryz.ntmps79
  go_wp2
  try go_step3
  try go_wp2
  go_loopg [2] n (fun r i wr => ∃ (done rest : List Nat) (x : Nat), rest.length = r ∧ i = .int .i64 done.length ∧ Done l done rest x ∧ WkAt w wr wb B g c sos n (done ++ rest))
  case atStart => exact ⟨[], l, 0, HN.out.symm, rfl, ⟨rfl, rfl, by simp⟩, HW.out⟩
  case round =>
    obtain ⟨done, rest, x, hr, rfl, hD, hA⟩ := hrel
    obtain ⟨d0, d1⟩ := hA.cells
    have hlen := hD.len
    cases rest with
    | nil =>
      have HD := Lib.hid hD
      have HA := Lib.hid hA
      simp only [List.length_nil] at hlen
      have hki : (n : Int) ≤ (done.length : Int) := by have := HN.out; omega
      clear hD hA hlen hr
      go_wp2
      go_end0
      refine ⟨rfl, ?_⟩
      have h1 := HD.out.eq
      rw [show w5 x 0 [] = [] from rfl, List.append_nil] at h1
      have h2 := HA.out
      rw [List.append_nil, ← h1] at h2
      exact h2
    | cons y rest =>
      simp only [List.length_cons] at hlen hr
      have hki : (done.length : Int) < (n : Int) := by have := HN.out; omega
      have hk0 : (0 : Int) ≤ (done.length : Int) := by omega
      obtain ⟨hcx, hfx⟩ := hA.own.getm (k := done.length) (x := y) (by have := app_get (a := done) (b := y :: rest) (k := 0); exact this)
      unfold u8V at hcx
      by_cases hy : y = 6
      · subst hy
        obtain ⟨G, hG⟩ : ∃ G, G = gk := ⟨_, rfl⟩
        subst hG
        obtain ⟨t, rest2, hrow, hr2⟩ := row_split rest
        subst hrow
        have HD := Lib.hid hD
        have HA := Lib.hid hA
        have HR := Lib.hid hr
        have HLEN := Lib.hid hlen
        have HR2 := Lib.hid hr2
        clear hD hA hlen hr hr2
        go_wp2
        go_step3
        go_wp2
        go_step3
        go_wp2
        obtain ⟨k, hk⟩ : ∃ k, k = done.length := ⟨_, rfl⟩
        rw [← hk]
        have HKK := Lib.hid hk
        rw [← hk] at hki hk0
        have HROW : Hid (∀ j, j ≤ t → (done ++ 6 :: (List.replicate t 6 ++ rest2))[k + j]? = some 6) := Lib.hid fun j hj => by
          rw [hk, app_get]
          cases j with
          | zero => rfl
          | succ j => rw [List.getElem?_cons_succ, List.getElem?_append_left (by simp; omega), List.getElem?_replicate, if_pos (by omega)]
        have HEND : Hid ((done ++ 6 :: (List.replicate t 6 ++ rest2))[k + (t + 1)]? = rest2.head?) := Lib.hid (by
          rw [hk, app_get, List.getElem?_cons_succ, List.getElem?_append_right (by simp), List.length_replicate, Nat.sub_self]
          cases rest2 <;> rfl)
        have HNL : Hid (k + (t + 1) + rest2.length = n) := Lib.hid (by have h1 := HLEN.out; have h2 := HN.out; rw [List.length_append, List.length_replicate] at h1; omega)
        clear hk hcx hfx
        have HNS : Hid (∀ v, etOf x rest2 = v → Done l (done ++ List.replicate (t + 1) v) rest2 v) := Lib.hid (fun v hv => by have := (show Done l done (List.replicate (t + 1) 6 ++ rest2) x from by have := HD.out; rwa [List.replicate_succ, List.cons_append]).row HR2.out; rwa [hv] at this)
        have HLAST : Hid (0 < done.length → (done ++ 6 :: (List.replicate t 6 ++ rest2))[done.length - 1]? = some x) := Lib.hid (fun hp => last_get HD.out.last hp)
        have HX0 : Hid (done.length = 0 → x = 0) := Lib.hid (fun hp => by have := HD.out.last; rw [List.eq_nil_of_length_eq_zero hp] at this; exact this.symm)
        go_loopg [3] (t + 1) (fun r i wr2 => ∃ j, j + r = t + 1 ∧ i = .int .i64 ((k + j : Nat) : Int) ∧ wr2 = wr)
        case atStart => exact ⟨0, by omega, rfl, rfl⟩
        case round =>
          obtain ⟨j, hj, rfl, rfl⟩ := hrel
          by_cases hjt : j ≤ t
          · obtain ⟨hcj, _⟩ := HA.out.own.getm (HROW.out j hjt)
            unfold u8V at hcj
            have hjn : (((k + j : Nat) : Int) == (n : Int)) = false := by have := HNL.out; simp; omega
            have hjn2 : ((k + j : Nat) : Int) < (n : Int) := by have := HNL.out; omega
            have hj0 : (0 : Int) ≤ ((k + j : Nat) : Int) := by omega
            have HJI : Hid (((k + j : Nat) : Int) + 1 = ((k + (j + 1) : Nat) : Int)) := Lib.hid (by omega)
            have HJ := Lib.hid hj
            have HJT := Lib.hid hjt
            obtain ⟨kj, hkj⟩ : ∃ kj, kj = k + j := ⟨_, rfl⟩
            rw [← hkj] at hcj hjn hjn2 hj0 HJI ⊢
            have hkj2 : (kj : Int) ≤ 1099511627776 := by omega
            clear hkj hj hjt
            go_wp2
            go_roundg (gk - 1)
            case measure => have := HJ.out; have := HJT.out; omega
            case rel => exact ⟨j + 1, by have := HJ.out; have := HJT.out; omega, by rw [← HJI.out], rfl⟩
          · obtain rfl : j = t + 1 := by omega
            clear hj hjt
            cases rest2 with
            | nil =>
              have hto : (((k + (t + 1) : Nat) : Int) == (n : Int)) = true := by have h1 := HNL.out; simp at h1; simp; omega
              have hto2 : (n : Int) ≤ ((k + (t + 1) : Nat) : Int) := by have h1 := HNL.out; simp at h1; omega
              obtain ⟨kt, hkt⟩ : ∃ kt, kt = k + (t + 1) := ⟨_, rfl⟩
              rw [← hkt] at hto hto2 ⊢
              have HKT := Lib.hid hkt
              clear hkt
              by_cases hk00 : k = 0
              · have hx4 : x ≠ 4 := by rw [HX0.out (by rw [← HKK.out]; exact hk00)]; decide
                have hkz : (k : Int) ≤ 0 := by omega
                have hv : etOf x [] = 6 := by unfold etOf; rw [if_neg (by simp; exact hx4)]
                have HD2 := Lib.hid (HNS.out 6 hv)
                have HB3 : Hid (WkAt w wr wb B g c sos n ((done ++ List.replicate (t + 1) 6) ++ [])) := Lib.hid (by have h := HA.out; rw [List.append_assoc, List.replicate_succ, List.cons_append]; exact h)
                clear hv
                go_wp2
                try rw [Exit.noGoto_normal]
                try go_wp2
                go_roundg (G - (t + 1))
                case measure => have h1 := HR.out; rw [List.length_append, List.length_replicate] at h1; omega
                case rel => exact ⟨done ++ List.replicate (t + 1) 6, [], 6, by have h1 := HR.out; rw [List.length_append, List.length_replicate] at h1;  omega, by have h1 := HKK.out; have h2 := HKT.out; rw [List.length_append, List.length_replicate]; congr 1; omega, HD2.out, HB3.out⟩
              · have hkz : (0 : Int) < (k : Int) := by omega
                obtain ⟨k1, hk1⟩ : ∃ k1, k = k1 + 1 := ⟨k - 1, by omega⟩
                have hcl := HLAST.out (by rw [← HKK.out]; omega)
                rw [← HKK.out, show k - 1 = k1 from by omega] at hcl
                have hcl2 := (HA.out.own.getm hcl).1
                unfold u8V at hcl2
                have hkw := IntWalk.i64_in (k1 : Int) (by omega)
                have hkw2 : (k : Int) - 1 = (k1 : Int) := by omega
                have hk1a : (0 : Int) ≤ (k1 : Int) := by omega
                have hk1b : (k1 : Int) < (n : Int) := by omega
                clear hk1 hcl hk00
                by_cases hx4 : x = 4
                · rw [hx4] at hcl2
                  have hv : etOf x [] = 4 := by unfold etOf; rw [if_pos (.inl hx4)]
                  have HD2 := Lib.hid (HNS.out 4 hv)
                  clear hv
                  go_wp2
                  go_loopg [4] (t + 1) (fun r i wr2 => ∃ q, q + r = t + 1 ∧ i = .int .i64 ((k + q : Nat) : Int) ∧ WkAt w wr2 wb B g c sos n ((done ++ List.replicate q 4) ++ (List.replicate (t + 1 - q) 6 ++ [])))
                  case atStart => exact ⟨0, by omega, by simp, by have h := HA.out; rw [List.replicate_zero, List.append_nil, Nat.sub_zero, List.replicate_succ, List.cons_append]; exact h⟩
                  case round =>
                    obtain ⟨q, hq, rfl, hB⟩ := hrel
                    obtain ⟨b0, b1⟩ := hB.cells
                    by_cases hql : q < t + 1
                    · obtain ⟨m, hm⟩ : ∃ m, t + 1 - q = m + 1 := ⟨t - q, by omega⟩
                      have hsplit : (done ++ List.replicate q 4) ++ (List.replicate (t + 1 - q) 6 ++ []) = (done ++ List.replicate q 4) ++ 6 :: (List.replicate (t + 1 - (q + 1)) 6 ++ []) := by rw [hm, show t + 1 - (q + 1) = m from by omega, List.replicate_succ]; rfl
                      have hlq : (done ++ List.replicate q 4).length = k + q := by have := HKK.out; simp; omega
                      have hset : ((done ++ List.replicate q 4) ++ (List.replicate (t + 1 - q) 6 ++ [])).set (k + q) 4 = (done ++ List.replicate (q + 1) 4) ++ (List.replicate (t + 1 - (q + 1)) 6 ++ []) := by
                        rw [hsplit, List.set_append_right _ _ (by omega), hlq, Nat.sub_self, List.replicate_succ']
                        simp
                      have hcq := hB.own.getm (k := k + q) (x := 6) (by rw [hsplit, ← hlq]; have := app_get (a := done ++ List.replicate q 4) (b := 6 :: (List.replicate (t + 1 - (q + 1)) 6 ++ [])) (k := 0); exact this)
                      obtain ⟨hcq1, hcq2⟩ := hcq
                      unfold u8V at hcq1
                      have hq1 : ((k + q : Nat) : Int) < ((k + (t + 1) : Nat) : Int) := by omega
                      have hq2 : ((k + q : Nat) : Int) < (n : Int) := by have := HNL.out; omega
                      have hq3 : (0 : Int) ≤ ((k + q : Nat) : Int) := by omega
                      have hq4 : ((k + q : Nat) : Int) ≤ 1099511627776 := by have := HNL.out; omega
                      have HB2 := Lib.hid (hB.store (k + q) 4)
                      have HSET := Lib.hid hset
                      have HQ := Lib.hid hq
                      have HQI : Hid (((k + q : Nat) : Int) + 1 = ((k + (q + 1) : Nat) : Int)) := Lib.hid (by omega)
                      have HQL := Lib.hid hql
                      clear hB hset hsplit hlq hm hq hql
                      obtain ⟨kq, hkq⟩ : ∃ kq, kq = k + q := ⟨_, rfl⟩
                      rw [← hkq] at hcq1 hcq2 hq1 hq2 hq3 hq4 HB2 HSET HQI ⊢
                      rw [← HKT.out] at hq1
                      clear hkq
                      go_wp2
                      go_roundg (gk - 1)
                      case measure => have := HQ.out; have := HQL.out; omega
                      case rel => exact ⟨q + 1, by have := HQ.out; have := HQL.out; omega, by rw [← HQI.out], by rw [← HSET.out]; exact HB2.out⟩
                    · obtain rfl : q = t + 1 := by omega
                      have HB3 : Hid (WkAt w wr wb B g c sos n ((done ++ List.replicate (t + 1) 4) ++ [])) := Lib.hid (by have h := hB; rw [Nat.sub_self, List.replicate_zero, List.nil_append] at h; exact h)
                      clear hB hq hql
                      have hq1 : ((k + (t + 1) : Nat) : Int) = (kt : Int) := by have := HKT.out; omega
                      simp only [hq1]
                      clear hq1
                      go_wp2
                      try rw [Exit.noGoto_normal]
                      try go_wp2
                      go_roundg (G - (t + 1))
                      case measure => have h1 := HR.out; rw [List.length_append, List.length_replicate] at h1; omega
                      case rel => exact ⟨done ++ List.replicate (t + 1) 4, [], 4, by have h1 := HR.out; rw [List.length_append, List.length_replicate] at h1;  omega, by have h1 := HKK.out; have h2 := HKT.out; rw [List.length_append, List.length_replicate]; congr 1; omega, HD2.out, HB3.out⟩
                · have ex4 : ((x : Int) == 4) = false := by simp; omega
                  have hv : etOf x [] = 6 := by unfold etOf; rw [if_neg (by simp; exact hx4)]
                  have HD2 := Lib.hid (HNS.out 6 hv)
                  have HB3 : Hid (WkAt w wr wb B g c sos n ((done ++ List.replicate (t + 1) 6) ++ [])) := Lib.hid (by have h := HA.out; rw [List.append_assoc, List.replicate_succ, List.cons_append]; exact h)
                  clear hv
                  go_wp2
                  try rw [Exit.noGoto_normal]
                  try go_wp2
                  go_roundg (G - (t + 1))
                  case measure => have h1 := HR.out; rw [List.length_append, List.length_replicate] at h1; omega
                  case rel => exact ⟨done ++ List.replicate (t + 1) 6, [], 6, by have h1 := HR.out; rw [List.length_append, List.length_replicate] at h1;  omega, by have h1 := HKK.out; have h2 := HKT.out; rw [List.length_append, List.length_replicate]; congr 1; omega, HD2.out, HB3.out⟩
            | cons cc rr =>
              have hto : (((k + (t + 1) : Nat) : Int) == (n : Int)) = false := by have h1 := HNL.out; simp only [List.length_cons] at h1; simp; omega
              have hto2 : ((k + (t + 1) : Nat) : Int) < (n : Int) := by have h1 := HNL.out; simp only [List.length_cons] at h1; omega
              have hto3 : (0 : Int) ≤ ((k + (t + 1) : Nat) : Int) := by omega
              have hc6 : cc ≠ 6 := by have := HR2.out; simpa using this
              have e6 : ((cc : Int) != 6) = true := by simp; omega
              obtain ⟨hct, _⟩ := HA.out.own.getm (HEND.out)
              unfold u8V at hct
              obtain ⟨kt, hkt⟩ : ∃ kt, kt = k + (t + 1) := ⟨_, rfl⟩
              rw [← hkt] at hto hto2 hto3 hct ⊢
              have HKT := Lib.hid hkt
              clear hkt
              by_cases hk00 : k = 0
              · have hx4 : x ≠ 4 := by rw [HX0.out (by rw [← HKK.out]; exact hk00)]; decide
                have hkz : (k : Int) ≤ 0 := by omega
                by_cases hc4 : cc = 4
                · subst hc4
                  have hv : etOf x (4 :: rr) = 4 := by unfold etOf; rw [if_pos (.inr rfl)]
                  have HD2 := Lib.hid (HNS.out 4 hv)
                  clear hv
                  go_wp2
                  go_loopg [4] (t + 1) (fun r i wr2 => ∃ q, q + r = t + 1 ∧ i = .int .i64 ((k + q : Nat) : Int) ∧ WkAt w wr2 wb B g c sos n ((done ++ List.replicate q 4) ++ (List.replicate (t + 1 - q) 6 ++ (4 :: rr))))
                  case atStart => exact ⟨0, by omega, by simp, by have h := HA.out; rw [List.replicate_zero, List.append_nil, Nat.sub_zero, List.replicate_succ, List.cons_append]; exact h⟩
                  case round =>
                    obtain ⟨q, hq, rfl, hB⟩ := hrel
                    obtain ⟨b0, b1⟩ := hB.cells
                    by_cases hql : q < t + 1
                    · obtain ⟨m, hm⟩ : ∃ m, t + 1 - q = m + 1 := ⟨t - q, by omega⟩
                      have hsplit : (done ++ List.replicate q 4) ++ (List.replicate (t + 1 - q) 6 ++ (4 :: rr)) = (done ++ List.replicate q 4) ++ 6 :: (List.replicate (t + 1 - (q + 1)) 6 ++ (4 :: rr)) := by rw [hm, show t + 1 - (q + 1) = m from by omega, List.replicate_succ]; rfl
                      have hlq : (done ++ List.replicate q 4).length = k + q := by have := HKK.out; simp; omega
                      have hset : ((done ++ List.replicate q 4) ++ (List.replicate (t + 1 - q) 6 ++ (4 :: rr))).set (k + q) 4 = (done ++ List.replicate (q + 1) 4) ++ (List.replicate (t + 1 - (q + 1)) 6 ++ (4 :: rr)) := by
                        rw [hsplit, List.set_append_right _ _ (by omega), hlq, Nat.sub_self, List.replicate_succ']
                        simp
                      have hcq := hB.own.getm (k := k + q) (x := 6) (by rw [hsplit, ← hlq]; have := app_get (a := done ++ List.replicate q 4) (b := 6 :: (List.replicate (t + 1 - (q + 1)) 6 ++ (4 :: rr))) (k := 0); exact this)
                      obtain ⟨hcq1, hcq2⟩ := hcq
                      unfold u8V at hcq1
                      have hq1 : ((k + q : Nat) : Int) < ((k + (t + 1) : Nat) : Int) := by omega
                      have hq2 : ((k + q : Nat) : Int) < (n : Int) := by have := HNL.out; omega
                      have hq3 : (0 : Int) ≤ ((k + q : Nat) : Int) := by omega
                      have hq4 : ((k + q : Nat) : Int) ≤ 1099511627776 := by have := HNL.out; omega
                      have HB2 := Lib.hid (hB.store (k + q) 4)
                      have HSET := Lib.hid hset
                      have HQ := Lib.hid hq
                      have HQI : Hid (((k + q : Nat) : Int) + 1 = ((k + (q + 1) : Nat) : Int)) := Lib.hid (by omega)
                      have HQL := Lib.hid hql
                      clear hB hset hsplit hlq hm hq hql
                      obtain ⟨kq, hkq⟩ : ∃ kq, kq = k + q := ⟨_, rfl⟩
                      rw [← hkq] at hcq1 hcq2 hq1 hq2 hq3 hq4 HB2 HSET HQI ⊢
                      rw [← HKT.out] at hq1
                      clear hkq
                      go_wp2
                      go_roundg (gk - 1)
                      case measure => have := HQ.out; have := HQL.out; omega
                      case rel => exact ⟨q + 1, by have := HQ.out; have := HQL.out; omega, by rw [← HQI.out], by rw [← HSET.out]; exact HB2.out⟩
                    · obtain rfl : q = t + 1 := by omega
                      have HB3 : Hid (WkAt w wr wb B g c sos n ((done ++ List.replicate (t + 1) 4) ++ (4 :: rr))) := Lib.hid (by have h := hB; rw [Nat.sub_self, List.replicate_zero, List.nil_append] at h; exact h)
                      clear hB hq hql
                      have hq1 : ((k + (t + 1) : Nat) : Int) = (kt : Int) := by have := HKT.out; omega
                      simp only [hq1]
                      clear hq1
                      go_wp2
                      try rw [Exit.noGoto_normal]
                      try go_wp2
                      go_roundg (G - (t + 1))
                      case measure => have h1 := HR.out; rw [List.length_append, List.length_replicate] at h1; omega
                      case rel => exact ⟨done ++ List.replicate (t + 1) 4, (4 :: rr), 4, by have h1 := HR.out; rw [List.length_append, List.length_replicate] at h1; simp only [List.length_cons] at h1 ⊢; omega, by have h1 := HKK.out; have h2 := HKT.out; rw [List.length_append, List.length_replicate]; congr 1; omega, HD2.out, HB3.out⟩
                · have e4 : ((cc : Int) == 4) = false := by simp; omega
                  have hv : etOf x (cc :: rr) = 6 := by unfold etOf; rw [if_neg (by simp; exact ⟨hx4, hc4⟩)]
                  have HD2 := Lib.hid (HNS.out 6 hv)
                  have HB3 : Hid (WkAt w wr wb B g c sos n ((done ++ List.replicate (t + 1) 6) ++ (cc :: rr))) := Lib.hid (by have h := HA.out; rw [List.append_assoc, List.replicate_succ, List.cons_append]; exact h)
                  clear hv
                  go_wp2
                  try rw [Exit.noGoto_normal]
                  try go_wp2
                  go_roundg (G - (t + 1))
                  case measure => have h1 := HR.out; rw [List.length_append, List.length_replicate] at h1; omega
                  case rel => exact ⟨done ++ List.replicate (t + 1) 6, (cc :: rr), 6, by have h1 := HR.out; rw [List.length_append, List.length_replicate] at h1; simp only [List.length_cons] at h1 ⊢; omega, by have h1 := HKK.out; have h2 := HKT.out; rw [List.length_append, List.length_replicate]; congr 1; omega, HD2.out, HB3.out⟩
              · have hkz : (0 : Int) < (k : Int) := by omega
                obtain ⟨k1, hk1⟩ : ∃ k1, k = k1 + 1 := ⟨k - 1, by omega⟩
                have hcl := HLAST.out (by rw [← HKK.out]; omega)
                rw [← HKK.out, show k - 1 = k1 from by omega] at hcl
                have hcl2 := (HA.out.own.getm hcl).1
                unfold u8V at hcl2
                have hkw := IntWalk.i64_in (k1 : Int) (by omega)
                have hkw2 : (k : Int) - 1 = (k1 : Int) := by omega
                have hk1a : (0 : Int) ≤ (k1 : Int) := by omega
                have hk1b : (k1 : Int) < (n : Int) := by omega
                clear hk1 hcl hk00
                by_cases hx4 : x = 4
                · rw [hx4] at hcl2
                  have hv : etOf x (cc :: rr) = 4 := by unfold etOf; rw [if_pos (.inl hx4)]
                  have HD2 := Lib.hid (HNS.out 4 hv)
                  clear hv
                  go_wp2
                  go_loopg [4] (t + 1) (fun r i wr2 => ∃ q, q + r = t + 1 ∧ i = .int .i64 ((k + q : Nat) : Int) ∧ WkAt w wr2 wb B g c sos n ((done ++ List.replicate q 4) ++ (List.replicate (t + 1 - q) 6 ++ (cc :: rr))))
                  case atStart => exact ⟨0, by omega, by simp, by have h := HA.out; rw [List.replicate_zero, List.append_nil, Nat.sub_zero, List.replicate_succ, List.cons_append]; exact h⟩
                  case round =>
                    obtain ⟨q, hq, rfl, hB⟩ := hrel
                    obtain ⟨b0, b1⟩ := hB.cells
                    by_cases hql : q < t + 1
                    · obtain ⟨m, hm⟩ : ∃ m, t + 1 - q = m + 1 := ⟨t - q, by omega⟩
                      have hsplit : (done ++ List.replicate q 4) ++ (List.replicate (t + 1 - q) 6 ++ (cc :: rr)) = (done ++ List.replicate q 4) ++ 6 :: (List.replicate (t + 1 - (q + 1)) 6 ++ (cc :: rr)) := by rw [hm, show t + 1 - (q + 1) = m from by omega, List.replicate_succ]; rfl
                      have hlq : (done ++ List.replicate q 4).length = k + q := by have := HKK.out; simp; omega
                      have hset : ((done ++ List.replicate q 4) ++ (List.replicate (t + 1 - q) 6 ++ (cc :: rr))).set (k + q) 4 = (done ++ List.replicate (q + 1) 4) ++ (List.replicate (t + 1 - (q + 1)) 6 ++ (cc :: rr)) := by
                        rw [hsplit, List.set_append_right _ _ (by omega), hlq, Nat.sub_self, List.replicate_succ']
                        simp
                      have hcq := hB.own.getm (k := k + q) (x := 6) (by rw [hsplit, ← hlq]; have := app_get (a := done ++ List.replicate q 4) (b := 6 :: (List.replicate (t + 1 - (q + 1)) 6 ++ (cc :: rr))) (k := 0); exact this)
                      obtain ⟨hcq1, hcq2⟩ := hcq
                      unfold u8V at hcq1
                      have hq1 : ((k + q : Nat) : Int) < ((k + (t + 1) : Nat) : Int) := by omega
                      have hq2 : ((k + q : Nat) : Int) < (n : Int) := by have := HNL.out; omega
                      have hq3 : (0 : Int) ≤ ((k + q : Nat) : Int) := by omega
                      have hq4 : ((k + q : Nat) : Int) ≤ 1099511627776 := by have := HNL.out; omega
                      have HB2 := Lib.hid (hB.store (k + q) 4)
                      have HSET := Lib.hid hset
                      have HQ := Lib.hid hq
                      have HQI : Hid (((k + q : Nat) : Int) + 1 = ((k + (q + 1) : Nat) : Int)) := Lib.hid (by omega)
                      have HQL := Lib.hid hql
                      clear hB hset hsplit hlq hm hq hql
                      obtain ⟨kq, hkq⟩ : ∃ kq, kq = k + q := ⟨_, rfl⟩
                      rw [← hkq] at hcq1 hcq2 hq1 hq2 hq3 hq4 HB2 HSET HQI ⊢
                      rw [← HKT.out] at hq1
                      clear hkq
                      go_wp2
                      go_roundg (gk - 1)
                      case measure => have := HQ.out; have := HQL.out; omega
                      case rel => exact ⟨q + 1, by have := HQ.out; have := HQL.out; omega, by rw [← HQI.out], by rw [← HSET.out]; exact HB2.out⟩
                    · obtain rfl : q = t + 1 := by omega
                      have HB3 : Hid (WkAt w wr wb B g c sos n ((done ++ List.replicate (t + 1) 4) ++ (cc :: rr))) := Lib.hid (by have h := hB; rw [Nat.sub_self, List.replicate_zero, List.nil_append] at h; exact h)
                      clear hB hq hql
                      have hq1 : ((k + (t + 1) : Nat) : Int) = (kt : Int) := by have := HKT.out; omega
                      simp only [hq1]
                      clear hq1
                      go_wp2
                      try rw [Exit.noGoto_normal]
                      try go_wp2
                      go_roundg (G - (t + 1))
                      case measure => have h1 := HR.out; rw [List.length_append, List.length_replicate] at h1; omega
                      case rel => exact ⟨done ++ List.replicate (t + 1) 4, (cc :: rr), 4, by have h1 := HR.out; rw [List.length_append, List.length_replicate] at h1; simp only [List.length_cons] at h1 ⊢; omega, by have h1 := HKK.out; have h2 := HKT.out; rw [List.length_append, List.length_replicate]; congr 1; omega, HD2.out, HB3.out⟩
                · have ex4 : ((x : Int) == 4) = false := by simp; omega
                  by_cases hc4 : cc = 4
                  · subst hc4
                    have hv : etOf x (4 :: rr) = 4 := by unfold etOf; rw [if_pos (.inr rfl)]
                    have HD2 := Lib.hid (HNS.out 4 hv)
                    clear hv
                    go_wp2
                    go_loopg [4] (t + 1) (fun r i wr2 => ∃ q, q + r = t + 1 ∧ i = .int .i64 ((k + q : Nat) : Int) ∧ WkAt w wr2 wb B g c sos n ((done ++ List.replicate q 4) ++ (List.replicate (t + 1 - q) 6 ++ (4 :: rr))))
                    case atStart => exact ⟨0, by omega, by simp, by have h := HA.out; rw [List.replicate_zero, List.append_nil, Nat.sub_zero, List.replicate_succ, List.cons_append]; exact h⟩
                    case round =>
                      obtain ⟨q, hq, rfl, hB⟩ := hrel
                      obtain ⟨b0, b1⟩ := hB.cells
                      by_cases hql : q < t + 1
                      · obtain ⟨m, hm⟩ : ∃ m, t + 1 - q = m + 1 := ⟨t - q, by omega⟩
                        have hsplit : (done ++ List.replicate q 4) ++ (List.replicate (t + 1 - q) 6 ++ (4 :: rr)) = (done ++ List.replicate q 4) ++ 6 :: (List.replicate (t + 1 - (q + 1)) 6 ++ (4 :: rr)) := by rw [hm, show t + 1 - (q + 1) = m from by omega, List.replicate_succ]; rfl
                        have hlq : (done ++ List.replicate q 4).length = k + q := by have := HKK.out; simp; omega
                        have hset : ((done ++ List.replicate q 4) ++ (List.replicate (t + 1 - q) 6 ++ (4 :: rr))).set (k + q) 4 = (done ++ List.replicate (q + 1) 4) ++ (List.replicate (t + 1 - (q + 1)) 6 ++ (4 :: rr)) := by
                          rw [hsplit, List.set_append_right _ _ (by omega), hlq, Nat.sub_self, List.replicate_succ']
                          simp
                        have hcq := hB.own.getm (k := k + q) (x := 6) (by rw [hsplit, ← hlq]; have := app_get (a := done ++ List.replicate q 4) (b := 6 :: (List.replicate (t + 1 - (q + 1)) 6 ++ (4 :: rr))) (k := 0); exact this)
                        obtain ⟨hcq1, hcq2⟩ := hcq
                        unfold u8V at hcq1
                        have hq1 : ((k + q : Nat) : Int) < ((k + (t + 1) : Nat) : Int) := by omega
                        have hq2 : ((k + q : Nat) : Int) < (n : Int) := by have := HNL.out; omega
                        have hq3 : (0 : Int) ≤ ((k + q : Nat) : Int) := by omega
                        have hq4 : ((k + q : Nat) : Int) ≤ 1099511627776 := by have := HNL.out; omega
                        have HB2 := Lib.hid (hB.store (k + q) 4)
                        have HSET := Lib.hid hset
                        have HQ := Lib.hid hq
                        have HQI : Hid (((k + q : Nat) : Int) + 1 = ((k + (q + 1) : Nat) : Int)) := Lib.hid (by omega)
                        have HQL := Lib.hid hql
                        clear hB hset hsplit hlq hm hq hql
                        obtain ⟨kq, hkq⟩ : ∃ kq, kq = k + q := ⟨_, rfl⟩
                        rw [← hkq] at hcq1 hcq2 hq1 hq2 hq3 hq4 HB2 HSET HQI ⊢
                        rw [← HKT.out] at hq1
                        clear hkq
                        go_wp2
                        go_roundg (gk - 1)
                        case measure => have := HQ.out; have := HQL.out; omega
                        case rel => exact ⟨q + 1, by have := HQ.out; have := HQL.out; omega, by rw [← HQI.out], by rw [← HSET.out]; exact HB2.out⟩
                      · obtain rfl : q = t + 1 := by omega
                        have HB3 : Hid (WkAt w wr wb B g c sos n ((done ++ List.replicate (t + 1) 4) ++ (4 :: rr))) := Lib.hid (by have h := hB; rw [Nat.sub_self, List.replicate_zero, List.nil_append] at h; exact h)
                        clear hB hq hql
                        have hq1 : ((k + (t + 1) : Nat) : Int) = (kt : Int) := by have := HKT.out; omega
                        simp only [hq1]
                        clear hq1
                        go_wp2
                        try rw [Exit.noGoto_normal]
                        try go_wp2
                        go_roundg (G - (t + 1))
                        case measure => have h1 := HR.out; rw [List.length_append, List.length_replicate] at h1; omega
                        case rel => exact ⟨done ++ List.replicate (t + 1) 4, (4 :: rr), 4, by have h1 := HR.out; rw [List.length_append, List.length_replicate] at h1; simp only [List.length_cons] at h1 ⊢; omega, by have h1 := HKK.out; have h2 := HKT.out; rw [List.length_append, List.length_replicate]; congr 1; omega, HD2.out, HB3.out⟩
                  · have e4 : ((cc : Int) == 4) = false := by simp; omega
                    have hv : etOf x (cc :: rr) = 6 := by unfold etOf; rw [if_neg (by simp; exact ⟨hx4, hc4⟩)]
                    have HD2 := Lib.hid (HNS.out 6 hv)
                    have HB3 : Hid (WkAt w wr wb B g c sos n ((done ++ List.replicate (t + 1) 6) ++ (cc :: rr))) := Lib.hid (by have h := HA.out; rw [List.append_assoc, List.replicate_succ, List.cons_append]; exact h)
                    clear hv
                    go_wp2
                    try rw [Exit.noGoto_normal]
                    try go_wp2
                    go_roundg (G - (t + 1))
                    case measure => have h1 := HR.out; rw [List.length_append, List.length_replicate] at h1; omega
                    case rel => exact ⟨done ++ List.replicate (t + 1) 6, (cc :: rr), 6, by have h1 := HR.out; rw [List.length_append, List.length_replicate] at h1; simp only [List.length_cons] at h1 ⊢; omega, by have h1 := HKK.out; have h2 := HKT.out; rw [List.length_append, List.length_replicate]; congr 1; omega, HD2.out, HB3.out⟩

      · have ey : ((y : Int) != 6) = true := by simp; omega
        have HD := Lib.hid (hD.one hy)
        have HA : Hid (WkAt w wr wb B g c sos n ((done ++ [y]) ++ rest)) := Lib.hid (by simpa using hA)
        have HR := Lib.hid hr
        clear hD hA hlen hr
        go_wp2
        go_step3
        go_wp2
        try rw [Exit.noGoto_exit]
        go_wp2
        go_roundg (gk - 1)
        case measure => have := HR.out; omega
        case rel => exact ⟨done ++ [y], rest, y, by have := HR.out; omega, by simp, HD.out, HA.out⟩

end Go.Proofs.YtjnidopbdjbbgaaGreat
end
