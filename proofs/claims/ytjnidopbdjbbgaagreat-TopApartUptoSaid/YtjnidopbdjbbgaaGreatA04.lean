/-
  Values of lists of classes, levels, places; cells of slices of one cell an element. No function of the program in sight.
-/
import Derived.Test.YtjnidopbdjbbgaaGreatA03
import Derived.Test.YtjnidopbdjbbgaaGreatA02
import Derived.Test.YtjnidopbdjbbgaaGreatA00
import Derived.Test.YtjnidopbdjbbgaaGreatProg
import Derived.BigQuiet
import Derived.Deep.QuietTactic
import Derived.IntWalk
section
namespace Go.Proofs.YtjnidopbdjbbgaaGreat
set_option linter.unusedVariables false
open Go.RowKit

def u8V (c : Nat) : Value := .int .u8 c
def i8V (x : Int) : Value := .int .i8 x
def i64V (x : Int) : Value := .int .i64 x
def natV (x : Nat) : Value := .int .i64 x

theorem ones {α : Type} (f : α → Value) (hf : ∀ x, (f x).oneCell' = true) (l : List α) : ∀ u ∈ l.map f, u.oneCell' = true := by
  intro u hu
  obtain ⟨x, _, rfl⟩ := List.mem_map.1 hu
  exact hf x

theorem Own.get {w : World} {B g n c : Nat} {xs : List Value} (h : Own w B 1 (some ⟨g, 0, none⟩) n c xs) {k : Nat} {u : Value} (hu : xs[k]? = some u) :
    w.cell? ⟨g, k, none⟩ = some u ∧ w.frozen? ⟨g, k, none⟩ = false := by
  rcases h.row with ⟨h0, _⟩ | ⟨g', ha, h1, h2, h3, h4⟩
  · cases h0
  · cases ha
    have hk : k < xs.length := (List.getElem?_eq_some_iff.1 hu).1
    have := h.len
    have := h.le
    exact ⟨h3 k u hu, (h4 k (by omega)).2⟩
theorem Own.getm {α : Type} {w : World} {B g n c : Nat} {l : List α} {f : α → Value} (h : Own w B 1 (some ⟨g, 0, none⟩) n c (l.map f)) {k : Nat} {x : α} (hx : l[k]? = some x) :
    w.cell? ⟨g, k, none⟩ = some (f x) ∧ w.frozen? ⟨g, k, none⟩ = false := h.get (by rw [List.getElem?_map, hx]; rfl)
theorem Cells.getm {α : Type} {w : World} {a : Option Addr} {l : List α} {f : α → Value} (h : Cells w a (l.map f)) {k : Nat} {x : α} (hx : l[k]? = some x) :
    ∃ b off, a = some ⟨b, off, none⟩ ∧ w.cell? ⟨b, off + k, none⟩ = some (f x) := by
  obtain ⟨b, off, y, ha, hy, hc⟩ := h.at (k := k) (List.getElem?_eq_some_iff.1 hx).1
  rw [hx] at hy
  cases hy
  exact ⟨b, off, ha, hc⟩
theorem Own.lt {w : World} {B size g n c : Nat} {xs : List Value} (h : Own w B size (some ⟨g, 0, none⟩) n c xs) : B ≤ g ∧ g < w.heap.size := by
  rcases h.row with ⟨h0, _⟩ | ⟨g', ha, h1, h2, _⟩
  · cases h0
  · cases ha
    exact ⟨h1, h2⟩
theorem Own.pos {w : World} {B size : Nat} {a : Option Addr} {n c : Nat} {xs : List Value} (h : Own w B size a n c xs) (hn : 0 < n) : ∃ g, a = some ⟨g, 0, none⟩ := by
  obtain ⟨g, hg, _⟩ := h.addr (by have := h.le; omega)
  exact ⟨g, hg⟩
/-- The block of a slice of the call's own lies below what is new. -/
theorem Own.old {w : World} {B size : Nat} {a : Option Addr} {n c : Nat} {xs : List Value} (h : Own w B size a n c xs) : blockOf a ≠ some w.heap.size := by
  rcases h.row with ⟨h0, _⟩ | ⟨g', ha, h1, h2, _⟩
  · rw [h0]; simp [blockOf]
  · rw [ha]; simp [blockOf]; omega
theorem Own.eqN {w : World} {B size : Nat} {a : Option Addr} {n n' c : Nat} {xs : List Value} (h : Own w B size a n c xs) (e : n = n') : Own w B size a n' c xs := e ▸ h
theorem Own.eqL {w : World} {B size : Nat} {a : Option Addr} {n c : Nat} {xs ys : List Value} (h : Own w B size a n c xs) (e : xs = ys) : Own w B size a n c ys := e ▸ h
theorem blockOf_some {a : Option Addr} {g : Nat} (h : a = some ⟨g, 0, none⟩) : blockOf a = some g := by rw [h]; rfl
/-- A store into a slice of the call's own: what lies below the call stays. -/
theorem Own.storeBelow {w w0 : World} {B size g n c : Nat} {xs : List Value} (h : Own w B size (some ⟨g, 0, none⟩) n c xs) (hb : Below B w0 w) (i : Nat) (v : Value) : Below B w0 (w.setCell ⟨g, i, none⟩ v) :=
  hb.setCell (p := ⟨g, i, none⟩) h.lt.1 _
theorem cell_set {w : World} {g g2 k j : Nat} {u v : Value} (h : w.cell? ⟨g, j, none⟩ = some u) (hne : g ≠ g2) : (w.setCell ⟨g2, k, none⟩ v).cell? ⟨g, j, none⟩ = some u := by
  rw [World.cell?_setCell_other _ _ _ _ (fun e => hne (by have := congrArg Addr.block e; simp at this; exact this.symm))]
  exact h
theorem contains_begins (c : Nat) : ([20, 21, 22] : List Nat).contains c = (c == 20 || c == 21 || c == 22) := by rw [Bool.eq_iff_iff]; simp [or_assoc]

theorem Apped.apart {w w' : World} {a a' : Option Addr} {g : Nat} (h : Apped w w' a a') (hne : blockOf a ≠ some g) (hg : g < w.heap.size) : blockOf a' ≠ some g := by
  rcases h.place with e | ⟨g', e, hl⟩
  · rw [e]; exact hne
  · rw [e]; simp; omega
section
variable {P : Program} {w : World}
theorem src_one {W : World} {T E : TypeId} {b : Nat} (hT : P.underlying T = some (.slice E)) (v : Value) (h1 : v.oneCell' = true) (hb : b = W.heap.size) :
    Src P 1 T (.slice (some ⟨b, 0, none⟩) 1 1) 1 [v] (W.alloc (.cells #[v] E)) := by
  subst hb
  exact Src.ofCells hT _ _ _ _ rfl (Cells.new W [v] E) (by simpa using h1) (by decide)

/-- append of one element of one cell, in the walk. -/
theorem wpList_push {ops : Array Oper} {rest : List Oper} {o : Oper} {act : Act} {Q : Exit → Act → World → Prop} (hgd : o.guard = none) (s x : Operand) (t : TypeId)
    (ho : o.op = .call { callee := .builtin .append, args := #[s, x], argTypes := #[t, t] })
    (e : TypeId) (i : TypeInfo) (z : Value) (bytes : Nat) (ht : P.underlying t = some (.slice e)) (hi : P.info? e = some i) (hz : i.zero = some z) (hsize : i.size = 1) (hby : i.bytes = bytes) (hzs : z.cells = #[z]) (hz1 : z.oneCell' = true)
    (B : Nat) (a : Option Addr) (n c : Nat) (xs : List Value) (hs : act.eval s = .slice a n c) (W : World) (v : Value) (hw : w = W.alloc (.cells #[v] e)) (hown : Own W B 1 a n c xs)
    (b : Nat) (hx : act.eval x = .slice (some ⟨b, 0, none⟩) 1 1) (hb : b = W.heap.size) (hv : v.oneCell' = true)
    (h63 : n ≤ 1099511627776) (hby8 : bytes ≤ 64) (hB : B ≤ W.heap.size)
    (h : ∀ a' c' w', Own w' B 1 a' (n + 1) c' (xs ++ [v]) → Apped (W.alloc (.cells #[v] e)) w' a a' → Below B W w' → wpList P ops Q rest (act.put o.dst (.slice a' (n + 1) c')) w') : wpList P ops Q (o :: rest) act w := by
  subst hw
  refine wpList_app hgd s x t t ho e i z 1 bytes ht hi hz hsize hby (by rw [hzs]; rfl) (by rw [hzs]; simpa using hz1) B a n c xs hs (hown.alloc _) _ 1 [v] hx (src_one ht v hv hb) (by simp only [maxLen]; omega) ?_ (by simp; omega) ?_
  · have : (n + 1) * bytes ≤ (1099511627776 + 1) * 64 := Nat.mul_le_mul (by omega) hby8
    omega
  · intro a' c' w' h1 h2
    exact h a' c' w' h1 h2 (((Below.refl B W).alloc hB _).trans (h2.below (hown.alloc _) (by simp; omega)))
end

end Go.Proofs.YtjnidopbdjbbgaaGreat
end
/-
  Isolates that belong together: Match, walked.
-/
section
namespace Go.Proofs.YtjnidopbdjbbgaaGreat
open Go.RowKit
set_option linter.unusedVariables false

theorem info3 : (Tryz.prog.info? 3).map (fun i => (i.zero, i.size, i.bytes)) = some (some (.int .i64 0), 1, 8) := by kernel_rfl
theorem info_parts {e : TypeId} {z : Value} {s b : Nat} (h : (Tryz.prog.info? e).map (fun i => (i.zero, i.size, i.bytes)) = some (some z, s, b)) : ∃ i, Tryz.prog.info? e = some i ∧ i.zero = some z ∧ i.size = s ∧ i.bytes = b := by
  obtain ⟨i, hi, h2⟩ := Option.map_eq_some_iff.1 h
  simp only [Prod.mk.injEq] at h2
  exact ⟨i, hi, h2.1, h2.2.1, h2.2.2⟩

/-- Between two rounds of Match: what is known of each place, and those that wait. -/
structure Mat (w : World) (B g n : Nat) (pa : Option Addr) (pc : Nat) (D : List Int) (P : List Nat) : Prop where
  out : Own w B 1 (some ⟨g, 0, none⟩) n n ((D ++ List.replicate (n - D.length) 0).map i64V)
  pile : Own w B 1 pa P.length pc (P.reverse.map natV)
  apart : blockOf pa ≠ some g
  piled : Piled (D, P)
  le : D.length ≤ n

theorem Mat.cell {w : World} {B g n : Nat} {pa : Option Addr} {pc : Nat} {D : List Int} {P : List Nat} (h : Mat w B g n pa pc D P) {k : Nat} (hk : k < n) : ∃ x, w.cell? ⟨g, k, none⟩ = some (i64V x) ∧ w.frozen? ⟨g, k, none⟩ = false := by
  have hl : k < (D ++ List.replicate (n - D.length) 0).length := by have := h.le; simp; omega
  have := h.out.getm (List.getElem?_eq_getElem hl)
  exact ⟨_, this⟩
theorem Mat.top {w : World} {B g n : Nat} {pa : Option Addr} {pc : Nat} {D : List Int} {p : Nat} {P : List Nat} (h : Mat w B g n pa pc D (p :: P)) :
    ∃ g2, pa = some ⟨g2, 0, none⟩ ∧ g2 ≠ g ∧ w.cell? ⟨g2, P.length, none⟩ = some (natV p) ∧ p < D.length := by
  obtain ⟨g2, rfl⟩ := h.pile.pos (by simp)
  refine ⟨g2, rfl, fun e => h.apart (by rw [e]; rfl), ?_, h.piled.2 p (by simp)⟩
  exact (h.pile.getm (x := p) (by simp)).1
/-- All but the pile: one place more is known. -/
theorem Mat.put {w : World} {B g n : Nat} {pa : Option Addr} {pc : Nat} {D : List Int} {P : List Nat} (h : Mat w B g n pa pc D P) (hk : D.length < n) (x : Int) :
    Own (w.setCell ⟨g, D.length, none⟩ (i64V x)) B 1 (some ⟨g, 0, none⟩) n n (((D ++ [x]) ++ List.replicate (n - (D ++ [x]).length) 0).map i64V) := by
  refine (h.out.stored D.length hk (i64V x)).eqL ?_
  obtain ⟨m, hm⟩ : ∃ m, n - D.length = m + 1 := ⟨n - D.length - 1, by omega⟩
  rw [hm, show n - (D ++ [x]).length = m from by simp; omega, ← List.map_set, List.replicate_succ, List.set_append_right _ _ (by omega)]
  simp
theorem Mat.pileSet {w : World} {B g n : Nat} {pa : Option Addr} {pc : Nat} {D : List Int} {P : List Nat} (h : Mat w B g n pa pc D P) (k : Nat) (v : Value) : Own (w.setCell ⟨g, k, none⟩ v) B 1 pa P.length pc (P.reverse.map natV) :=
  h.pile.stored_other _ _ fun g2 hg e => h.apart (by rw [hg]; show some g2 = some g; rw [show g2 = g from e])

theorem Mat.le2 {w : World} {B g n : Nat} {pa : Option Addr} {pc : Nat} {D : List Int} {P : List Nat} (h : Mat w B g n pa pc D P) : P.length ≤ n := by
  have h1 := h.piled
  have h2 := h.le
  have key : ∀ (P : List Nat) (m : Nat), P.Pairwise (fun a b => b < a) → (∀ p ∈ P, p < m) → P.length ≤ m := by
    intro P
    induction P with
    | nil => intro m _ _; exact Nat.zero_le _
    | cons p P ih =>
      intro m hp hl
      have := ih p (List.pairwise_cons.1 hp).2 (List.pairwise_cons.1 hp).1
      have := hl p (by simp)
      simp
      omega
  have := key P D.length h1.1 h1.2
  omega
/-- Two stores at the place that comes next. -/
theorem Mat.put2 {w : World} {B g n : Nat} {pa : Option Addr} {pc : Nat} {D : List Int} {P : List Nat} (h : Mat w B g n pa pc D P) (hk : D.length < n) (y x : Int) :
    Own ((w.setCell ⟨g, D.length, none⟩ (i64V y)).setCell ⟨g, D.length, none⟩ (i64V x)) B 1 (some ⟨g, 0, none⟩) n n (((D ++ [x]) ++ List.replicate (n - (D ++ [x]).length) 0).map i64V) := by
  refine ((h.out.stored D.length hk (i64V y)).stored D.length hk (i64V x)).eqL ?_
  obtain ⟨m, hm⟩ : ∃ m, n - D.length = m + 1 := ⟨n - D.length - 1, by omega⟩
  rw [hm, show n - (D ++ [x]).length = m from by simp; omega, List.set_set, ← List.map_set, List.replicate_succ, List.set_append_right _ _ (by omega)]
  simp
/-- An isolate begins. -/
theorem Mat.begin {w w4 : World} {B g n : Nat} {pa a4 : Option Addr} {pc c4 : Nat} {D : List Int} {P : List Nat} {o : Obj} (h : Mat w B g n pa pc D P) (hk : D.length < n)
    (h4 : Own w4 B 1 a4 (P.length + 1) c4 (P.reverse.map natV ++ [natV D.length])) (hap : Apped (((w.setCell ⟨g, D.length, none⟩ (i64V (-1))).setCell ⟨g, D.length, none⟩ (i64V n)).alloc o) w4 pa a4) :
    Mat w4 B g n a4 c4 (D ++ [(n : Int)]) (D.length :: P) := by
  have hg := h.out.lt
  refine ⟨hap.other ((h.put2 hk (-1) n).alloc o) (.inr fun e => h.apart e.symm), ?_, hap.apart h.apart (by simp; omega), ?_, by simp; omega⟩
  · refine (h4.eqN (by simp)).eqL (by simp)
  · refine ⟨List.Pairwise.cons (fun p hp => h.piled.2 p hp) h.piled.1, fun p hp => ?_⟩
    rcases List.mem_cons.1 hp with rfl | hp
    · simp
    · have := h.piled.2 p hp
      simp at this ⊢
      omega
/-- A PDI with an isolate that waits. -/
theorem Mat.pdi {w : World} {B g n : Nat} {pa : Option Addr} {pc : Nat} {D : List Int} {p : Nat} {P : List Nat} (h : Mat w B g n pa pc D (p :: P)) (hk : D.length < n) :
    Mat (((w.setCell ⟨g, D.length, none⟩ (i64V (-1))).setCell ⟨g, D.length, none⟩ (i64V p)).setCell ⟨g, p, none⟩ (i64V D.length)) B g n pa pc ((D ++ [(p : Int)]).set p (D.length : Int)) P := by
  have hp := h.piled.2 p (by simp)
  simp only at hp
  have h1 := (h.put2 hk (-1) p).stored p (by omega) (i64V D.length)
  refine ⟨h1.eqL ?_, ?_, h.apart, ?_, by simp; omega⟩
  · rw [← List.map_set, List.set_append_left _ _ (by simp; omega), List.length_set]
  · have h2 := ((h.pileSet D.length (i64V (-1))).stored_other ⟨g, D.length, none⟩ (i64V p) (fun g2 hg e => h.apart (by rw [hg]; show some g2 = some g; rw [show g2 = g from e]))).stored_other ⟨g, p, none⟩ (i64V D.length) (fun g2 hg e => h.apart (by rw [hg]; show some g2 = some g; rw [show g2 = g from e]))
    have h3 := h2.prefix P.length (by simp)
    refine h3.eqL ?_
    rw [Nat.mul_one, List.reverse_cons, List.map_append, List.take_append_of_le_length (by simp), List.take_of_length_le (by simp)]
  · refine ⟨(List.pairwise_cons.1 h.piled.1).2, fun q hq => ?_⟩
    have := h.piled.2 q (by simp [hq])
    simp at this ⊢
    omega

theorem Mat.none {w : World} {B g n : Nat} {pa : Option Addr} {pc : Nat} {D : List Int} {P : List Nat} (h : Mat w B g n pa pc D P) (hk : D.length < n) :
    Mat (w.setCell ⟨g, D.length, none⟩ (i64V (-1))) B g n pa pc (D ++ [-1]) P :=
  ⟨h.put hk (-1), h.pileSet _ _, h.apart, ⟨h.piled.1, fun p hp => by have := h.piled.2 p hp; simp; simp at this; omega⟩, by simp; omega⟩
theorem Mat.clear {w : World} {B g n : Nat} {pa : Option Addr} {pc : Nat} {D : List Int} {P : List Nat} (h : Mat w B g n pa pc D P) : Mat w B g n pa pc D [] := by
  refine ⟨h.out, ?_, h.apart, ⟨by simp, by simp⟩, h.le⟩
  have := h.pile.prefix 0 (Nat.zero_le _)
  simpa using this

set_option maxRecDepth 20000 in
set_option maxHeartbeats 4000000 in
theorem match_any (w : World) (a : Option Addr) (c : Nat) (l : List Nat) (hn : l.length ≤ 1099511627776) (hc : Cells w a (l.map u8V)) (h23 : ∀ x ∈ l, 1 ≤ x ∧ x ≤ 23) :
    Calls Tryz.prog 67 #[.slice a l.length c] w fun e w' => ∃ g, e = .returned (.slice (some ⟨g, 0, none⟩) l.length l.length) ∧ Own w' w.heap.size 1 (some ⟨g, 0, none⟩) l.length l.length ((matchOf l).map i64V) ∧ Below w.heap.size w w' := by
  obtain ⟨i0, hi, hz0, hz1, hz2⟩ := info_parts info3
  have HC := Lib.hid hc
  have H23 := Lib.hid h23
  obtain ⟨n, hnn⟩ : ∃ n, n = l.length := ⟨_, rfl⟩
  have HN := Lib.hid hnn
  rw [← hnn] at hn ⊢
  clear hc h23 hnn
  go_enter Tryz.func67, Tryz.ntmps67
  go_wp2_with (at_make; refine wpList_mk rfl _ _ 33 3 rfl i0 (.int .i64 0) 8 Tryz.underlying33 hi hz0 hz1 hz2 rfl n rfl rfl (by omega) (by simp only [maxLen]; omega) ?_; intro g w1 hown1 hb1; have HO1 := Lib.hid hown1; have HB1 := Lib.hid hb1; clear hown1 hb1)
  have hI : ∀ k, (matchFrom n ([], []) (l.take k)).1.length = min k n := fun k => by rw [matchFrom_len]; simp [HN.out]
  have HI := Lib.hid hI
  have HS : Hid (∀ k x, l[k]? = some x → matchFrom n ([], []) (l.take (k + 1)) = mstep n (matchFrom n ([], []) (l.take k)) x) := Lib.hid fun k x hx => by
    rw [List.take_add_one, hx, matchFrom_app]; rfl
  clear hI
  go_loopw [4, 12] (fun p i wr => ∃ (k pc : Nat) (pa : Option Addr) (D : List Int) (P : List Nat), k ≤ n ∧ i = .int .i64 k ∧ p = .slice pa P.length pc ∧ Hid (matchFrom n ([], []) (l.take k) = (D, P)) ∧ D.length = k ∧ Mat wr w.heap.size g n pa pc D P ∧ Below w.heap.size w wr) (fun _ i _ => n - (intOf i).toNat)
  case atStart =>
    refine ⟨0, 0, none, [], [], Nat.zero_le _, rfl, rfl, Lib.hid rfl, rfl, ⟨?_, Own.nil _ _ _, by simp [blockOf], piled_nil, Nat.zero_le _⟩, HB1.out⟩
    exact HO1.out.eqL (by simp [i64V])
  case round =>
    obtain ⟨k, pc, pa, D, P, hk, rfl, rfl, HE, hD, hM, hb⟩ := hrel
    by_cases hlt : k < n
    · have hxl : k < l.length := by rw [← HN.out]; exact hlt
      obtain ⟨x, hx⟩ : ∃ x, l[k]? = some x := ⟨_, List.getElem?_eq_getElem hxl⟩
      obtain ⟨b, off, rfl, hcx⟩ := (HC.out.below hb).getm hx
      have hx23 := H23.out x (List.mem_of_getElem? hx)
      obtain ⟨y, hcy, hfy⟩ := hM.cell hlt
      unfold u8V at hcx
      unfold i64V at hcy
      have HX := Lib.hid hx
      have HB := Lib.hid hb
      have HM := Lib.hid hM
      have HBE := Lib.hid (fun w => beginsP_any w x hx23.1 hx23.2)
      rw [contains_begins] at HBE
      have hk0 : (0 : Int) ≤ (k : Int) := by omega
      have hpl := hM.le2
      clear hx hb hM hk
      by_cases hbe : (x == 20 || x == 21 || x == 22) = true
      · rw [hbe] at HBE
        go_wp2_with (first | (go_at_call 110; refine (HBE.out _).mono ?_; rintro e w2 ⟨rfl, rfl⟩) | (at_builtin; refine wpList_push rfl _ _ 33 rfl 3 i0 (.int .i64 0) 8 Tryz.underlying33 hi hz0 hz1 hz2 rfl rfl w.heap.size pa P.length pc _ rfl _ _ rfl ((HM.out.pileSet k _).stored_other ⟨g, k, none⟩ _ (fun g2 hg e => HM.out.apart (by rw [hg]; show some g2 = some g; rw [show g2 = g from e]))) _ rfl (by simp) rfl (by omega) (by decide) (by have := HB.out.size; simp; omega) ?_; intro a4 c4 w4 hown4 hap4 hb4; have HO4 := Lib.hid hown4; have HP4 := Lib.hid hap4; have HB4 := Lib.hid hb4; clear hown4 hap4 hb4))
        go_roundw
        case rel =>
          subst hD
          refine ⟨_, c4, a4, D ++ [(n : Int)], D.length :: P, hlt, by go_num, rfl, Lib.hid ?_, by simp, HM.out.begin hlt HO4.out HP4.out, ?_⟩
          · rw [HS.out _ x HX.out, HE.out]
            unfold mstep
            rw [if_pos (show begins x = true from hbe)]
          · exact ((HB.out.setCell (p := ⟨g, D.length, none⟩) HM.out.out.lt.1 _).setCell (p := ⟨g, D.length, none⟩) HM.out.out.lt.1 _).trans HB4.out
        case measure => simp [intOf]; omega
      · have hbf : (x == 20 || x == 21 || x == 22) = false := by simpa using hbe
        rw [hbf] at HBE
        have hbx : ¬ begins x = true := hbe
        have HBX := Lib.hid hbx
        clear hbe hbf hbx
        by_cases h23 : x = 23
        · subst h23
          cases P with
          | nil =>
            have hpz : (((0 : Nat) : Int) > 0) = False := by simp
            go_wp2_with (go_at_call 110; refine (HBE.out _).mono ?_; rintro e w2 ⟨rfl, rfl⟩)
            go_roundw
            case rel =>
              subst hD
              refine ⟨_, pc, pa, D ++ [-1], [], hlt, by go_num, rfl, Lib.hid ?_, by simp, HM.out.none hlt, HB.out.setCell (p := ⟨g, D.length, none⟩) HM.out.out.lt.1 _⟩
              rw [HS.out _ _ HX.out, HE.out]
              unfold mstep
              rw [if_neg HBX.out, if_pos rfl]
            case measure => simp [intOf]; omega
          | cons p P =>
            obtain ⟨g2, rfl, hne, hct, hpd⟩ := HM.out.top
            have hpz : (0 : Int) < ((P.length + 1 : Nat) : Int) := by omega
            obtain ⟨y2, hcp, hfp⟩ := HM.out.cell (k := p) (by omega)
            unfold natV at hct
            unfold i64V at hcp
            have hpk : p ≠ k := by omega
            have hpn : (p : Int) < (n : Int) := by omega
            simp only [List.length_cons] at hpl ⊢
            have hpa : (P.length : Int) ≤ 1099511627776 := by omega
            have hpb : (P.length : Int) < (P.length : Int) + 1 := by omega
            have hpc : (0 : Int) ≤ (P.length : Int) := by omega
            have hpe : (P.length : Int) ≤ (pc : Int) := by have := HM.out.pile.le; simp at this; omega
            have hwr := IntWalk.i64_in (P.length : Int) (by omega)
            go_wp2_with (go_at_call 110; refine (HBE.out _).mono ?_; rintro e w2 ⟨rfl, rfl⟩)
            go_roundw
            case rel =>
              subst hD
              refine ⟨_, pc, _, (D ++ [(p : Int)]).set p (D.length : Int), P, hlt, by go_num, rfl, Lib.hid ?_, by simp, HM.out.pdi hlt, ?_⟩
              · rw [HS.out _ _ HX.out, HE.out]
                unfold mstep
                rw [if_neg HBX.out, if_pos rfl]
              · exact (((HB.out.setCell (p := ⟨g, D.length, none⟩) HM.out.out.lt.1 _).setCell (p := ⟨g, D.length, none⟩) HM.out.out.lt.1 _).setCell (p := ⟨g, p, none⟩) HM.out.out.lt.1 _)
            case measure => simp [intOf]; omega
        · have e23 : ((x : Int) == 23) = false := by simp; omega
          by_cases h11 : x = 11
          · subst h11
            have hpe : (0 : Int) ≤ (pc : Int) := by omega
            go_wp2_with (go_at_call 110; refine (HBE.out _).mono ?_; rintro e w2 ⟨rfl, rfl⟩)
            go_roundw
            case rel =>
              subst hD
              refine ⟨_, pc, _, D ++ [-1], [], hlt, by go_num, rfl, Lib.hid ?_, by simp, (HM.out.none hlt).clear, HB.out.setCell (p := ⟨g, D.length, none⟩) HM.out.out.lt.1 _⟩
              rw [HS.out _ _ HX.out, HE.out]
              unfold mstep
              rw [if_neg HBX.out, if_neg h23, if_pos rfl]
            case measure => simp [intOf]; omega
          · have e11 : ((x : Int) == 11) = false := by simp; omega
            go_wp2_with (go_at_call 110; refine (HBE.out _).mono ?_; rintro e w2 ⟨rfl, rfl⟩)
            go_roundw
            case rel =>
              subst hD
              refine ⟨_, pc, _, D ++ [-1], P, hlt, by go_num, rfl, Lib.hid ?_, by simp, HM.out.none hlt, HB.out.setCell (p := ⟨g, D.length, none⟩) HM.out.out.lt.1 _⟩
              rw [HS.out _ _ HX.out, HE.out]
              unfold mstep
              rw [if_neg HBX.out, if_neg h23, if_neg h11]
            case measure => simp [intOf]; omega
    · obtain rfl : k = n := by omega
      have HB := Lib.hid hb
      have HO : Hid (Own wr w.heap.size 1 (some ⟨g, 0, none⟩) k k ((matchOf l).map i64V)) := Lib.hid (hM.out.eqL (by
        have e := HE.out
        rw [HN.out, List.take_length] at e
        unfold matchOf
        rw [e, hD, Nat.sub_self]
        simp))
      clear hb hM
      go_wp2
      go_ret
      exact ⟨g, rfl, HO.out, HB.out⟩
end Go.Proofs.YtjnidopbdjbbgaaGreat
end
/-
  The reference's Match: walked (turned from Match).
-/
section
namespace Go.Proofs.YtjnidopbdjbbgaaGreat
open Go.RowKit
set_option linter.unusedVariables false
theorem Mat.wiped {w : World} {B g n : Nat} {pa : Option Addr} {pc : Nat} {D : List Int} {P : List Nat} (h : Mat w B g n pa pc D P) : Mat w B g n Option.none 0 D [] :=
  ⟨h.out, Own.nil _ _ _, by simp [blockOf], ⟨by simp, by simp⟩, h.le⟩
theorem rbegins_any (w : World) (x : Nat) : Calls Tryz.prog 27 #[.int .u8 x] w fun e w' => e = .returned (.bool (x == 20 || x == 21 || x == 22)) ∧ w = w' := by
  by_cases h0 : x = 20
  · subst h0
    go_enter Tryz.func27, Tryz.ntmps27
    go_wp2
    go_ret
    exact ⟨rfl, rfl⟩
  by_cases h1 : x = 21
  · subst h1
    go_enter Tryz.func27, Tryz.ntmps27
    go_wp2
    go_ret
    exact ⟨rfl, rfl⟩
  by_cases h2 : x = 22
  · subst h2
    go_enter Tryz.func27, Tryz.ntmps27
    go_wp2
    go_ret
    exact ⟨rfl, rfl⟩
  have e0 : ((x : Int) == 20) = false := by simp; omega
  have e1 : ((x : Int) == 21) = false := by simp; omega
  have e2 : ((x : Int) == 22) = false := by simp; omega
  rw [show (x == 20 || x == 21 || x == 22) = false by simp; omega]
  go_enter Tryz.func27, Tryz.ntmps27
  go_wp2
  go_ret
  exact ⟨rfl, rfl⟩

set_option maxRecDepth 20000 in
set_option maxHeartbeats 4000000 in
theorem rmatch_any (w : World) (a : Option Addr) (c : Nat) (l : List Nat) (hn : l.length ≤ 1099511627776) (hc : Cells w a (l.map u8V)) :
    Calls Tryz.prog 7 #[.slice a l.length c] w fun e w' => ∃ g, e = .returned (.slice (some ⟨g, 0, none⟩) l.length l.length) ∧ Own w' w.heap.size 1 (some ⟨g, 0, none⟩) l.length l.length ((matchOf l).map i64V) ∧ Below w.heap.size w w' := by
  obtain ⟨i0, hi, hz0, hz1, hz2⟩ := info_parts info3
  have HC := Lib.hid hc
  obtain ⟨n, hnn⟩ : ∃ n, n = l.length := ⟨_, rfl⟩
  have HN := Lib.hid hnn
  rw [← hnn] at hn ⊢
  clear hc hnn
  go_enter Tryz.func7, Tryz.ntmps7
  go_wp2_with (at_make; refine wpList_mk rfl _ _ 33 3 rfl i0 (.int .i64 0) 8 Tryz.underlying33 hi hz0 hz1 hz2 rfl n rfl rfl (by omega) (by simp only [maxLen]; omega) ?_; intro g w1 hown1 hb1; have HO1 := Lib.hid hown1; have HB1 := Lib.hid hb1; clear hown1 hb1)
  have hI : ∀ k, (matchFrom n ([], []) (l.take k)).1.length = min k n := fun k => by rw [matchFrom_len]; simp [HN.out]
  have HI := Lib.hid hI
  have HS : Hid (∀ k x, l[k]? = some x → matchFrom n ([], []) (l.take (k + 1)) = mstep n (matchFrom n ([], []) (l.take k)) x) := Lib.hid fun k x hx => by
    rw [List.take_add_one, hx, matchFrom_app]; rfl
  clear hI
  go_loopw [4, 5] (fun p i wr => ∃ (k pc : Nat) (pa : Option Addr) (D : List Int) (P : List Nat), k ≤ n ∧ i = .int .i64 k ∧ p = .slice pa P.length pc ∧ Hid (matchFrom n ([], []) (l.take k) = (D, P)) ∧ D.length = k ∧ Mat wr w.heap.size g n pa pc D P ∧ Below w.heap.size w wr) (fun _ i _ => n - (intOf i).toNat)
  case atStart =>
    refine ⟨0, 0, none, [], [], Nat.zero_le _, rfl, rfl, Lib.hid rfl, rfl, ⟨?_, Own.nil _ _ _, by simp [blockOf], piled_nil, Nat.zero_le _⟩, HB1.out⟩
    exact HO1.out.eqL (by simp [i64V])
  case round =>
    obtain ⟨k, pc, pa, D, P, hk, rfl, rfl, HE, hD, hM, hb⟩ := hrel
    by_cases hlt : k < n
    · have hxl : k < l.length := by rw [← HN.out]; exact hlt
      obtain ⟨x, hx⟩ : ∃ x, l[k]? = some x := ⟨_, List.getElem?_eq_getElem hxl⟩
      obtain ⟨b, off, rfl, hcx⟩ := (HC.out.below hb).getm hx
      obtain ⟨y, hcy, hfy⟩ := hM.cell hlt
      have hbg : b ≠ g := fun e => by
        obtain ⟨b2, o2, e2, h2⟩ := HC.out.getm hx
        cases e2
        have h3 := World.block_lt_of_cell? w _ h2
        have h4 := hM.out.lt.1
        simp only at h3
        omega
      have hcx1 := cell_set (k := k) (v := .int .i64 (-1)) hcx hbg
      have hcx2 := cell_set (k := k) (v := .int .i64 n) hcx1 hbg
      unfold u8V at hcx1 hcx2
      unfold u8V at hcx
      unfold i64V at hcy
      have HX := Lib.hid hx
      have HB := Lib.hid hb
      have HM := Lib.hid hM
      have HBE := Lib.hid (fun w => rbegins_any w x)
      have hk0 : (0 : Int) ≤ (k : Int) := by omega
      have hpl := hM.le2
      clear hx hb hM hk
      by_cases hbe : (x == 20 || x == 21 || x == 22) = true
      · rw [hbe] at HBE
        go_wp2_with (first | (go_at_call 27; refine (HBE.out _).mono ?_; rintro e w2 ⟨rfl, rfl⟩) | (at_builtin; refine wpList_push rfl _ _ 33 rfl 3 i0 (.int .i64 0) 8 Tryz.underlying33 hi hz0 hz1 hz2 rfl rfl w.heap.size pa P.length pc _ rfl _ _ rfl ((HM.out.pileSet k _).stored_other ⟨g, k, none⟩ _ (fun g2 hg e => HM.out.apart (by rw [hg]; show some g2 = some g; rw [show g2 = g from e]))) _ rfl (by simp) rfl (by omega) (by decide) (by have := HB.out.size; simp; omega) ?_; intro a4 c4 w4 hown4 hap4 hb4; have HO4 := Lib.hid hown4; have HP4 := Lib.hid hap4; have HB4 := Lib.hid hb4; clear hown4 hap4 hb4))
        go_roundw
        case rel =>
          subst hD
          refine ⟨_, c4, a4, D ++ [(n : Int)], D.length :: P, hlt, by go_num, rfl, Lib.hid ?_, by simp, HM.out.begin hlt HO4.out HP4.out, ?_⟩
          · rw [HS.out _ x HX.out, HE.out]
            unfold mstep
            rw [if_pos (show begins x = true from hbe)]
          · exact ((HB.out.setCell (p := ⟨g, D.length, none⟩) HM.out.out.lt.1 _).setCell (p := ⟨g, D.length, none⟩) HM.out.out.lt.1 _).trans HB4.out
        case measure => simp [intOf]; omega
      · have hbf : (x == 20 || x == 21 || x == 22) = false := by simpa using hbe
        rw [hbf] at HBE
        have hbx : ¬ begins x = true := hbe
        have HBX := Lib.hid hbx
        clear hbe hbf hbx
        by_cases h23 : x = 23
        · subst h23
          cases P with
          | nil =>
            have hpz : (((0 : Nat) : Int) > 0) = False := by simp
            go_wp2_with (go_at_call 27; refine (HBE.out _).mono ?_; rintro e w2 ⟨rfl, rfl⟩)
            go_roundw
            case rel =>
              subst hD
              refine ⟨_, pc, pa, D ++ [-1], [], hlt, by go_num, rfl, Lib.hid ?_, by simp, HM.out.none hlt, HB.out.setCell (p := ⟨g, D.length, none⟩) HM.out.out.lt.1 _⟩
              rw [HS.out _ _ HX.out, HE.out]
              unfold mstep
              rw [if_neg HBX.out, if_pos rfl]
            case measure => simp [intOf]; omega
          | cons p P =>
            obtain ⟨g2, rfl, hne, hct, hpd⟩ := HM.out.top
            have hpz : (0 : Int) < ((P.length + 1 : Nat) : Int) := by omega
            obtain ⟨y2, hcp, hfp⟩ := HM.out.cell (k := p) (by omega)
            unfold natV at hct
            unfold i64V at hcp
            have hpk : p ≠ k := by omega
            have hpn : (p : Int) < (n : Int) := by omega
            simp only [List.length_cons] at hpl ⊢
            have hpa : (P.length : Int) ≤ 1099511627776 := by omega
            have hpb : (P.length : Int) < (P.length : Int) + 1 := by omega
            have hpc : (0 : Int) ≤ (P.length : Int) := by omega
            have hpe : (P.length : Int) ≤ (pc : Int) := by have := HM.out.pile.le; simp at this; omega
            have hwr := IntWalk.i64_in (P.length : Int) (by omega)
            go_wp2_with (go_at_call 27; refine (HBE.out _).mono ?_; rintro e w2 ⟨rfl, rfl⟩)
            go_roundw
            case rel =>
              subst hD
              refine ⟨_, pc, _, (D ++ [(p : Int)]).set p (D.length : Int), P, hlt, by go_num, rfl, Lib.hid ?_, by simp, HM.out.pdi hlt, ?_⟩
              · rw [HS.out _ _ HX.out, HE.out]
                unfold mstep
                rw [if_neg HBX.out, if_pos rfl]
              · exact (((HB.out.setCell (p := ⟨g, D.length, none⟩) HM.out.out.lt.1 _).setCell (p := ⟨g, D.length, none⟩) HM.out.out.lt.1 _).setCell (p := ⟨g, p, none⟩) HM.out.out.lt.1 _)
            case measure => simp [intOf]; omega
        · have e23 : ((x : Int) == 23) = false := by simp; omega
          by_cases h11 : x = 11
          · subst h11
            have hpe : (0 : Int) ≤ (pc : Int) := by omega
            go_wp2_with (go_at_call 27; refine (HBE.out _).mono ?_; rintro e w2 ⟨rfl, rfl⟩)
            go_roundw
            case rel =>
              subst hD
              refine ⟨_, 0, Option.none, D ++ [-1], [], hlt, by go_num, rfl, Lib.hid ?_, by simp, (HM.out.none hlt).wiped, HB.out.setCell (p := ⟨g, D.length, none⟩) HM.out.out.lt.1 _⟩
              rw [HS.out _ _ HX.out, HE.out]
              unfold mstep
              rw [if_neg HBX.out, if_neg h23, if_pos rfl]
            case measure => simp [intOf]; omega
          · have e11 : ((x : Int) == 11) = false := by simp; omega
            go_wp2_with (go_at_call 27; refine (HBE.out _).mono ?_; rintro e w2 ⟨rfl, rfl⟩)
            go_roundw
            case rel =>
              subst hD
              refine ⟨_, pc, _, D ++ [-1], P, hlt, by go_num, rfl, Lib.hid ?_, by simp, HM.out.none hlt, HB.out.setCell (p := ⟨g, D.length, none⟩) HM.out.out.lt.1 _⟩
              rw [HS.out _ _ HX.out, HE.out]
              unfold mstep
              rw [if_neg HBX.out, if_neg h23, if_neg h11]
            case measure => simp [intOf]; omega
    · obtain rfl : k = n := by omega
      have HB := Lib.hid hb
      have HO : Hid (Own wr w.heap.size 1 (some ⟨g, 0, none⟩) k k ((matchOf l).map i64V)) := Lib.hid (hM.out.eqL (by
        have e := HE.out
        rw [HN.out, List.take_length] at e
        unfold matchOf
        rw [e, hD, Nat.sub_self]
        simp))
      clear hb hM
      go_wp2
      go_ret
      exact ⟨g, rfl, HO.out, HB.out⟩
end Go.Proofs.YtjnidopbdjbbgaaGreat
end
