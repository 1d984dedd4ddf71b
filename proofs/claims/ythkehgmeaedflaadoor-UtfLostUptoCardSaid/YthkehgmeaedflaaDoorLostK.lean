/-
  What a round of the law UtfLost keeps.
-/
import Derived.Test.YthkehgmeaedflaaDoorIter
import Derived.Test.YthkehgmeaedflaaDoorNew
import Derived.Test.YthkehgmeaedflaaDoorCheck
namespace Go.Proofs.YthkehgmeaedflaaDoor
open Go.RowKit

theorem grownBy_setAt (W : World) (b i : Nat) (v : Value) : W.grownBy (W.setCell ⟨b, i, none⟩ v) (some b) :=
  ⟨rfl, rfl, rfl, by simp, fun k _ hk => Below.heap_setCell W ⟨b, i, none⟩ v k (fun e => hk (by rw [e]))⟩

/-- The slice of the places, whatever lies in it. -/
def BegAt (W : World) (B g n : Nat) : Prop := ∃ xs, Own W B 1 (some ⟨g, 0, none⟩) n n xs
theorem BegAt.at {W : World} {B g n : Nat} (h : BegAt W B g n) {j : Nat} (hj : j < n) : (∃ v, W.cell? ⟨g, j, none⟩ = some v) ∧ W.frozen? ⟨g, j, none⟩ = false := by
  obtain ⟨xs, h⟩ := h
  obtain ⟨g', e, h1, h2, h3, h4⟩ := h.addr (by omega)
  cases e
  have h5 := h4 j (by omega)
  exact ⟨Option.isSome_iff_exists.1 h5.1, h5.2⟩
theorem BegAt.bound {W : World} {B g n : Nat} (h : BegAt W B g n) (hn : 0 < n) : B ≤ g ∧ g < W.heap.size := by
  obtain ⟨xs, h⟩ := h
  obtain ⟨g', e, h1, h2, h3, h4⟩ := h.addr hn
  cases e
  exact ⟨h1, h2⟩
theorem BegAt.obj {W : World} {B g n : Nat} (h : BegAt W B g n) (hn : 0 < n) {o : Obj} (ho : W.heap[g]? = some o) : o.isCells = true ∧ o.isWalk = false := by
  obtain ⟨⟨v, hv⟩, _⟩ := h.at hn
  simp only [World.cell?, ho] at hv
  cases o <;> simp_all [Obj.isCells, Obj.isWalk]
theorem BegAt.grown {W W' : World} {B g n : Nat} {row : Option Nat} (h : BegAt W B g n) (hg : W.grownBy W' row) (hne : some g ≠ row) : BegAt W' B g n := by
  obtain ⟨xs, h⟩ := h
  refine ⟨xs, h.same hg.size (fun g' e => ?_)⟩
  cases e
  rcases h.row with ⟨e, _⟩ | ⟨g2, e2, h1, h2, _⟩
  · cases e
  · cases e2
    exact hg.block g h2 hne
theorem BegAt.set {W : World} {B g n : Nat} (h : BegAt W B g n) {j : Nat} (hj : j < n) (v : Value) : BegAt (W.setCell ⟨g, j, none⟩ v) B g n := by
  obtain ⟨xs, h⟩ := h
  exact ⟨_, h.stored j hj v⟩
theorem boxed_away {W : World} {b : Nat} {t : TypeId} {v : Value} (h : Boxed W b t v) {g : Nat} (hne : b ≠ g) (j : Nat) (u : Value) : Boxed (W.setCell ⟨g, j, none⟩ u) b t v :=
  h.kept (grownBy_setAt W g j u) (fun e => hne (by cases e; rfl))

/-- What the law holds from round to round: its place by bytes, by characters, its slice, the iterator's text. -/
structure Lst (W w3 : World) (N g Cb Bu n : Nat) (s : ByteArray) (p k : Nat) : Prop where
  pos : Boxed W N 3 (.int .i64 (p : Nat))
  num : Boxed W (N + 1) 3 (.int .i64 (k : Nat))
  sl : Boxed W Cb 84 (.slice (some ⟨g, 0, none⟩) n n)
  txt : Boxed W Bu 9 (.string s)
  beg : BegAt W (N + 2) g n
  low : Below N w3 W

variable {W W' w3 : World} {N g Cb Bu n : Nat} {s : ByteArray} {p k : Nat}
theorem Lst.below (h : Lst W w3 N g Cb Bu n s p k) (hb : Below W.heap.size W W') (hN : N ≤ W.heap.size) : Lst W' w3 N g Cb Bu n s p k :=
  ⟨h.pos.kept (below_grown hb) (by simp), h.num.kept (below_grown hb) (by simp), h.sl.kept (below_grown hb) (by simp), h.txt.kept (below_grown hb) (by simp), h.beg.grown (below_grown hb) (by simp), h.low.trans (hb.mono hN)⟩
theorem Lst.setPos (h : Lst W w3 N g Cb Bu n s p k) (hn : 0 < n) (h1 : g < Cb) (h2 : Cb < Bu) (q : Nat) : Lst (W.setCell ⟨N, 0, none⟩ (.int .i64 (q : Nat))) w3 N g Cb Bu n s q k := by
  have hb := h.beg.bound hn
  exact ⟨h.pos.set _, boxed_away h.num (by omega) 0 _, boxed_away h.sl (by omega) 0 _, boxed_away h.txt (by omega) 0 _, h.beg.grown (grownBy_setAt _ _ _ _) (by simp; omega), h.low.setCell (p := ⟨N, 0, none⟩) (Nat.le_refl _) _⟩
theorem Lst.setNum (h : Lst W w3 N g Cb Bu n s p k) (hn : 0 < n) (h1 : g < Cb) (h2 : Cb < Bu) (q : Nat) : Lst (W.setCell ⟨N + 1, 0, none⟩ (.int .i64 (q : Nat))) w3 N g Cb Bu n s p q := by
  have hb := h.beg.bound hn
  exact ⟨boxed_away h.pos (by omega) 0 _, h.num.set _, boxed_away h.sl (by omega) 0 _, boxed_away h.txt (by omega) 0 _, h.beg.grown (grownBy_setAt _ _ _ _) (by simp; omega), h.low.setCell (p := ⟨N + 1, 0, none⟩) (Nat.le_succ _) _⟩
theorem Lst.setBeg (h : Lst W w3 N g Cb Bu n s p k) (hn : 0 < n) (h1 : g < Cb) (h2 : Cb < Bu) {j : Nat} (hj : j < n) (v : Value) : Lst (W.setCell ⟨g, j, none⟩ v) w3 N g Cb Bu n s p k := by
  have hb := h.beg.bound hn
  exact ⟨boxed_away h.pos (by omega) j _, boxed_away h.num (by omega) j _, boxed_away h.sl (by omega) j _, boxed_away h.txt (by omega) j _, h.beg.set hj v, h.low.setCell (p := ⟨g, j, none⟩) (by show N ≤ g; omega) _⟩
theorem lst_own {β : Type} (f : β → Nat) (d : β → Nat) (hn : 0 < n) (hN : N ≤ w3.heap.size) {B : Nat} (hB : N ≤ B) : OwnFrom B (fun (x : β) W => Lst W w3 N g Cb Bu n s (f x) (d x)) := by
  rintro x X Y row h hg hr
  have hne : ∀ {b : Nat} {t : TypeId} {v : Value}, Boxed X b t v → some b ≠ row := by
    rintro b t v hb e
    obtain ⟨_, o, ho, hc⟩ := hr b e.symm
    rw [show X.heap[b]? = _ from hb] at ho
    cases ho
    cases hc
  refine ⟨h.pos.kept hg (hne h.pos), h.num.kept hg (hne h.num), h.sl.kept hg (hne h.sl), h.txt.kept hg (hne h.txt), h.beg.grown hg (fun e => ?_), h.low.grown hg (Nat.le_trans hN h.low.size) (fun k e => Nat.le_trans hB (hr k e).1)⟩
  obtain ⟨_, o, ho, hc⟩ := hr g e.symm
  rw [(h.beg.obj hn ho).1] at hc
  cases hc
/-- A store into a block of cells, held for the iterator. -/
theorem keepsS_set {b : Nat} (W : World) {g : Nat} (j : Nat) (v : Value) (h2 : 2 ≤ g) (hne : g ≠ b) (hw : ∀ o : Obj, W.heap[g]? = some o → o.isWalk = false) : KeepsS b W (W.setCell ⟨g, j, none⟩ v) :=
  KeepsS.grown (grownBy_setAt W g j v) (fun i e => by cases e; exact ⟨h2, hne, hw⟩)
theorem boxed_walk {b : Nat} {t : TypeId} {v : Value} (h : Boxed W b t v) : ∀ o : Obj, W.heap[b]? = some o → o.isWalk = false := by
  intro o ho
  rw [show W.heap[b]? = _ from h] at ho
  cases ho
  rfl
theorem keepsO_below (hb : Below W.heap.size W W') : KeepsOthers W W' := KeepsOthers.of_grownBy (below_grown hb) (fun j o e => by cases e)

end Go.Proofs.YthkehgmeaedflaaDoor
