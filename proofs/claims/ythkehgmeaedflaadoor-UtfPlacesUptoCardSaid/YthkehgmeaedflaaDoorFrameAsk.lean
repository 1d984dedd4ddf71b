/-
  An argument that is a slice of questions, read as data.
-/
import Derived.Test.YthkehgmeaedflaaDoorFrame
import Derived.Test.YthkehgmeaedflaaDoorUPlaces
import Derived.Deep.Slices
import Derived.Deep.Fields
import Derived.ChangeSame
namespace Go.Proofs.YthkehgmeaedflaaDoor
open Go.ChangeShapes Go.WideShapes Go.ChangeAt Go.RowKit Go.Deep

theorem take_one {cs : List Value} {j : Nat} {v : Value} (h : (cs.drop j).take 1 = [v]) : cs[j]? = some v := by
  have := congrArg (fun l => l[0]?) h
  simpa [List.getElem?_take, List.getElem?_drop] using this

variable {H : Type} {enc : TypeId × Value → H} {W : World}

/-- One question's cells. -/
theorem came_ask {a : Addr} {i n : Nat} {cs : List Value} {y : DataW H × List MemPlace} (hc : W.cells? 0 (a.add (i * 3)) 3 = some cs) (ht : DataW.trod enc Tryd.prog W 0 (fun _ => true) true n 70 cs = some y) :
    ∃ q : Int × Int × Int, ∀ j u, (askL q)[j]? = some u → W.cell? (a.add (i * 3 + j)) = some u := by
  obtain ⟨_, hl, hat⟩ := World.cells?_some hc
  obtain ⟨xs, m, _, _, _, hlen, hf⟩ := DataW.trod_struct Tryd.underlying70 ht
  have c3 : Tryd.prog.cellsOf 3 = 1 := by kernel_rfl
  have hg : ∀ j, j < 3 → ∃ z : Int, cs[j]? = some (.int .i64 z) := by
    intro j hj
    have hx : xs[j]? = some (xs[j]'(by simp at hlen; omega)) := List.getElem?_eq_getElem _
    obtain ⟨f, hfj, h1, h2⟩ : ∃ f : Field, (#[{ name := "Do", type := 3, offset := 0, embedded := false, tag := "", pkgPath := "", byteOffset := 0 }, { name := "A", type := 3, offset := 1, embedded := false, tag := "", pkgPath := "", byteOffset := 8 }, { name := "B", type := 3, offset := 2, embedded := false, tag := "", pkgPath := "", byteOffset := 16 }] : Array Field)[j]? = some f ∧ f.type = 3 ∧ f.offset = j := by
      match j, hj with
      | 0, _ => exact ⟨_, rfl, rfl, rfl⟩
      | 1, _ => exact ⟨_, rfl, rfl, rfl⟩
      | 2, _ => exact ⟨_, rfl, rfl, rfl⟩
    have h3 := hf j f hfj
    rw [h1, h2, c3, hx] at h3
    obtain ⟨z, hz, _⟩ := DataW.trod_int Tryd.underlying3 h3
    exact ⟨z, take_one hz⟩
  obtain ⟨z0, e0⟩ := hg 0 (by omega)
  obtain ⟨z1, e1⟩ := hg 1 (by omega)
  obtain ⟨z2, e2⟩ := hg 2 (by omega)
  refine ⟨(z0, z1, z2), fun j u hu => ?_⟩
  have hj : j < 3 := (List.getElem?_eq_some_iff.1 hu).1
  have h4 := hat j hj
  rw [Go.Deep.add_add] at h4
  rw [h4]
  match j, hj with
  | 0, _ => rw [e0]; exact hu
  | 1, _ => rw [e1]; exact hu
  | 2, _ => rw [e2]; exact hu

/-- A slice of questions that came in. -/
theorem came_asks {a : Option Addr} {n c : Nat} {d : DataW H} {p : List MemPlace} (h : DataW.Trod enc Tryd.prog W 0 (fun _ => true) true 65 (.slice a n c) d p) :
    ∃ L : List (Int × Int × Int), n = L.length ∧ L.length ≤ Rows.uptoBulk d ∧ Cells W a (L.flatMap askL) := by
  obtain ⟨fuel, hf⟩ := h
  have c70 : Tryd.prog.cellsOf 70 = 3 := by kernel_rfl
  rcases open_slice Tryd.underlying65 hf with ⟨hcs, hx⟩ | ⟨a', len, cap, m, n', D, Pl, hcs, _, hl, _, hm, hx, hi⟩
  · simp [Value.cells] at hcs
    obtain ⟨rfl, rfl, rfl⟩ := hcs
    exact ⟨[], rfl, Nat.zero_le _, Cells.nil _ _⟩
  · simp [Value.cells] at hcs
    obtain ⟨rfl, rfl, rfl⟩ := hcs
    simp only [if_true] at hm
    rw [c70] at hi
    have hq : ∀ i, ∃ q : Int × Int × Int, i < m → ∀ j u, (askL q)[j]? = some u → W.cell? (a'.add (i * 3 + j)) = some u := by
      intro i
      by_cases him : i < m
      · obtain ⟨cs', h1, h2⟩ := hi i him
        obtain ⟨q, hq⟩ := came_ask h1 h2
        exact ⟨q, fun _ => hq⟩
      · exact ⟨(0, 0, 0), fun h => absurd h him⟩
    obtain ⟨f, hf2⟩ := Classical.axiomOfChoice hq
    have hlm : n ≤ m := by omega
    refine ⟨(List.range n).map f, by simp, ?_, ?_⟩
    · simp only [Prod.mk.injEq] at hx
      rw [hx.1]
      have h1 := bulk_length ((List.range n).map D)
      simp only [Rows.uptoBulk, List.length_map, List.length_range] at h1 ⊢
      omega
    · intro hne
      have hn : 0 < n := by
        rcases Nat.eq_zero_or_pos n with h0 | h0
        · subst h0; simp at hne
        · exact h0
      have hz := hf2 0 (by omega) 0 (.int .i64 (f 0).1) rfl
      obtain ⟨b, off, spot⟩ := a'
      have hspot : spot = none := by simpa [Addr.add] using World.cell?_spot hz
      subst hspot
      refine ⟨b, off, rfl, fun j u hu => ?_⟩
      have hL : ((List.range n).map f).length = n := by simp
      have hjl : j < n * 3 := by
        have := (List.getElem?_eq_some_iff.1 hu).1
        rw [askL_len, hL] at this
        exact this
      have hk : j / 3 < n := by omega
      have hx2 : ((List.range n).map f)[j / 3]? = some (f (j / 3)) := by
        rw [List.getElem?_map, List.getElem?_range hk]
        rfl
      have h5 := askL_at _ (j / 3) _ hx2 (j % 3) (by omega)
      rw [show j / 3 * 3 + j % 3 = j by omega, hu] at h5
      have h6 := hf2 (j / 3) (by omega) (j % 3) u h5.symm
      rw [show j / 3 * 3 + j % 3 = j by omega, Addr.add_lit] at h6
      exact h6

end Go.Proofs.YthkehgmeaedflaaDoor
