/-
  What bytes stand for, as the language itself reads them; the conversions between texts and characters.
-/
import Derived.Test.YthkehgmeaedflaaDoorKit
import Derived.Lib.OthersKept
import Derived.Laws.Cover4
namespace Go.Proofs.YthkehgmeaedflaaDoor
open Go.RowKit

theorem decode_width (s : ByteArray) (i : Nat) : 1 ≤ (Utf8.decode s i).2 ∧ (Utf8.decode s i).2 ≤ 4 := by
  simp only [Utf8.decode]
  repeat' split
  all_goals simp

theorem decode_rune (s : ByteArray) (i : Nat) : (Utf8.decode s i).1 ≤ 1114111 := by
  have hb : ∀ k, (s.get! (i + k)).toNat < 256 := fun k => (s.get! (i + k)).toNat_lt
  have h0 := hb 0
  simp only [Utf8.decode]
  repeat' split
  all_goals simp_all [Utf8.runeError, Utf8.valid]
  all_goals omega

/-- The characters of a text from a byte on, with the bytes at which they begin, so many at most. -/
def spotsN (s : ByteArray) : Nat → Nat → List (Nat × Nat)
  | 0, _ => []
  | b + 1, i => if i < s.size then (i, (Utf8.decode s i).1) :: spotsN s b (i + (Utf8.decode s i).2) else []

theorem spotsN_more (s : ByteArray) (b c i : Nat) (hb : s.size ≤ i + b) (hc : s.size ≤ i + c) : spotsN s b i = spotsN s c i := by
  induction b generalizing c i with
  | zero =>
    cases c with
    | zero => rfl
    | succ c => simp [spotsN]; omega
  | succ b ih =>
    cases c with
    | zero => simp [spotsN]; omega
    | succ c =>
      have := decode_width s i
      simp only [spotsN]
      split
      · rw [ih c (i + (Utf8.decode s i).2) (by omega) (by omega)]
      · rfl

/-- The characters of a text from a byte on. -/
def spotsFrom (s : ByteArray) (i : Nat) : List (Nat × Nat) := spotsN s s.size i

theorem spotsFrom_more (s : ByteArray) (i : Nat) (h : i < s.size) : spotsFrom s i = (i, (Utf8.decode s i).1) :: spotsFrom s (i + (Utf8.decode s i).2) := by
  have hw := decode_width s i
  obtain ⟨b, hb⟩ : ∃ b, s.size = b + 1 := ⟨s.size - 1, by omega⟩
  unfold spotsFrom
  rw [show spotsN s s.size i = spotsN s (b + 1) i from by rw [hb]]
  simp only [spotsN, if_pos h]
  rw [spotsN_more s b s.size (i + (Utf8.decode s i).2) (by omega) (by omega)]

theorem spotsFrom_end (s : ByteArray) (i : Nat) (h : ¬ i < s.size) : spotsFrom s i = [] := by
  unfold spotsFrom
  cases s.size with
  | zero => rfl
  | succ b => simp [spotsN]; omega

theorem spotsN_le (s : ByteArray) (b i : Nat) : (spotsN s b i).length ≤ b := by
  induction b generalizing i with
  | zero => simp [spotsN]
  | succ b ih =>
    simp only [spotsN]
    split
    · have := ih (i + (Utf8.decode s i).2)
      simp
      omega
    · simp

/-- The characters of a text. -/
def textRunes (s : ByteArray) : List Int := (spotsFrom s 0).map fun x => (x.2 : Int)

theorem textRunes_le (s : ByteArray) : (textRunes s).length ≤ s.size := by
  rw [textRunes, List.length_map]
  exact spotsN_le s s.size 0

theorem runesFrom_eq (s : ByteArray) (b i : Nat) (acc : Array Value) : Conv.runesFrom s b i acc = acc ++ ((spotsN s b i).map fun x => Value.int .i32 (x.2 : Int)).toArray := by
  induction b generalizing i acc with
  | zero => simp [Conv.runesFrom, spotsN]
  | succ b ih =>
    simp only [Conv.runesFrom, spotsN]
    split
    · rw [ih]
      apply Array.ext'
      simp
    · simp

theorem runesFrom_text (s : ByteArray) : Conv.runesFrom s s.size 0 #[] = ((textRunes s).map (Value.int .i32)).toArray := by
  rw [runesFrom_eq]
  apply Array.ext'
  simp [textRunes, spotsFrom, Function.comp_def]

section
variable {P : Program} {w : World}

/-- '[]rune(s)', in the walk. -/
theorem wpList_runes {ops : Array Oper} {rest : List Oper} {o : Oper} {act : Act} {Q : Exit → Act → World → Prop} (hgd : o.guard = none) (x : Operand) (src dst e : TypeId) (ho : o.op = .convert src dst x)
    (hs : P.underlying src = some .string) (hd : P.underlying dst = some (.slice e)) (he : P.underlying e = some (.int .i32)) (s : ByteArray) (hx : act.eval x = .string s) (hmax : s.size ≤ 70368744177664)
    (h : ∀ g c w', Own w' w.heap.size 1 (some ⟨g, 0, none⟩) (textRunes s).length c ((textRunes s).map (Value.int .i32)) → Below w.heap.size w w' → wpList P ops Q rest (act.put o.dst (.slice (some ⟨g, 0, none⟩) (textRunes s).length c)) w') : wpList P ops Q (o :: rest) act w := by
  have hle := textRunes_le s
  have hsz : (Conv.runesFrom s s.size 0 #[]).size = (textRunes s).length := by rw [runesFrom_text]; simp
  have hr := run_runes_of_string (P := P) w src dst e s hs hd he (by rw [hsz]; omega)
  rw [hsz, runesFrom_text] at hr
  refine wpList_plain hgd fun _ hK => ?_
  unfold Oper.wp execOp
  simp only [ho, hx, Sem.run_bind, Sem.run_pure, hr, Result.andThen_ok]
  have hge := grownCap_ge w (textRunes s).length 0 e
  refine hK _ _ (h _ _ _ ⟨by simp, hge, grownCap_le_maxLen _ _ _ _ (by simp [maxLen]; omega), .inr ⟨_, rfl, Nat.le_refl _, by simp, fun j u hu => ?_, fun j hj => ⟨?_, World.frozen?_alloc_new w.drew _ e j⟩⟩⟩ (((Below.refl _ _).drew).alloc (by simp) _))
  · have hc := World.cell?_alloc_new w.drew (((textRunes s).map (Value.int .i32)).toArray ++ Array.replicate (grownCap w (textRunes s).length 0 e - (textRunes s).length) (.int .i32 0)) e j
    refine hc.trans ?_
    rw [Array.getElem?_append_left (by
      have := (List.getElem?_eq_some_iff.1 hu).1
      simpa using this)]
    simpa using hu
  · have hc := World.cell?_alloc_new w.drew (((textRunes s).map (Value.int .i32)).toArray ++ Array.replicate (grownCap w (textRunes s).length 0 e - (textRunes s).length) (.int .i32 0)) e j
    rw [show (w.drew.alloc (.cells (((textRunes s).map (Value.int .i32)).toArray ++ Array.replicate (grownCap w (textRunes s).length 0 e - (textRunes s).length) (.int .i32 0)) e)).cell? ⟨w.heap.size, j, none⟩ = _ from hc]
    rw [Array.getElem?_eq_getElem (by simp; omega)]
    rfl

/-- 'string(l)', l a slice of characters. -/
theorem run_text (src dst e : TypeId) (hs : P.underlying src = some (.slice e)) (he : P.underlying e = some (.int .i32)) (hd : P.underlying dst = some .string)
    (a : Option Addr) (n c : Nat) (l : List Int) (hl : l.length = n) (hc : Cells w a (l.map (Value.int .i32))) : (convert src dst (.slice a n c)).run P w = .ok (.string (runesBytes l)) w := by
  subst hl
  cases a with
  | none =>
    have : l = [] := by
      by_cases h : l = []
      · exact h
      · obtain ⟨b, off, he, _⟩ := hc (by simpa using h)
        cases he
    subst this
    exact run_convert_runes_nil w src dst e 0 c hs he hd
  | some p =>
    have := run_convert_runes (P := P) w src dst e p l.length c l (Nat.le_refl _) hs he hd (fun j hj => by
      obtain ⟨b, off, h1, h2⟩ := hc (by intro e0; simp at e0; subst e0; simp at hj)
      cases h1
      rw [Addr.add_lit]
      refine h2 j _ ?_
      simp [List.getD, List.getElem?_eq_getElem hj])
    rwa [List.take_length] at this

end

end Go.Proofs.YthkehgmeaedflaaDoor
