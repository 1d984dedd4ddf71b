/-
  The stack of explicit levels, list by list: what stands in an isolate leaves the stack behind it as it was ahead of it. Plain laws.
-/
section

namespace Go.Proofs.YtjnidopbdjbbgaaGreat
set_option linter.unusedVariables false

/-- One entry: its level, its override (0: none), is it an isolate's? -/
structure Ent where
  level : Nat
  over : Nat
  iso : Bool
/-- The stack, its last entry first, and the three counts. -/
structure St where
  l : List Ent
  isos : Nat
  embs : Nat
  valid : Nat

def St.top (s : St) : Ent := s.l.headD ⟨0, 0, false⟩
/-- The next odd, or even, level. -/
def nextLevel (n : Nat) (odd : Bool) : Nat := if ((n + 1) % 2 != 0) == odd then n + 1 else n + 2
/-- Is there room? -/
def St.room (s : St) (odd : Bool) : Bool := nextLevel s.top.level odd ≤ 125 && s.isos == 0 && s.embs == 0
def St.put (s : St) (odd : Bool) (over : Nat) (iso : Bool) : St := { s with l := ⟨nextLevel s.top.level odd, over, iso⟩ :: s.l }
/-- An isolate's entry, and those above it, off. -/
def St.pop (s : St) : St :=
  if 0 < s.isos then { s with isos := s.isos - 1 }
  else if 0 < s.valid then { l := (s.l.dropWhile fun e => !e.iso).tail, isos := 0, embs := 0, valid := s.valid - 1 }
  else s
def begins (c : Nat) : Bool := c == 20 || c == 21 || c == 22
/-- The stack behind one character. -/
def St.next (s : St) (c auto : Nat) : St :=
  if c = 15 ∨ c = 16 ∨ c = 17 ∨ c = 18 then
    let odd := c == 17 || c == 18
    if s.room odd then s.put odd (if c = 18 then 2 else if c = 16 then 1 else 0) false
    else if s.isos = 0 then { s with embs := s.embs + 1 } else s
  else if begins c then
    let odd := c == 21 || c == 22 && auto == 1
    if s.room odd then { s.put odd 0 true with valid := s.valid + 1 } else { s with isos := s.isos + 1 }
  else if c = 23 then s.pop
  else if c = 19 then
    if 0 < s.isos then s
    else if 0 < s.embs then { s with embs := s.embs - 1 }
    else if 1 < s.l.length ∧ s.top.iso = false then { s with l := s.l.tail } else s
  else if c = 11 then { l := s.l.drop (s.l.length - 1), isos := 0, embs := 0, valid := 0 }
  else s

/-- The stack t lies in the isolate that was begun at s. -/
def Within (t s : St) : Prop :=
  (∃ e : Ent, e.iso = true ∧ t.l.dropWhile (fun e => !e.iso) = e :: s.l ∧ t.isos = 0 ∧ s.isos = 0 ∧ s.embs = 0 ∧ t.valid = s.valid + 1) ∨ t = { s with isos := s.isos + 1 }

theorem within_begin (s : St) (c auto : Nat) (hc : begins c = true) : Within (s.next c auto) s := by
  have h1 : ¬ (c = 15 ∨ c = 16 ∨ c = 17 ∨ c = 18) := by
    intro h
    simp only [begins, Bool.or_eq_true, beq_iff_eq] at hc
    omega
  unfold St.next
  rw [if_neg h1, if_pos hc]
  by_cases hr : s.room (c == 21 || c == 22 && auto == 1) = true
  · rw [if_pos hr]
    simp only [St.room, Bool.and_eq_true, beq_iff_eq] at hr
    exact .inl ⟨⟨nextLevel s.top.level (c == 21 || c == 22 && auto == 1), 0, true⟩, rfl, by simp [St.put], by simp [St.put]; exact hr.1.2, hr.1.2, hr.2, rfl⟩
  · rw [if_neg hr]
    exact .inr rfl

theorem within_end (t s : St) (auto : Nat) (h : Within t s) : t.next 23 auto = s := by
  have e : t.next 23 auto = t.pop := by simp [St.next, begins]
  rw [e]
  unfold St.pop
  rcases h with ⟨x, _, hd, h1, h2, h3, h4⟩ | rfl
  · rw [if_neg (by omega), if_pos (by omega), hd]
    cases s
    simp only at h2 h3 h4 ⊢
    subst h2 h3
    simp [h4]
  · rw [if_pos (by show 0 < s.isos + 1; omega)]
    cases s
    simp

theorem within_other (t s : St) (c auto : Nat) (h : Within t s) (h1 : begins c = false) (h2 : c ≠ 23) (h3 : c ≠ 11) : Within (t.next c auto) s := by
  unfold St.next
  split
  · rename_i hc
    rcases h with ⟨x, hx, hd, e1, e2, e3, e4⟩ | rfl
    · by_cases hr : t.room (c == 17 || c == 18) = true
      · simp only [hr, if_true]
        exact .inl ⟨x, hx, by simpa [St.put] using hd, e1, e2, e3, e4⟩
      · simp only [hr, Bool.false_eq_true, if_false, e1, if_true]
        exact .inl ⟨x, hx, hd, rfl, e2, e3, e4⟩
    · have hr : St.room { s with isos := s.isos + 1 } (c == 17 || c == 18) = false := by simp [St.room]
      simp only [hr]
      rw [if_neg (by simp), if_neg (by simp)]
      exact .inr rfl
  · simp only [h1, Bool.false_eq_true, if_false]
    split
    · rcases h with ⟨x, hx, hd, e1, e2, e3, e4⟩ | rfl
      · rw [if_neg (by omega)]
        split
        · exact .inl ⟨x, hx, hd, e1, e2, e3, e4⟩
        · split
          · rename_i hl
            refine .inl ⟨x, hx, ?_, e1, e2, e3, e4⟩
            obtain ⟨_, ht⟩ := hl
            unfold St.top at ht
            cases hl' : t.l with
            | nil => rw [hl'] at hd; simp at hd
            | cons y r =>
              rw [hl'] at ht hd
              simp at ht
              simpa [ht] using hd
          · exact .inl ⟨x, hx, hd, e1, e2, e3, e4⟩
      · rw [if_pos (by show 0 < s.isos + 1; omega)]
        exact .inr rfl
    · exact h

/-- Isolates that lie in one another: each stack lies in the isolate begun at the next one. -/
def Chain : St → List St → Prop
  | _, [] => True
  | t, s :: r => Within t s ∧ Chain s r

/-- The stack behind many characters, each with what stands for its FSI. -/
def run (s : St) (l : List (Nat × Nat)) : St := l.foldl (fun s x => s.next x.1 x.2) s

/-- How many isolates are open behind classes; none: a PDI stood with none open, or a B. -/
def depth : Nat → List (Nat × Nat) → Option Nat
  | d, [] => some d
  | d, x :: l =>
    if begins x.1 then depth (d + 1) l
    else if x.1 = 23 then (match d with | 0 => none | d + 1 => depth d l)
    else if x.1 = 11 then none
    else depth d l

theorem run_chain (l : List (Nat × Nat)) : ∀ (t : St) (σ : List St) (d : Nat), Chain t σ → σ ≠ [] → depth (σ.length - 1) l = some d → ∃ τ, Chain (run t l) τ ∧ τ.length = d + 1 ∧ τ.getLast? = σ.getLast? := by
  induction l with
  | nil =>
    intro t σ d h hne hd
    refine ⟨σ, h, ?_, rfl⟩
    simp [depth] at hd
    have : 0 < σ.length := List.length_pos_iff.2 hne
    omega
  | cons x l ih =>
    intro t σ d h hne hd
    have hpos : 0 < σ.length := List.length_pos_iff.2 hne
    unfold depth at hd
    by_cases hb : begins x.1 = true
    · rw [if_pos hb] at hd
      obtain ⟨τ, h1, h2, h3⟩ := ih (t.next x.1 x.2) (t :: σ) d ⟨within_begin t _ _ hb, h⟩ (by simp) (by simpa [show σ.length - 1 + 1 = σ.length by omega] using hd)
      refine ⟨τ, h1, h2, h3.trans ?_⟩
      rw [List.getLast?_cons]
      cases hσ : σ.getLast? with
      | none => rw [List.getLast?_eq_none_iff] at hσ; exact absurd hσ hne
      | some y => rfl
    · rw [if_neg hb] at hd
      have hb' : begins x.1 = false := by simpa using hb
      by_cases hp : x.1 = 23
      · rw [if_pos hp] at hd
        match σ, hne, h, hd with
        | [s], _, _, hd => simp at hd
        | s :: s2 :: r, _, h, hd =>
          obtain ⟨hw, hc⟩ := h
          have e : t.next x.1 x.2 = s := by rw [hp]; exact within_end t s x.2 hw
          simp only [List.length_cons, Nat.add_sub_cancel] at hd
          obtain ⟨τ, h1, h2, h3⟩ := ih s (s2 :: r) d hc (by simp) (by simpa using hd)
          refine ⟨τ, ?_, h2, h3.trans ?_⟩
          · unfold run
            rw [List.foldl_cons, e]
            exact h1
          · simp [List.getLast?_cons]
      · rw [if_neg hp] at hd
        by_cases hB : x.1 = 11
        · rw [if_pos hB] at hd; cases hd
        · rw [if_neg hB] at hd
          cases σ with
          | nil => exact absurd rfl hne
          | cons s r =>
            obtain ⟨hw, hc⟩ := h
            exact ih (t.next x.1 x.2) (s :: r) d ⟨within_other t s _ _ hw hb' hp hB, hc⟩ (by simp) hd

/-- **What stands within an isolate, whole, leaves the stack behind it as it was ahead of it.** -/
theorem isolate_back (s : St) (c a : Nat) (inner : List (Nat × Nat)) (b : Nat) (hc : begins c = true) (hw : depth 0 inner = some 0) : (run (s.next c a) inner).next 23 b = s := by
  obtain ⟨τ, h1, h2, h3⟩ := run_chain inner (s.next c a) [s] 0 ⟨within_begin s c a hc, trivial⟩ (by simp) hw
  match τ, h2, h1, h3 with
  | [u], _, h1, h3 =>
    simp at h3
    subst h3
    exact within_end _ _ b h1.1

/-- What the stack is like: the base below all; as many isolates as 'valid' says; levels from the base to 125. -/
structure Ok (base : Nat) (s : St) : Prop where
  shape : ∃ r : List Ent, s.l = r ++ [⟨base, 0, false⟩] ∧ s.valid = r.countP (fun e => e.iso) ∧ ∀ e ∈ r, base ≤ e.level ∧ e.level ≤ 125
theorem Ok.top {base : Nat} {s : St} (h : Ok base s) (hb : base ≤ 125) : base ≤ s.top.level ∧ s.top.level ≤ 125 := by
  obtain ⟨r, hr, _, hl⟩ := h.shape
  unfold St.top
  rw [hr]
  cases r with
  | nil => exact ⟨Nat.le_refl _, hb⟩
  | cons e r => exact hl e (by simp)
theorem next_level (n : Nat) (odd : Bool) : n < nextLevel n odd := by unfold nextLevel; split <;> omega
theorem Ok.put {base : Nat} {s : St} (h : Ok base s) (hb : base ≤ 125) (odd : Bool) (over : Nat) (hr : s.room odd = true) : Ok base (s.put odd over false) ∧ Ok base { s.put odd over true with valid := s.valid + 1 } := by
  obtain ⟨h1, h2⟩ := h.top hb
  obtain ⟨r, e, hv, hl⟩ := h.shape
  have hn := next_level s.top.level odd
  simp only [St.room, Bool.and_eq_true, decide_eq_true_eq] at hr
  refine ⟨⟨⟨nextLevel s.top.level odd, over, false⟩ :: r, by simp [St.put, e], by simp [St.put, hv], ?_⟩, ⟨⟨nextLevel s.top.level odd, over, true⟩ :: r, by simp [St.put, e], by simp [hv], ?_⟩⟩
  all_goals
    intro x hx
    rcases List.mem_cons.1 hx with rfl | hx
    · exact ⟨by show base ≤ nextLevel _ _; omega, hr.1.1⟩
    · exact hl x hx
theorem drop_iso (r : List Ent) (b : Ent) (h : 0 < r.countP (fun e => e.iso)) : ∃ (e : Ent) (r2 : List Ent), (r ++ [b]).dropWhile (fun e => !e.iso) = e :: (r2 ++ [b]) ∧ r2.countP (fun e => e.iso) + 1 = r.countP (fun e => e.iso) ∧ ∀ x ∈ r2, x ∈ r := by
  induction r with
  | nil => simp at h
  | cons x r ih =>
    by_cases hx : x.iso = true
    · exact ⟨x, r, by simp [hx], by simp [hx], fun y hy => by simp [hy]⟩
    · have hx' : x.iso = false := by simpa using hx
      have h' : 0 < r.countP (fun e => e.iso) := by simpa [List.countP_cons, hx'] using h
      obtain ⟨e, r2, h1, h2, h3⟩ := ih h'
      exact ⟨e, r2, by simpa [hx'] using h1, by simpa [List.countP_cons, hx'] using h2, fun y hy => by simp [h3 y hy]⟩
theorem Ok.next {base : Nat} {s : St} (h : Ok base s) (hb : base ≤ 125) (c auto : Nat) : Ok base (s.next c auto) := by
  have same : ∀ t : St, t.l = s.l → t.valid = s.valid → Ok base t := fun t h1 h2 => by
    obtain ⟨r, e, hv, hl⟩ := h.shape
    exact ⟨r, h1.trans e, h2.trans hv, hl⟩
  unfold St.next
  split
  · show Ok base (if s.room _ = true then _ else _)
    split
    · rename_i hr
      exact (h.put hb _ _ hr).1
    · split
      · exact same _ rfl rfl
      · exact h
  · split
    · show Ok base (if s.room _ = true then _ else _)
      split
      · rename_i hr
        exact (h.put hb _ _ hr).2
      · exact same _ rfl rfl
    · split
      · unfold St.pop
        split
        · exact same _ rfl rfl
        · split
          · rename_i hv0
            obtain ⟨r, e, hv, hl⟩ := h.shape
            obtain ⟨x, r2, h1, h2, h3⟩ := drop_iso r ⟨base, 0, false⟩ (by omega)
            exact ⟨r2, by simp [e, h1], by show s.valid - 1 = _; omega, fun y hy => hl y (h3 y hy)⟩
          · exact h
      · split
        · split
          · exact h
          · split
            · exact same _ rfl rfl
            · split
              · rename_i ht
                obtain ⟨r, e, hv, hl⟩ := h.shape
                cases r with
                | nil => rw [e] at ht; simp at ht
                | cons x r =>
                  have hx : x.iso = false := by have := ht.2; unfold St.top at this; rw [e] at this; simpa using this
                  exact ⟨r, by simp [e], by simpa [List.countP_cons, hx] using hv, fun y hy => hl y (by simp [hy])⟩
              · exact h
        · split
          · obtain ⟨r, e, hv, hl⟩ := h.shape
            exact ⟨[], by simp [e], rfl, fun y hy => by simp at hy⟩
          · exact h

/-- Rule X9's. -/
def removedB (c : Nat) : Bool := decide (15 ≤ c ∧ c ≤ 19) || c == 10
def St.plain (s : St) (c : Nat) : Nat := if s.top.over = 0 then c else s.top.over
/-- What one step answers: a level (none: removed), a class. -/
def St.answer (s : St) (c auto : Nat) : Option Nat × Nat :=
  if removedB c then (none, c)
  else if c = 23 then (some (s.next c auto).top.level, (s.next c auto).plain c)
  else if c = 11 then (some (s.next c auto).top.level, 11)
  else (some s.top.level, s.plain c)
/-- The answers of a list of classes, each with what stands for its FSI. -/
def answers (s : St) : List (Nat × Nat) → List (Option Nat × Nat)
  | [] => []
  | x :: l => s.answer x.1 x.2 :: answers (s.next x.1 x.2) l
theorem answers_len (l : List (Nat × Nat)) : ∀ s : St, (answers s l).length = l.length := by
  induction l with
  | nil => intro s; rfl
  | cons x l ih => intro s; simp [answers, ih]
theorem answers_app (a b : List (Nat × Nat)) : ∀ s : St, answers s (a ++ b) = answers s a ++ answers (run s a) b := by
  induction a with
  | nil => intro s; rfl
  | cons x a ih =>
    intro s
    rw [List.cons_append, answers, ih, answers, List.cons_append]
    rfl
/-- Overrides: 0, L or R; none at all where none was begun. -/
def Over (ov : Bool) (s : St) : Prop := ∀ e ∈ s.l, (e.over = 0 ∨ ov = true ∧ (e.over = 1 ∨ e.over = 2))
theorem over_tail {ov : Bool} {l : List Ent} (h : ∀ e ∈ l, (e.over = 0 ∨ ov = true ∧ (e.over = 1 ∨ e.over = 2))) : ∀ e ∈ l.tail, (e.over = 0 ∨ ov = true ∧ (e.over = 1 ∨ e.over = 2)) := fun e he => h e (List.mem_of_mem_tail he)
theorem over_next {ov : Bool} {s : St} (h : Over ov s) (c auto : Nat) (hc : ov = true ∨ c ≠ 16 ∧ c ≠ 18) : Over ov (s.next c auto) := by
  unfold St.next
  split
  · show Over ov (if s.room _ = true then _ else _)
    split
    · intro e he
      rcases List.mem_cons.1 he with rfl | he
      · show (if c = 18 then 2 else if c = 16 then 1 else 0) = 0 ∨ ov = true ∧ ((if c = 18 then 2 else if c = 16 then 1 else 0) = 1 ∨ (if c = 18 then 2 else if c = 16 then 1 else 0) = 2)
        rcases hc with ho | ⟨h1, h2⟩
        · by_cases a : c = 18
          · exact .inr ⟨ho, .inr (by simp [a])⟩
          · by_cases b : c = 16
            · exact .inr ⟨ho, .inl (by simp [b])⟩
            · exact .inl (by simp [a, b])
        · exact .inl (by simp [h1, h2])
      · exact h e he
    · split
      · exact h
      · exact h
  · split
    · show Over ov (if s.room _ = true then _ else _)
      split
      · intro e he
        rcases List.mem_cons.1 he with rfl | he
        · exact .inl rfl
        · exact h e he
      · exact h
    · split
      · unfold St.pop
        split
        · exact h
        · split
          · intro e he
            have he' : e ∈ s.l.dropWhile (fun e => !e.iso) := List.mem_of_mem_tail he
            exact h e ((List.dropWhile_sublist _).subset he')
          · exact h
      · split
        · split
          · exact h
          · split
            · exact h
            · split
              · exact over_tail h
              · exact h
        · split
          · intro e he
            exact h e (List.mem_of_mem_drop he)
          · exact h
theorem over_plain {ov : Bool} {s : St} (h : Over ov s) (c : Nat) : s.plain c = c ∨ ov = true ∧ (s.plain c = 1 ∨ s.plain c = 2) := by
  unfold St.plain
  by_cases h0 : s.top.over = 0
  · exact .inl (if_pos h0)
  · rw [if_neg h0]
    have : s.top.over = 0 ∨ ov = true ∧ (s.top.over = 1 ∨ s.top.over = 2) := by
      unfold St.top at h0 ⊢
      cases hl : s.l with
      | nil => rw [hl] at h0; simp at h0
      | cons e r => exact h e (by rw [hl]; simp)
    exact .inr (this.resolve_left h0)
/-- **What the explicit rules answer: a level from the base to 125, none of what is removed; the class itself, or an override's.** -/
theorem answer_ok {base : Nat} {ov : Bool} {s : St} (h : Ok base s) (hb : base ≤ 125) (ho : Over ov s) (c auto : Nat) (hc : ov = true ∨ c ≠ 16 ∧ c ≠ 18) :
    (removedB c = true ∧ s.answer c auto = (none, c)) ∨ (removedB c = false ∧ ∃ lv k, s.answer c auto = (some lv, k) ∧ base ≤ lv ∧ lv ≤ 125 ∧ (k = c ∨ ov = true ∧ (k = 1 ∨ k = 2))) := by
  have h1 := h.top hb
  have h2 := (h.next hb c auto).top hb
  have h3 := over_next ho c auto hc
  unfold St.answer
  cases hr : removedB c
  · right
    refine ⟨rfl, ?_⟩
    rw [if_neg (by simp)]
    by_cases h23 : c = 23
    · rw [if_pos h23]
      exact ⟨_, _, rfl, h2.1, h2.2, over_plain h3 c⟩
    · rw [if_neg h23]
      by_cases h11 : c = 11
      · rw [if_pos h11]
        exact ⟨_, _, rfl, h2.1, h2.2, .inl h11.symm⟩
      · rw [if_neg h11]
        exact ⟨_, _, rfl, h1.1, h1.2, over_plain ho c⟩
  · exact .inl ⟨rfl, by rw [if_pos rfl]⟩
/-- The stack at a paragraph's beginning. -/
def St.first (base : Nat) : St := { l := [⟨base, 0, false⟩], isos := 0, embs := 0, valid := 0 }
theorem first_ok (base : Nat) : Ok base (St.first base) := ⟨[], rfl, rfl, fun e he => by simp at he⟩
theorem first_over (ov : Bool) (base : Nat) : Over ov (St.first base) := fun e he => by
  have : e = ⟨base, 0, false⟩ := by simpa [St.first] using he
  exact .inl (by rw [this])

/-- **What stands behind an isolate is answered as if anything else that is whole stood within.** -/
theorem answers_behind (s : St) (pre : List (Nat × Nat)) (c a a' : Nat) (inner inner' : List (Nat × Nat)) (b b' : Nat) (post : List (Nat × Nat)) (hc : begins c = true) (h : depth 0 inner = some 0) (h' : depth 0 inner' = some 0) :
    (answers s (pre ++ (c, a) :: (inner ++ (23, b) :: post))).drop (pre.length + 1 + inner.length) = (answers s (pre ++ (c, a') :: (inner' ++ (23, b') :: post))).drop (pre.length + 1 + inner'.length) := by
  have key : ∀ (a : Nat) (inner : List (Nat × Nat)) (b : Nat), depth 0 inner = some 0 → (answers s (pre ++ (c, a) :: (inner ++ (23, b) :: post))).drop (pre.length + 1 + inner.length) = (some (run s pre).top.level, (run s pre).plain 23) :: answers (run s pre) post := by
    intro a inner b hd
    have hb := isolate_back (run s pre) c a inner b hc hd
    have e1 : answers s (pre ++ (c, a) :: (inner ++ (23, b) :: post)) = (answers s pre ++ (run s pre).answer c a :: answers ((run s pre).next c a) inner) ++ ((run ((run s pre).next c a) inner).answer 23 b :: answers ((run ((run s pre).next c a) inner).next 23 b) post) := by
      rw [answers_app, answers, answers_app, answers]
      simp
    rw [e1, List.drop_left' (by simp [answers_len]; omega), hb]
    congr 1
    unfold St.answer
    rw [hb]
    simp [removedB]
  rw [key a inner b h, key a' inner' b' h']

/-- P2: the first strong class outside all isolates; d: how many are open. -/
def strong : Nat → List Nat → Option Nat
  | _, [] => none
  | d, c :: l => if begins c then strong (d + 1) l else if c = 23 then strong (d - 1) l else if d = 0 ∧ (c = 1 ∨ c = 2 ∨ c = 3) then some c else strong d l
/-- What stands for an FSI: 1, where the first strong class up to its end is R or AL. -/
def fsi : Nat → List Nat → Nat
  | _, [] => 0
  | d, c :: l => if begins c then fsi (d + 1) l else if c = 23 then (if d = 0 then 0 else fsi (d - 1) l) else if d = 0 ∧ (c = 1 ∨ c = 11) then 0 else if d = 0 ∧ (c = 2 ∨ c = 3) then 1 else fsi d l
/-- How many isolates are open behind classes. -/
def depthC : Nat → List Nat → Option Nat
  | d, [] => some d
  | d, c :: l => if begins c then depthC (d + 1) l else if c = 23 then (if d = 0 then none else depthC (d - 1) l) else if c = 11 then none else depthC d l
theorem depth_map (l : List (Nat × Nat)) : ∀ d, depth d l = depthC d (l.map (·.1)) := by
  induction l with
  | nil => intro d; rfl
  | cons x l ih =>
    intro d
    rw [List.map_cons, depthC]
    cases d with
    | zero =>
      rw [depth]
      split
      · exact ih _
      · split
        · rfl
        · split
          · rfl
          · exact ih 0
    | succ d =>
      rw [depth]
      split
      · exact ih _
      · split
        · exact ih d
        · split
          · rfl
          · exact ih (d + 1)
theorem strong_whole (inner rest : List Nat) : ∀ (d e k : Nat), depthC e inner = some k → strong (d + 1 + e) (inner ++ rest) = strong (d + 1 + k) rest := by
  induction inner with
  | nil => intro d e k h; simp [depthC] at h; subst h; rfl
  | cons c l ih =>
    intro d e k h
    rw [depthC] at h
    rw [List.cons_append, strong]
    by_cases hb : begins c = true
    · rw [if_pos hb] at h ⊢
      exact ih d (e + 1) k h
    · rw [if_neg hb] at h ⊢
      by_cases hp : c = 23
      · rw [if_pos hp] at h ⊢
        by_cases he : e = 0
        · rw [if_pos he] at h; cases h
        · rw [if_neg he] at h
          have := ih d (e - 1) k h
          rw [show d + 1 + (e - 1) = d + 1 + e - 1 by omega] at this
          exact this
      · rw [if_neg hp] at h ⊢
        by_cases hB : c = 11
        · rw [if_pos hB] at h; cases h
        · rw [if_neg hB] at h
          rw [if_neg (by omega)]
          exact ih d e k h
theorem fsi_whole (inner rest : List Nat) : ∀ (d e k : Nat), depthC e inner = some k → fsi (d + 1 + e) (inner ++ rest) = fsi (d + 1 + k) rest := by
  induction inner with
  | nil => intro d e k h; simp [depthC] at h; subst h; rfl
  | cons c l ih =>
    intro d e k h
    rw [depthC] at h
    rw [List.cons_append, fsi]
    by_cases hb : begins c = true
    · rw [if_pos hb] at h ⊢
      exact ih d (e + 1) k h
    · rw [if_neg hb] at h ⊢
      by_cases hp : c = 23
      · rw [if_pos hp] at h ⊢
        by_cases he : e = 0
        · rw [if_pos he] at h; cases h
        · rw [if_neg he] at h
          rw [if_neg (by omega)]
          have := ih d (e - 1) k h
          rw [show d + 1 + (e - 1) = d + 1 + e - 1 by omega] at this
          exact this
      · rw [if_neg hp] at h ⊢
        by_cases hB : c = 11
        · rw [if_pos hB] at h; cases h
        · rw [if_neg hB] at h
          rw [if_neg (by omega), if_neg (by omega)]
          exact ih d e k h
theorem begin_pdi {c : Nat} (h : begins c = true) : c ≠ 23 ∧ c ≠ 1 ∧ c ≠ 2 ∧ c ≠ 3 ∧ c ≠ 11 := by
  simp only [begins, Bool.or_eq_true, beq_iff_eq] at h
  omega
/-- **The paragraph's level, and what stands for an FSI ahead, ask nothing of what stands within an isolate.** -/
theorem strong_inner (pre : List Nat) (c : Nat) (inner inner' post : List Nat) (hc : begins c = true) (h : depthC 0 inner = some 0) (h' : depthC 0 inner' = some 0) : ∀ d, strong d (pre ++ c :: (inner ++ 23 :: post)) = strong d (pre ++ c :: (inner' ++ 23 :: post)) := by
  induction pre with
  | nil =>
    intro d
    have e : ∀ i : List Nat, depthC 0 i = some 0 → strong d ([] ++ c :: (i ++ 23 :: post)) = strong (d + 1) (23 :: post) := by
      intro i hi
      rw [List.nil_append, strong, if_pos hc]
      exact strong_whole i (23 :: post) d 0 0 hi
    rw [e inner h, e inner' h']
  | cons x pre ih =>
    intro d
    rw [List.cons_append, List.cons_append, strong, strong, ih, ih, ih]
theorem fsi_inner (pre : List Nat) (c : Nat) (inner inner' post : List Nat) (hc : begins c = true) (h : depthC 0 inner = some 0) (h' : depthC 0 inner' = some 0) : ∀ d, fsi d (pre ++ c :: (inner ++ 23 :: post)) = fsi d (pre ++ c :: (inner' ++ 23 :: post)) := by
  induction pre with
  | nil =>
    intro d
    have e : ∀ i : List Nat, depthC 0 i = some 0 → fsi d ([] ++ c :: (i ++ 23 :: post)) = fsi (d + 1) (23 :: post) := by
      intro i hi
      rw [List.nil_append, fsi, if_pos hc]
      exact fsi_whole i (23 :: post) d 0 0 hi
    rw [e inner h, e inner' h']
  | cons x pre ih =>
    intro d
    rw [List.cons_append, List.cons_append, fsi, fsi, ih, ih, ih]

/-- Each class with what stands for its FSI. -/
def withFsi : List Nat → List (Nat × Nat)
  | [] => []
  | c :: l => (c, fsi 0 l) :: withFsi l
/-- The explicit rules of a list of classes. -/
def explicitOf (base : Nat) (l : List Nat) : List (Option Nat × Nat) := answers (St.first base) (withFsi l)
theorem withFsi_len (l : List Nat) : (withFsi l).length = l.length := by
  induction l with
  | nil => rfl
  | cons c l ih => simp [withFsi, ih]
theorem withFsi_map (l : List Nat) : (withFsi l).map (·.1) = l := by
  induction l with
  | nil => rfl
  | cons c l ih => simp [withFsi, ih]

/-- Nothing is counted as too much but where the last entry is near the greatest level; levels grow. -/
structure Low (s : St) : Prop where
  near : 0 < s.isos ∨ 0 < s.embs → 124 ≤ s.top.level
  grow : s.l.Pairwise (fun e f => f.level < e.level)
theorem no_room {s : St} (h : Low s) {odd : Bool} (hr : ¬ s.room odd = true) : 124 ≤ s.top.level := by
  by_cases h1 : 0 < s.isos ∨ 0 < s.embs
  · exact h.near h1
  · have : ¬ nextLevel s.top.level odd ≤ 125 := by
      intro h2
      apply hr
      simp only [St.room, Bool.and_eq_true, decide_eq_true_eq, beq_iff_eq]
      omega
    unfold nextLevel at this
    split at this <;> omega
theorem put_grow {s : St} (h : Low s) (odd : Bool) (over : Nat) (iso : Bool) (v : Nat) (hr : s.room odd = true) : Low { s.put odd over iso with valid := v } := by
  simp only [St.room, Bool.and_eq_true, decide_eq_true_eq, beq_iff_eq] at hr
  refine ⟨fun hn => by simp [St.put] at hn; omega, ?_⟩
  refine List.Pairwise.cons (fun f hf => ?_) h.grow
  have hn := next_level s.top.level odd
  have ht : f.level ≤ s.top.level := by
    have hg := h.grow
    unfold St.top
    cases hl : s.l with
    | nil => rw [hl] at hf; cases hf
    | cons x r =>
      rw [hl] at hf hg
      rcases List.mem_cons.1 hf with rfl | hf
      · exact Nat.le_refl _
      · exact Nat.le_of_lt ((List.pairwise_cons.1 hg).1 f hf)
  show f.level < nextLevel s.top.level odd
  omega
theorem Low.next {s : St} (h : Low s) (c auto : Nat) : Low (s.next c auto) := by
  unfold St.next
  split
  · show Low (if s.room _ = true then _ else _)
    split
    · rename_i hr
      exact put_grow h _ _ _ s.valid hr
    · rename_i hr
      split
      · exact ⟨fun _ => (no_room h hr : 124 ≤ s.top.level), h.grow⟩
      · exact h
  · split
    · show Low (if s.room _ = true then _ else _)
      split
      · rename_i hr
        exact put_grow h _ _ _ _ hr
      · rename_i hr
        exact ⟨fun _ => (no_room h hr : 124 ≤ s.top.level), h.grow⟩
    · split
      · unfold St.pop
        split
        · rename_i hi
          exact ⟨fun _ => h.near (.inl hi), h.grow⟩
        · split
          · exact ⟨fun hn => by simp at hn, h.grow.sublist ((List.tail_sublist _).trans (List.dropWhile_sublist _))⟩
          · exact h
      · split
        · split
          · exact h
          · split
            · rename_i he
              exact ⟨fun _ => h.near (.inr he), h.grow⟩
            · split
              · rename_i h1 h2 _
                exact ⟨fun hn => by simp at hn; omega, h.grow.sublist (List.tail_sublist _)⟩
              · exact h
        · split
          · exact ⟨fun hn => by simp at hn, h.grow.sublist (List.drop_sublist _ _)⟩
          · exact h
theorem first_low (base : Nat) : Low (St.first base) := ⟨fun hn => by simp [St.first] at hn, by simp [St.first]⟩
/-- **Where the level is at most 123 an isolate does not overflow.** -/
theorem room_low {s : St} (h : Low s) (hl : s.top.level ≤ 123) (odd : Bool) : s.room odd = true := by
  have h1 : ¬ (0 < s.isos ∨ 0 < s.embs) := fun hn => by have := h.near hn; omega
  simp only [St.room, Bool.and_eq_true, decide_eq_true_eq, beq_iff_eq]
  refine ⟨⟨?_, by omega⟩, by omega⟩
  unfold nextLevel
  split <;> omega
/-- In an isolate that did not overflow all levels lie above that of its beginning. -/
def Inside (t s : St) : Prop := ∃ (e : Ent) (xs : List Ent), e.iso = true ∧ t.l = xs ++ e :: s.l
theorem inside_above {t s : St} (h : Low t) (hi : Inside t s) : s.top.level < t.top.level ∨ s.l = [] := by
  obtain ⟨e, xs, _, hl⟩ := hi
  cases hs : s.l with
  | nil => exact .inr rfl
  | cons y r =>
    left
    have hg := h.grow
    unfold St.top
    rw [hl] at hg ⊢
    rw [hs] at hg ⊢
    cases xs with
    | nil => exact (List.pairwise_cons.1 hg).1 y (by simp)
    | cons x xs => exact (List.pairwise_cons.1 hg).1 y (by simp)

/-- The stack t lies in the isolate that was begun at s and did not overflow. -/
def WithinV (t s : St) : Prop := ∃ e : Ent, e.iso = true ∧ t.l.dropWhile (fun e => !e.iso) = e :: s.l ∧ t.isos = 0 ∧ s.isos = 0 ∧ s.embs = 0 ∧ t.valid = s.valid + 1
theorem withinV_begin (s : St) (c auto : Nat) (hc : begins c = true) (hr : ∀ odd, s.room odd = true) : WithinV (s.next c auto) s := by
  have h1 : ¬ (c = 15 ∨ c = 16 ∨ c = 17 ∨ c = 18) := by
    intro h
    simp only [begins, Bool.or_eq_true, beq_iff_eq] at hc
    omega
  have h2 := hr (c == 21 || c == 22 && auto == 1)
  unfold St.next
  rw [if_neg h1, if_pos hc]
  show WithinV (if s.room _ = true then _ else _) s
  rw [if_pos h2]
  simp only [St.room, Bool.and_eq_true, beq_iff_eq] at h2
  exact ⟨⟨nextLevel s.top.level (c == 21 || c == 22 && auto == 1), 0, true⟩, rfl, by simp [St.put], by simp [St.put]; exact h2.1.2, h2.1.2, h2.2, rfl⟩
theorem withinV_other (t s : St) (c auto : Nat) (h : WithinV t s) (h1 : begins c = false) (h2 : c ≠ 23) (h3 : c ≠ 11) : WithinV (t.next c auto) s := by
  rcases within_other t s c auto (.inl h) h1 h2 h3 with h' | h'
  · exact h'
  · exfalso
    obtain ⟨e, he, hd, e1, e2, e3, e4⟩ := h
    have hi : (t.next c auto).isos = 1 := by rw [h']; show s.isos + 1 = 1; omega
    have : (t.next c auto).isos = 0 := by
      unfold St.next
      split
      · show St.isos (if t.room _ = true then _ else _) = 0
        split
        · exact e1
        · exact e1
      · simp only [h1, Bool.false_eq_true, if_false]
        split
        · split
          · exact e1
          · split
            · exact e1
            · split
              · exact e1
              · exact e1
        · exact e1
    omega
/-- Isolates that lie in one another, the outermost one begun at s without an overflow. -/
def ChainV : St → List St → St → Prop
  | t, [], s => WithinV t s
  | t, u :: r, s => Within t u ∧ ChainV u r s
theorem split_drop (l : List Ent) (e : Ent) (r : List Ent) (h : l.dropWhile (fun e => !e.iso) = e :: r) : ∃ xs, l = xs ++ e :: r := ⟨l.takeWhile (fun e => !e.iso), by rw [← h, List.takeWhile_append_dropWhile]⟩
theorem chain_inside (τ : List St) : ∀ (t s : St), ChainV t τ s → Inside t s := by
  induction τ with
  | nil =>
    rintro t s ⟨e, he, hd, _⟩
    obtain ⟨xs, hx⟩ := split_drop _ _ _ hd
    exact ⟨e, xs, he, hx⟩
  | cons u r ih =>
    rintro t s ⟨hw, hc⟩
    obtain ⟨e, xs, he, hu⟩ := ih u s hc
    rcases hw with ⟨f, _, hd, _⟩ | rfl
    · obtain ⟨ys, hy⟩ := split_drop _ _ _ hd
      exact ⟨e, ys ++ f :: xs, he, by rw [hy, hu]; simp⟩
    · exact ⟨e, xs, he, hu⟩
theorem run_chainV (l : List (Nat × Nat)) : ∀ (t s : St) (τ : List St) (d : Nat), ChainV t τ s → depth τ.length l = some d → ∃ τ', ChainV (run t l) τ' s ∧ τ'.length = d := by
  induction l with
  | nil =>
    intro t s τ d h hd
    simp [depth] at hd
    exact ⟨τ, h, hd⟩
  | cons x l ih =>
    intro t s τ d h hd
    have hrun : run t (x :: l) = run (t.next x.1 x.2) l := rfl
    rw [hrun]
    by_cases hb : begins x.1 = true
    · have hd' : depth (τ.length + 1) l = some d := by
        cases hτ : τ.length <;> rw [hτ, depth, if_pos hb] at hd <;> exact hd
      exact ih _ s (t :: τ) d ⟨within_begin t _ _ hb, h⟩ hd'
    · have hb' : begins x.1 = false := by simpa using hb
      by_cases hp : x.1 = 23
      · cases τ with
        | nil =>
          rw [show ([] : List St).length = 0 from rfl, depth, if_neg hb, if_pos hp] at hd
          cases hd
        | cons u r =>
          rw [List.length_cons, depth, if_neg hb, if_pos hp] at hd
          obtain ⟨hw, hc⟩ := h
          rw [show t.next x.1 x.2 = u by rw [hp]; exact within_end t u x.2 hw]
          exact ih u s r d hc hd
      · by_cases hB : x.1 = 11
        · cases hτ : τ.length <;> rw [hτ, depth, if_neg hb, if_neg hp, if_pos hB] at hd <;> cases hd
        · have hd' : depth τ.length l = some d := by
            cases hτ : τ.length <;> rw [hτ, depth, if_neg hb, if_neg hp, if_neg hB] at hd <;> exact hd
          cases τ with
          | nil => exact ih _ s [] d (withinV_other t s _ _ h hb' hp hB) hd'
          | cons u r => exact ih _ s (u :: r) d ⟨within_other t u _ _ h.1 hb' hp hB, h.2⟩ hd'
theorem low_run (l : List (Nat × Nat)) : ∀ s : St, Low s → Low (run s l) := by
  induction l with
  | nil => intro s h; exact h
  | cons x l ih => intro s h; exact ih _ (h.next x.1 x.2)
theorem depth_prefix (a b : List (Nat × Nat)) : ∀ d k, depth d (a ++ b) = some k → ∃ j, depth d a = some j ∧ depth j b = some k := by
  induction a with
  | nil => intro d k h; exact ⟨d, by cases d <;> rfl, h⟩
  | cons x a ih =>
    intro d k h
    have hs : ∀ (d : Nat) (l : List (Nat × Nat)), depth d (x :: l) = if begins x.1 = true then depth (d + 1) l else if x.1 = 23 then (if d = 0 then none else depth (d - 1) l) else if x.1 = 11 then none else depth d l := by
      intro d l
      cases d <;> rw [depth] <;> rfl
    rw [List.cons_append, hs] at h
    rw [hs]
    by_cases hb : begins x.1 = true
    · rw [if_pos hb] at h ⊢
      exact ih _ _ h
    · rw [if_neg hb] at h ⊢
      by_cases hp : x.1 = 23
      · rw [if_pos hp] at h ⊢
        by_cases h0 : d = 0
        · rw [if_pos h0] at h; cases h
        · rw [if_neg h0] at h ⊢
          exact ih _ _ h
      · rw [if_neg hp] at h ⊢
        by_cases hB : x.1 = 11
        · rw [if_pos hB] at h; cases h
        · rw [if_neg hB] at h ⊢
          exact ih _ _ h
/-- **All stacks within an isolate that did not overflow lie above its beginning's level.** -/
theorem within_above (s : St) (c auto : Nat) (a b : List (Nat × Nat)) (hc : begins c = true) (h : Low s) (hl : s.top.level ≤ 123) (hne : s.l ≠ []) (hw : depth 0 (a ++ b) = some 0) : s.top.level < (run (s.next c auto) a).top.level := by
  obtain ⟨j, hj, _⟩ := depth_prefix a b 0 0 hw
  obtain ⟨τ, h1, _⟩ := run_chainV a (s.next c auto) s [] j (withinV_begin s c auto hc (room_low h hl)) hj
  exact (inside_above (low_run a _ (h.next c auto)) (chain_inside τ _ _ h1)).resolve_right hne

end Go.Proofs.YtjnidopbdjbbgaaGreat
end
/-
  Rules W1 to W7, N1, N2, I1, I2, list by list; what they leave as it is. Plain laws.
  Classes: L 1, R 2, AL 3, EN 4, ES 5, ET 6, AN 7, CS 8, NSM 9, BN 10, B 11, S 12, WS 13, ON 14, LRE 15, LRO 16, RLE 17, RLO 18, PDF 19, LRI 20, RLI 21, FSI 22, PDI 23.
-/
section

namespace Go.Proofs.YtjnidopbdjbbgaaGreat
set_option linter.unusedVariables false
variable {σ : Type}

/-- A list turned from its front on: each class by what is held of those ahead. -/
def scan (f : σ → Nat → Nat × σ) : σ → List Nat → List Nat
  | _, [] => []
  | s, c :: l => (f s c).1 :: scan f (f s c).2 l
/-- What is held behind some classes. -/
def scanSt (f : σ → Nat → Nat × σ) : σ → List Nat → σ
  | s, [] => s
  | s, c :: l => scanSt f (f s c).2 l
theorem scan_len (f : σ → Nat → Nat × σ) (l : List Nat) : ∀ s, (scan f s l).length = l.length := by
  induction l with
  | nil => intro s; rfl
  | cons c l ih => intro s; simp [scan, ih]
/-- Class by class: what holds of each pair of the old and the new. -/
def Each2 (P : Nat → Nat → Prop) (a b : List Nat) : Prop := a.length = b.length ∧ ∀ (i x y : Nat), a[i]? = some x → b[i]? = some y → P x y
theorem each2_cons {P : Nat → Nat → Prop} {x y : Nat} {a b : List Nat} (h : P x y) (h2 : Each2 P a b) : Each2 P (x :: a) (y :: b) := by
  refine ⟨by simp [h2.1], fun i u v hu hv => ?_⟩
  cases i with
  | zero => simp at hu hv; subst hu hv; exact h
  | succ i => exact h2.2 i u v (by simpa using hu) (by simpa using hv)
theorem each2_nil {P : Nat → Nat → Prop} : Each2 P [] [] := ⟨rfl, fun i x y h => by simp at h⟩
theorem each2_trans {P Q R : Nat → Nat → Prop} {a b c : List Nat} (h : Each2 P a b) (k : Each2 Q b c) (hr : ∀ x y z, P x y → Q y z → R x z) : Each2 R a c := by
  refine ⟨h.1.trans k.1, fun i x z hx hz => ?_⟩
  have hi : i < a.length := (List.getElem?_eq_some_iff.1 hx).1
  have hy : b[i]? = some (b[i]'(by rw [← h.1]; exact hi)) := List.getElem?_eq_getElem _
  exact hr _ _ _ (h.2 i x _ hx hy) (k.2 i _ z hy hz)
theorem scan_each (f : σ → Nat → Nat × σ) (I : σ → Prop) (P : Nat → Nat → Prop) (Q : Nat → Prop) (h : ∀ s c, I s → Q c → P c (f s c).1 ∧ I (f s c).2) (l : List Nat) : ∀ s, I s → (∀ c ∈ l, Q c) → Each2 P l (scan f s l) := by
  induction l with
  | nil => intro s _ _; exact each2_nil
  | cons c l ih =>
    intro s hs hl
    obtain ⟨h1, h2⟩ := h s c hs (hl c (by simp))
    exact each2_cons h1 (ih _ h2 (fun d hd => hl d (by simp [hd])))
theorem map_each (g : Nat → Nat) (P : Nat → Nat → Prop) (Q : Nat → Prop) (h : ∀ c, Q c → P c (g c)) (l : List Nat) (hl : ∀ c ∈ l, Q c) : Each2 P l (l.map g) := by
  induction l with
  | nil => exact each2_nil
  | cons c l ih => exact each2_cons (h c (hl c (by simp))) (ih (fun d hd => hl d (by simp [hd])))

/-- W1: what is held is the class ahead. -/
def w1 (x c : Nat) : Nat × Nat := let d := if c = 9 then (if 20 ≤ x ∧ x ≤ 23 then 14 else x) else c; (d, d)
/-- W2: what is held is the last strong one. -/
def w2 (s c : Nat) : Nat × Nat := if c = 1 ∨ c = 2 ∨ c = 3 then (c, c) else if c = 4 ∧ s = 3 then (7, s) else (c, s)
def w3 (c : Nat) : Nat := if c = 3 then 2 else c
/-- W4: ahead (0: nothing), a class, the others. -/
def w4 : Nat → List Nat → List Nat
  | _, [] => []
  | x, c :: l =>
    let d := if (c = 5 ∨ c = 8) ∧ x ≠ 0 ∧ l.head? = some x ∧ (x = 4 ∨ x = 7 ∧ c = 8) then x else c
    d :: w4 d l
/-- W5: ahead (0: nothing), how many ET stand open ahead, the others. -/
def w5 : Nat → Nat → List Nat → List Nat
  | x, n, [] => List.replicate n (if x = 4 then 4 else 6)
  | x, n, c :: l => if c = 6 then w5 x (n + 1) l else List.replicate n (if x = 4 ∨ c = 4 then 4 else 6) ++ c :: w5 c 0 l
def w6 (c : Nat) : Nat := if c = 5 ∨ c = 6 ∨ c = 8 then 14 else c
/-- W7: what is held is the last strong one. -/
def w7 (s c : Nat) : Nat × Nat := if c = 1 ∨ c = 2 then (c, c) else if c = 4 ∧ s = 1 then (1, s) else (c, s)
/-- All of them. -/
def weakOf (sos : Nat) (l : List Nat) : List Nat := scan w7 sos ((w5 0 0 (w4 0 ((scan w2 sos (scan w1 sos l)).map w3))).map w6)

/-- A class of a sequence's: no removed one. -/
def Cl (c : Nat) : Prop := 1 ≤ c ∧ c ≤ 9 ∨ 11 ≤ c ∧ c ≤ 14 ∨ 20 ≤ c ∧ c ≤ 23
/-- Strong ones stay what they are. -/
def Keep (x y : Nat) : Prop := (x = 1 → y = 1) ∧ (x = 2 → y = 2)

theorem w1_each (sos : Nat) (hs : sos = 1 ∨ sos = 2) (l : List Nat) (hl : ∀ c ∈ l, Cl c) : Each2 (fun x y => (x ≠ 9 → y = x) ∧ Cl y ∧ y ≠ 9) l (scan w1 sos l) := by
  refine scan_each w1 (fun x => Cl x ∧ x ≠ 9) _ Cl (fun s c h hc => ?_) l sos ⟨by unfold Cl; omega, by omega⟩ hl
  unfold w1
  by_cases h9 : c = 9
  · rw [if_pos h9]
    by_cases h2 : 20 ≤ s ∧ s ≤ 23
    · rw [if_pos h2]
      exact ⟨⟨fun h => absurd h9 h, by show Cl 14; unfold Cl; omega, by show 14 ≠ 9; omega⟩, by show Cl 14; unfold Cl; omega, by show 14 ≠ 9; omega⟩
    · rw [if_neg h2]
      exact ⟨⟨fun h => absurd h9 h, h⟩, h⟩
  · rw [if_neg h9]
    exact ⟨⟨fun _ => rfl, hc, h9⟩, hc, h9⟩
theorem w2_each (sos : Nat) (l : List Nat) (hl : ∀ c ∈ l, Cl c ∧ c ≠ 9) : Each2 (fun x y => (x ≠ 4 → y = x) ∧ Cl y ∧ y ≠ 9) l (scan w2 sos l) := by
  refine scan_each w2 (fun _ => True) _ (fun c => Cl c ∧ c ≠ 9) (fun s c h hc => ⟨?_, trivial⟩) l sos trivial hl
  unfold w2
  split
  · exact ⟨fun _ => rfl, hc⟩
  · split
    · rename_i h4
      exact ⟨fun h => absurd h4.1 h, by unfold Cl; omega, by show 7 ≠ 9; omega⟩
    · exact ⟨fun _ => rfl, hc⟩
theorem w4_each (l : List Nat) : ∀ x, Each2 (fun a b => (a ≠ 5 → a ≠ 8 → b = a) ∧ (b = a ∨ b = 4 ∨ b = 7)) l (w4 x l) := by
  induction l with
  | nil => intro x; exact each2_nil
  | cons c l ih =>
    intro x
    rw [w4]
    refine each2_cons ?_ (ih _)
    by_cases h : (c = 5 ∨ c = 8) ∧ x ≠ 0 ∧ l.head? = some x ∧ (x = 4 ∨ x = 7 ∧ c = 8)
    · rw [if_pos h]; omega
    · rw [if_neg h]; omega
theorem each2_app {P : Nat → Nat → Prop} {a b c d : List Nat} (h : Each2 P a b) (k : Each2 P c d) : Each2 P (a ++ c) (b ++ d) := by
  refine ⟨by simp [h.1, k.1], fun i x y hx hy => ?_⟩
  by_cases hi : i < a.length
  · rw [List.getElem?_append_left hi] at hx
    rw [List.getElem?_append_left (by rw [← h.1]; exact hi)] at hy
    exact h.2 i x y hx hy
  · rw [List.getElem?_append_right (by omega)] at hx
    rw [List.getElem?_append_right (by rw [← h.1]; omega), ← h.1] at hy
    exact k.2 _ x y hx hy
theorem each2_rep {P : Nat → Nat → Prop} {x y : Nat} (h : P x y) (n : Nat) : Each2 P (List.replicate n x) (List.replicate n y) := by
  refine ⟨by simp, fun i u v hu hv => ?_⟩
  rw [List.getElem?_replicate] at hu hv
  split at hu
  · rename_i hi
    rw [if_pos hi] at hv
    cases hu
    cases hv
    exact h
  · cases hu
theorem w5_each (l : List Nat) : ∀ x n, Each2 (fun a b => (a ≠ 6 → b = a) ∧ (b = a ∨ b = 4)) (List.replicate n 6 ++ l) (w5 x n l) := by
  induction l with
  | nil =>
    intro x n
    rw [w5, List.append_nil]
    refine each2_rep ?_ n
    split <;> omega
  | cons c l ih =>
    intro x n
    rw [w5]
    by_cases h : c = 6
    · rw [if_pos h]
      have := ih x (n + 1)
      rw [List.replicate_succ', List.append_assoc] at this
      rw [h]
      exact this
    · rw [if_neg h]
      refine each2_app (each2_rep ?_ n) (each2_cons (by omega) (by simpa using ih c 0))
      split <;> omega
theorem w7_each (sos : Nat) (l : List Nat) : Each2 (fun x y => (x ≠ 4 → y = x) ∧ (y = x ∨ y = 1)) l (scan w7 sos l) := by
  refine scan_each w7 (fun _ => True) _ (fun _ => True) (fun s c _ _ => ⟨?_, trivial⟩) l sos trivial (fun _ _ => trivial)
  unfold w7
  split
  · exact ⟨fun _ => rfl, .inl rfl⟩
  · split
    · rename_i h4
      exact ⟨fun h => absurd h4.1 h, .inr rfl⟩
    · exact ⟨fun _ => rfl, .inl rfl⟩

/-- **What the weak rules leave: L is L, R and AL are R, and all are settled or neutral.** -/
theorem weak_each (sos : Nat) (hs : sos = 1 ∨ sos = 2) (l : List Nat) (hl : ∀ c ∈ l, Cl c) :
    Each2 (fun x y => (x = 1 → y = 1) ∧ (x = 2 ∨ x = 3 → y = 2) ∧ (y = 1 ∨ y = 2 ∨ y = 4 ∨ y = 7 ∨ 11 ≤ y ∧ y ≤ 14 ∨ 20 ≤ y ∧ y ≤ 23)) l (weakOf sos l) := by
  unfold weakOf
  have h1 := w1_each sos hs l hl
  have m1 : ∀ c ∈ scan w1 sos l, Cl c ∧ c ≠ 9 := by
    intro c hc
    obtain ⟨i, hi, rfl⟩ := List.mem_iff_getElem.1 hc
    have hi2 : i < l.length := by rw [h1.1]; exact hi
    exact (h1.2 i _ _ (List.getElem?_eq_getElem hi2) (List.getElem?_eq_getElem hi)).2
  have h2 := w2_each sos _ m1
  have h3 := map_each w3 (fun x y => y = w3 x) (fun _ => True) (fun _ _ => rfl) (scan w2 sos (scan w1 sos l)) (fun _ _ => trivial)
  have h4 := w4_each ((scan w2 sos (scan w1 sos l)).map w3) 0
  have h5 := w5_each (w4 0 ((scan w2 sos (scan w1 sos l)).map w3)) 0 0
  simp only [List.replicate_zero, List.nil_append] at h5
  have h6 := map_each w6 (fun x y => y = w6 x) (fun _ => True) (fun _ _ => rfl) (w5 0 0 (w4 0 ((scan w2 sos (scan w1 sos l)).map w3))) (fun _ _ => trivial)
  have h7 := w7_each sos ((w5 0 0 (w4 0 ((scan w2 sos (scan w1 sos l)).map w3))).map w6)
  have k2 := each2_trans (R := fun x y => (x = 1 ∨ x = 2 ∨ x = 3 → y = x) ∧ Cl y ∧ y ≠ 9) h1 h2 (fun x y z a b => by unfold Cl at *; omega)
  have k3 := each2_trans (R := fun x y => (x = 1 → y = 1) ∧ (x = 2 ∨ x = 3 → y = 2) ∧ Cl y ∧ y ≠ 9 ∧ y ≠ 3) k2 h3 (fun x y z a b => by unfold Cl w3 at *; subst b; split <;> omega)
  have k4 := each2_trans (R := fun x y => (x = 1 → y = 1) ∧ (x = 2 ∨ x = 3 → y = 2) ∧ Cl y ∧ y ≠ 9 ∧ y ≠ 3) k3 h4 (fun x y z a b => by unfold Cl at *; omega)
  have k5 := each2_trans (R := fun x y => (x = 1 → y = 1) ∧ (x = 2 ∨ x = 3 → y = 2) ∧ Cl y ∧ y ≠ 9 ∧ y ≠ 3) k4 h5 (fun x y z a b => by unfold Cl at *; omega)
  have k6 := each2_trans (R := fun x y => (x = 1 → y = 1) ∧ (x = 2 ∨ x = 3 → y = 2) ∧ (y = 1 ∨ y = 2 ∨ y = 4 ∨ y = 7 ∨ 11 ≤ y ∧ y ≤ 14 ∨ 20 ≤ y ∧ y ≤ 23)) k5 h6 (fun x y z a b => by unfold Cl w6 at *; subst b; split <;> omega)
  exact each2_trans k6 h7 (fun x y z a b => by omega)

/-- Neutral: B, S, WS, ON, isolates' beginnings and ends. -/
def neutralB (c : Nat) : Bool := decide (11 ≤ c ∧ c ≤ 14) || decide (20 ≤ c ∧ c ≤ 23)
/-- The side of a settled class. -/
def sideOf (c : Nat) : Nat := if c = 1 then 1 else 2
/-- N1, N2: what stands behind, the level's way; ahead, how many neutral ones stand open ahead, the others. -/
def n12 (eos way : Nat) : Nat → Nat → List Nat → List Nat
  | x, n, [] => List.replicate n (if x = eos then x else way)
  | x, n, c :: l => if neutralB c then n12 eos way x (n + 1) l else List.replicate n (if sideOf c = x then x else way) ++ c :: n12 eos way (sideOf c) 0 l
def restOf (sos eos way : Nat) (l : List Nat) : List Nat := n12 eos way sos 0 l
/-- I1, I2. -/
def levelOf (l c : Nat) : Nat := if l % 2 = 0 then (if c = 2 then l + 1 else if c = 4 ∨ c = 7 then l + 2 else l) else (if c = 2 then l else l + 1)

theorem n12_len (eos way : Nat) (l : List Nat) : ∀ x n, (n12 eos way x n l).length = n + l.length := by
  induction l with
  | nil => intro x n; simp [n12]
  | cons c l ih =>
    intro x n
    rw [n12]
    split
    · rw [ih]; simp; omega
    · rw [List.length_append, List.length_cons, ih]; simp
/-- A class that is settled. -/
def Settled (y : Nat) : Prop := y = 1 ∨ y = 2 ∨ y = 4 ∨ y = 7
theorem n12_each (eos way : Nat) (hw : way = 1 ∨ way = 2) (l : List Nat) (hl : ∀ c ∈ l, Settled c ∨ neutralB c = true) : ∀ (x n : Nat) (z : List Nat), (x = 1 ∨ x = 2) → z.length = n → (∀ c ∈ z, neutralB c = true) → Each2 (fun a b => (neutralB a = false → b = a) ∧ Settled b) (z ++ l) (n12 eos way x n l) := by
  induction l with
  | nil =>
    intro x n z hx hz hn
    rw [n12, List.append_nil]
    refine ⟨by simp [hz], fun i u v hu hv => ?_⟩
    have hm := hn u (List.mem_of_getElem? hu)
    rw [List.getElem?_replicate] at hv
    split at hv
    · cases hv
      refine ⟨fun h => (by rw [hm] at h; cases h), ?_⟩
      unfold Settled
      split <;> omega
    · cases hv
  | cons c l ih =>
    intro x n z hx hz hn
    rw [n12]
    by_cases h : neutralB c = true
    · rw [if_pos h]
      have := ih (fun d hd => hl d (by simp [hd])) x (n + 1) (z ++ [c]) hx (by simp [hz]) (by
        intro d hd
        rcases List.mem_append.1 hd with h1 | h1
        · exact hn d h1
        · simp at h1; rw [h1]; exact h)
      simpa using this
    · rw [if_neg h]
      have hc : Settled c := (hl c (by simp)).resolve_right h
      refine each2_app ⟨by simp [hz], fun i u v hu hv => ?_⟩ (each2_cons ⟨fun _ => rfl, hc⟩ ?_)
      · have hm := hn u (List.mem_of_getElem? hu)
        rw [List.getElem?_replicate] at hv
        split at hv
        · cases hv
          refine ⟨fun h => (by rw [hm] at h; cases h), ?_⟩
          unfold Settled
          split <;> omega
        · cases hv
      · have hs : sideOf c = 1 ∨ sideOf c = 2 := by unfold sideOf; split <;> omega
        exact ih (fun d hd => hl d (by simp [hd])) (sideOf c) 0 [] hs rfl (by simp)
/-- **What N1 and N2 leave: settled classes stay, all are settled.** -/
theorem rest_each (sos eos way : Nat) (hs : sos = 1 ∨ sos = 2) (hw : way = 1 ∨ way = 2) (l : List Nat) (hl : ∀ c ∈ l, Settled c ∨ neutralB c = true) : Each2 (fun a b => (neutralB a = false → b = a) ∧ Settled b) l (restOf sos eos way l) :=
  n12_each eos way hw l hl sos 0 [] hs rfl (by simp)
/-- The level of a settled class. -/
theorem level_of (l c : Nat) (h : l ≤ 125) (hc : Settled c) : l ≤ levelOf l c ∧ levelOf l c ≤ 126 ∧ (c = 1 → levelOf l c % 2 = 0) ∧ (c = 2 → levelOf l c % 2 = 1) := by
  unfold levelOf Settled at *
  refine ⟨?_, ?_, fun h1 => ?_, fun h2 => ?_⟩
  all_goals
    repeat' split
    all_goals omega
/-- **A sequence, resolved: where L stands the level is even, where R or AL stands it is odd; all lie from the sequence's level to 126.** -/
theorem seq_levels (lv sos eos way : Nat) (hl : lv ≤ 125) (hs : sos = 1 ∨ sos = 2) (hw : way = 1 ∨ way = 2) (l : List Nat) (hc : ∀ c ∈ l, Cl c) :
    Each2 (fun x y => lv ≤ y ∧ y ≤ 126 ∧ (x = 1 → y % 2 = 0) ∧ (x = 2 ∨ x = 3 → y % 2 = 1)) l ((restOf sos eos way (weakOf sos l)).map (levelOf lv)) := by
  have h1 := weak_each sos hs l hc
  have m1 : ∀ c ∈ weakOf sos l, Settled c ∨ neutralB c = true := by
    intro c hm
    obtain ⟨i, hi, rfl⟩ := List.mem_iff_getElem.1 hm
    have hi2 : i < l.length := by rw [h1.1]; exact hi
    have := (h1.2 i _ _ (List.getElem?_eq_getElem hi2) (List.getElem?_eq_getElem hi)).2.2
    generalize (weakOf sos l)[i] = y at this ⊢
    unfold Settled neutralB
    simp only [Bool.or_eq_true, decide_eq_true_eq]
    omega
  have h2 := rest_each sos eos way hs hw _ m1
  have h3 := map_each (levelOf lv) (fun x y => y = levelOf lv x) (fun _ => True) (fun _ _ => rfl) (restOf sos eos way (weakOf sos l)) (fun _ _ => trivial)
  have k := each2_trans (R := fun x y => (x = 1 → y = 1) ∧ (x = 2 ∨ x = 3 → y = 2) ∧ Settled y) h1 h2 (fun x y z a b => by
    refine ⟨fun e => ?_, fun e => ?_, b.2⟩
    · have := a.1 e; subst this; exact b.1 rfl
    · have := a.2.1 e; subst this; exact b.1 rfl)
  refine each2_trans k h3 (fun x y z a b => ?_)
  subst b
  obtain ⟨p1, p2, p3, p4⟩ := level_of lv y hl a.2.2
  exact ⟨p1, p2, fun e => p3 (a.1 e), fun e => p4 (a.2.1 e)⟩

end Go.Proofs.YtjnidopbdjbbgaaGreat
end
/-
  Isolates that belong together, class by class; what they are in terms of how many are open. Plain laws.
-/
section
namespace Go.Proofs.YtjnidopbdjbbgaaGreat
set_option linter.unusedVariables false

/-- One step of Match: what is known of each place, and the places that wait, the last first. -/
def mstep (n : Nat) (s : List Int × List Nat) (c : Nat) : List Int × List Nat :=
  if begins c then (s.1 ++ [(n : Int)], s.1.length :: s.2)
  else if c = 23 then (match s.2 with | [] => (s.1 ++ [-1], []) | p :: r => ((s.1 ++ [(p : Int)]).set p (s.1.length : Int), r))
  else if c = 11 then (s.1 ++ [-1], [])
  else (s.1 ++ [-1], s.2)
def matchFrom (n : Nat) (s : List Int × List Nat) (l : List Nat) : List Int × List Nat := l.foldl (mstep n) s
def matchOf (l : List Nat) : List Int := (matchFrom l.length ([], []) l).1

theorem mstep_len (n : Nat) (s : List Int × List Nat) (c : Nat) : (mstep n s c).1.length = s.1.length + 1 := by
  unfold mstep
  split
  · simp
  · split
    · split <;> simp
    · split <;> simp
theorem matchFrom_len (n : Nat) (l : List Nat) : ∀ s, (matchFrom n s l).1.length = s.1.length + l.length := by
  induction l with
  | nil => intro s; rfl
  | cons c l ih =>
    intro s
    show (matchFrom n (mstep n s c) l).1.length = _
    rw [ih, mstep_len, List.length_cons]
    omega
theorem matchOf_len (l : List Nat) : (matchOf l).length = l.length := by
  unfold matchOf
  rw [matchFrom_len]
  simp

/-- Those that wait stand in order, and ahead. -/
def Piled (s : List Int × List Nat) : Prop := s.2.Pairwise (fun a b => b < a) ∧ ∀ p ∈ s.2, p < s.1.length
theorem piled_step {n : Nat} {s : List Int × List Nat} (h : Piled s) (c : Nat) : Piled (mstep n s c) := by
  obtain ⟨h1, h2⟩ := h
  unfold mstep
  split
  · refine ⟨List.Pairwise.cons (fun p hp => h2 p hp) h1, fun p hp => ?_⟩
    rcases List.mem_cons.1 hp with rfl | hp
    · simp
    · have := h2 p hp
      simp; omega
  · split
    · split
      · rename_i e
        exact ⟨by simp, by simp⟩
      · rename_i p r e
        rw [e] at h1 h2
        refine ⟨(List.pairwise_cons.1 h1).2, fun q hq => ?_⟩
        have := h2 q (by simp [hq])
        simp; omega
    · split
      · exact ⟨by simp, by simp⟩
      · refine ⟨h1, fun p hp => ?_⟩
        have := h2 p hp
        simp; omega
theorem piled_from {n : Nat} (l : List Nat) : ∀ {s : List Int × List Nat}, Piled s → Piled (matchFrom n s l) := by
  induction l with
  | nil => intro s h; exact h
  | cons c l ih => intro s h; exact ih (piled_step h c)
theorem piled_nil : Piled ([], []) := ⟨by simp, by simp⟩

/-- How far behind stands the PDI that ends the isolate so many levels out. -/
def closeAt : Nat → List Nat → Option Nat
  | _, [] => none
  | d, c :: l => if begins c then (closeAt (d + 1) l).map (· + 1) else if c = 23 then (if d = 0 then some 0 else (closeAt (d - 1) l).map (· + 1)) else if c = 11 then none else (closeAt d l).map (· + 1)

theorem get_app {x : Int} {a : List Int} {j : Nat} (h : j < a.length) : (a ++ [x])[j]? = a[j]? := List.getElem?_append_left h

/-- What Match says in the end: of those that do not wait, what is known; of one that waits, where its PDI stands. -/
theorem match_end (n : Nat) (l : List Nat) : ∀ s, Piled s →
    (∀ j, j < s.1.length → j ∉ s.2 → (matchFrom n s l).1[j]? = s.1[j]?) ∧
    (∀ t p, s.2[t]? = some p → (matchFrom n s l).1[p]? = match closeAt t l with | some k => some ((s.1.length + k : Nat) : Int) | none => s.1[p]?) := by
  induction l with
  | nil => intro s _; exact ⟨fun j _ _ => rfl, fun t p _ => rfl⟩
  | cons c l ih =>
    intro s hs
    obtain ⟨i1, i2⟩ := ih (mstep n s c) (piled_step hs c)
    have hl := mstep_len n s c
    show (∀ j, j < s.1.length → j ∉ s.2 → (matchFrom n (mstep n s c) l).1[j]? = s.1[j]?) ∧ (∀ t p, s.2[t]? = some p → (matchFrom n (mstep n s c) l).1[p]? = match closeAt t (c :: l) with | some k => some ((s.1.length + k : Nat) : Int) | none => s.1[p]?)
    by_cases hb : begins c = true
    · have e : mstep n s c = (s.1 ++ [(n : Int)], s.1.length :: s.2) := by unfold mstep; rw [if_pos hb]
      rw [e] at i1 i2 hl ⊢
      refine ⟨fun j hj hn => ?_, fun t p ht => ?_⟩
      · rw [i1 j (by simp; omega) (by simp; exact ⟨by omega, hn⟩)]
        exact get_app hj
      · have hp := hs.2 p (List.mem_of_getElem? ht)
        rw [i2 (t + 1) p (by simpa using ht), closeAt, if_pos hb]
        cases closeAt (t + 1) l with
        | none => exact get_app hp
        | some k => simp; omega
    · by_cases h23 : c = 23
      · cases h2 : s.2 with
        | nil =>
          have e : mstep n s c = (s.1 ++ [-1], []) := by unfold mstep; rw [if_neg hb, if_pos h23, h2]
          rw [e] at i1 i2 hl ⊢
          refine ⟨fun j hj _ => ?_, fun t p ht => by simp at ht⟩
          rw [i1 j (by simp; omega) (by simp)]
          exact get_app hj
        | cons q r =>
          have e : mstep n s c = ((s.1 ++ [(q : Int)]).set q (s.1.length : Int), r) := by unfold mstep; rw [if_neg hb, if_pos h23, h2]
          rw [e] at i1 i2 hl ⊢
          have hs1 := hs.1
          have hs2 := hs.2
          rw [h2] at hs1 hs2
          have hq := hs2 q (by simp)
          have hnd := (List.pairwise_cons.1 hs1).1
          refine ⟨fun j hj hn => ?_, fun t p ht => ?_⟩
          · simp only [List.mem_cons, not_or] at hn
            rw [i1 j (by simp; omega) hn.2]
            simp only
            rw [List.getElem?_set_ne (Ne.symm hn.1)]
            exact get_app hj
          · rw [closeAt, if_neg hb, if_pos h23]
            cases t with
            | zero =>
              obtain rfl : q = p := by simpa using ht
              rw [if_pos rfl]
              have hqr : q ∉ r := fun hm => by have := hnd q hm; omega
              rw [i1 q (by simp; omega) hqr]
              simp only
              rw [List.getElem?_set_self (by simp; omega)]
              simp
            | succ t =>
              have ht' : r[t]? = some p := by simpa using ht
              have hp := hs2 p (by simp [List.mem_of_getElem? ht'])
              have hpq := hnd p (List.mem_of_getElem? ht')
              rw [if_neg (by omega), i2 t p ht', Nat.add_sub_cancel]
              cases closeAt t l with
              | none =>
                simp only [Option.map_none]
                rw [List.getElem?_set_ne (by omega)]
                exact get_app hp
              | some k => simp; omega
      · by_cases h11 : c = 11
        · have e : mstep n s c = (s.1 ++ [-1], []) := by unfold mstep; rw [if_neg hb, if_neg h23, if_pos h11]
          rw [e] at i1 i2 hl ⊢
          refine ⟨fun j hj _ => ?_, fun t p ht => ?_⟩
          · rw [i1 j (by simp; omega) (by simp)]
            exact get_app hj
          · have hp := hs.2 p (List.mem_of_getElem? ht)
            rw [i1 p (by simp; omega) (by simp), closeAt, if_neg hb, if_neg h23, if_pos h11]
            exact get_app hp
        · have e : mstep n s c = (s.1 ++ [-1], s.2) := by unfold mstep; rw [if_neg hb, if_neg h23, if_neg h11]
          rw [e] at i1 i2 hl ⊢
          refine ⟨fun j hj hn => ?_, fun t p ht => ?_⟩
          · rw [i1 j (by simp; omega) hn]
            exact get_app hj
          · have hp := hs.2 p (List.mem_of_getElem? ht)
            rw [i2 t p ht, closeAt, if_neg hb, if_neg h23, if_neg h11]
            cases closeAt t l with
            | none => exact get_app hp
            | some k => simp; omega

theorem matchFrom_app (n : Nat) (a b : List Nat) (s : List Int × List Nat) : matchFrom n s (a ++ b) = matchFrom n (matchFrom n s a) b := by
  unfold matchFrom
  rw [List.foldl_append]
/-- The pile does not ask for the length. -/
def pileOf (l : List Nat) : List Nat := (matchFrom 0 ([], []) l).2
theorem pile_any (n m : Nat) (l : List Nat) : ∀ s t : List Int × List Nat, s.1.length = t.1.length → s.2 = t.2 → (matchFrom n s l).2 = (matchFrom m t l).2 := by
  induction l with
  | nil => intro s t _ h; exact h
  | cons c l ih =>
    intro s t h1 h2
    refine ih (mstep n s c) (mstep m t c) (by rw [mstep_len, mstep_len, h1]) ?_
    unfold mstep
    rw [h1, h2]
    split
    · rfl
    · split
      · split <;> rfl
      · split <;> rfl

/-- **An isolate's beginning: where its PDI stands.** -/
theorem match_begin (pre : List Nat) (c : Nat) (post : List Nat) (hc : begins c = true) :
    (matchOf (pre ++ c :: post))[pre.length]? = match closeAt 0 post with | some k => some ((pre.length + 1 + k : Nat) : Int) | none => some ((pre.length + 1 + post.length : Nat) : Int) := by
  have hp : Piled (matchFrom (pre ++ c :: post).length ([], []) (pre ++ [c])) := piled_from _ piled_nil
  have hl : (matchFrom (pre ++ c :: post).length ([], []) pre).1.length = pre.length := by rw [matchFrom_len]; simp
  have e : matchFrom (pre ++ c :: post).length ([], []) (pre ++ [c]) = ((matchFrom (pre ++ c :: post).length ([], []) pre).1 ++ [((pre ++ c :: post).length : Int)], pre.length :: (matchFrom (pre ++ c :: post).length ([], []) pre).2) := by
    rw [matchFrom_app]
    show mstep _ _ c = _
    unfold mstep
    rw [if_pos hc, hl]
  have h := (match_end (pre ++ c :: post).length post _ hp).2 0 pre.length (by rw [e]; rfl)
  rw [← matchFrom_app, List.append_assoc] at h
  show (matchFrom (pre ++ c :: post).length ([], []) (pre ++ c :: post)).1[pre.length]? = _
  rw [show pre ++ c :: post = pre ++ ([c] ++ post) from rfl] at h ⊢
  rw [h, matchFrom_len]
  cases closeAt 0 post with
  | none =>
    rw [show pre ++ ([c] ++ post) = pre ++ c :: post from rfl, e]
    simp only
    rw [List.getElem?_append_right (by omega), hl]
    simp
    omega
  | some k => simp

/-- A PDI: the place that waited last, or none. -/
theorem match_pdi (pre post : List Nat) : (matchOf (pre ++ 23 :: post))[pre.length]? = match pileOf pre with | [] => some (-1) | p :: _ => some (p : Int) := by
  have hp : Piled (matchFrom (pre ++ 23 :: post).length ([], []) (pre ++ [23])) := piled_from _ piled_nil
  have hp0 : Piled (matchFrom (pre ++ 23 :: post).length ([], []) pre) := piled_from _ piled_nil
  have hl : (matchFrom (pre ++ 23 :: post).length ([], []) pre).1.length = pre.length := by rw [matchFrom_len]; simp
  have hpile : (matchFrom (pre ++ 23 :: post).length ([], []) pre).2 = pileOf pre := pile_any _ 0 pre _ _ rfl rfl
  have e : matchFrom (pre ++ 23 :: post).length ([], []) (pre ++ [23]) = mstep (pre ++ 23 :: post).length (matchFrom (pre ++ 23 :: post).length ([], []) pre) 23 := by
    rw [matchFrom_app]
    rfl
  have hm := (match_end (pre ++ 23 :: post).length post _ hp).1 pre.length (by rw [matchFrom_len]; simp) (fun hmem => by
    have := hp.2
    rw [e] at hmem
    unfold mstep at hmem
    rw [if_neg (by decide), if_pos rfl, hpile] at hmem
    cases hq : pileOf pre with
    | nil => rw [hq] at hmem; simp at hmem
    | cons p r =>
      rw [hq] at hmem
      simp only at hmem
      have := hp0.2 pre.length (by rw [hpile, hq]; simp [hmem])
      omega)
  rw [← matchFrom_app, List.append_assoc] at hm
  show (matchFrom (pre ++ 23 :: post).length ([], []) (pre ++ ([23] ++ post))).1[pre.length]? = _
  rw [hm, e]
  unfold mstep
  rw [if_neg (by decide), if_pos rfl, hpile]
  cases hq : pileOf pre with
  | nil =>
    simp only
    rw [List.getElem?_append_right (by omega), hl]
    simp
  | cons p r =>
    simp only
    have := hp0.2 p (by rw [hpile, hq]; simp)
    rw [List.getElem?_set_ne (by omega), List.getElem?_append_right (by omega), hl]
    simp

/-- All others: none. -/
theorem match_none (pre : List Nat) (c : Nat) (post : List Nat) (h1 : begins c = false) (h2 : c ≠ 23) : (matchOf (pre ++ c :: post))[pre.length]? = some (-1) := by
  have hp : Piled (matchFrom (pre ++ c :: post).length ([], []) (pre ++ [c])) := piled_from _ piled_nil
  have hp0 : Piled (matchFrom (pre ++ c :: post).length ([], []) pre) := piled_from _ piled_nil
  have hl : (matchFrom (pre ++ c :: post).length ([], []) pre).1.length = pre.length := by rw [matchFrom_len]; simp
  have e : matchFrom (pre ++ c :: post).length ([], []) (pre ++ [c]) = mstep (pre ++ c :: post).length (matchFrom (pre ++ c :: post).length ([], []) pre) c := by
    rw [matchFrom_app]
    rfl
  have e2 : (mstep (pre ++ c :: post).length (matchFrom (pre ++ c :: post).length ([], []) pre) c).1 = (matchFrom (pre ++ c :: post).length ([], []) pre).1 ++ [-1] ∧ ∀ p ∈ (mstep (pre ++ c :: post).length (matchFrom (pre ++ c :: post).length ([], []) pre) c).2, p < pre.length := by
    unfold mstep
    rw [if_neg (by simp [h1]), if_neg h2]
    split
    · exact ⟨rfl, by simp⟩
    · exact ⟨rfl, fun p hp => by have := hp0.2 p hp; omega⟩
  have hm := (match_end (pre ++ c :: post).length post _ hp).1 pre.length (by rw [matchFrom_len]; simp) (fun hmem => by
    rw [e] at hmem
    have := e2.2 _ hmem
    omega)
  rw [← matchFrom_app, List.append_assoc] at hm
  show (matchFrom (pre ++ c :: post).length ([], []) (pre ++ ([c] ++ post))).1[pre.length]? = _
  rw [hm, e, e2.1, List.getElem?_append_right (by omega), hl]
  simp

/-- Where an isolate has its end, what stands within is whole, and the end is a PDI. -/
theorem close_whole (l : List Nat) : ∀ (d e k : Nat), closeAt (d + e) l = some k → ∃ a b, l = a ++ 23 :: b ∧ a.length = k ∧ depthC (d + e) a = some 0 := by
  induction l with
  | nil => intro d e k h; simp [closeAt] at h
  | cons c l ih =>
    intro d e k h
    rw [closeAt] at h
    by_cases hb : begins c = true
    · rw [if_pos hb] at h
      obtain ⟨k', hk, rfl⟩ := Option.map_eq_some_iff.1 h
      obtain ⟨a, b, rfl, h1, h2⟩ := ih d (e + 1) k' hk
      exact ⟨c :: a, b, rfl, by simp [h1], by rw [depthC, if_pos hb]; exact h2⟩
    · rw [if_neg hb] at h
      by_cases h23 : c = 23
      · rw [if_pos h23] at h
        by_cases h0 : d + e = 0
        · rw [if_pos h0] at h
          cases h
          exact ⟨[], l, by rw [h23]; rfl, rfl, by rw [h0]; rfl⟩
        · rw [if_neg h0] at h
          obtain ⟨k', hk, rfl⟩ := Option.map_eq_some_iff.1 h
          obtain ⟨a, b, rfl, h1, h2⟩ := ih (d + e - 1) 0 k' hk
          exact ⟨c :: a, b, rfl, by simp [h1], by rw [depthC, if_neg hb, if_pos h23, if_neg h0]; exact h2⟩
      · rw [if_neg h23] at h
        by_cases h11 : c = 11
        · rw [if_pos h11] at h; cases h
        · rw [if_neg h11] at h
          obtain ⟨k', hk, rfl⟩ := Option.map_eq_some_iff.1 h
          obtain ⟨a, b, rfl, h1, h2⟩ := ih d e k' hk
          exact ⟨c :: a, b, rfl, by simp [h1], by rw [depthC, if_neg hb, if_neg h23, if_neg h11]; exact h2⟩
/-- Whole classes are gone over. -/
theorem close_over (a b : List Nat) : ∀ (d e k : Nat), depthC e a = some k → closeAt (d + e) (a ++ b) = (closeAt (d + k) b).map (· + a.length) := by
  induction a with
  | nil => intro d e k h; simp [depthC] at h; subst h; simp
  | cons c a ih =>
    intro d e k h
    rw [depthC] at h
    rw [List.cons_append, closeAt]
    by_cases hb : begins c = true
    · rw [if_pos hb] at h ⊢
      rw [show d + e + 1 = d + (e + 1) from by omega, ih d (e + 1) k h, Option.map_map]
      congr 1
    · rw [if_neg hb] at h ⊢
      by_cases h23 : c = 23
      · rw [if_pos h23] at h ⊢
        by_cases h0 : e = 0
        · rw [if_pos h0] at h; cases h
        · rw [if_neg h0] at h
          rw [if_neg (by omega), show d + e - 1 = d + (e - 1) from by omega, ih d (e - 1) k h, Option.map_map]
          congr 1
      · rw [if_neg h23] at h ⊢
        by_cases h11 : c = 11
        · rw [if_pos h11] at h; cases h
        · rw [if_neg h11] at h ⊢
          rw [ih d e k h, Option.map_map]
          congr 1
theorem close_here (a b : List Nat) (h : depthC 0 a = some 0) : closeAt 0 (a ++ 23 :: b) = some a.length := by
  have := close_over a (23 :: b) 0 0 0 h
  rw [Nat.add_zero] at this
  rw [this]
  simp [closeAt, begins]

end Go.Proofs.YtjnidopbdjbbgaaGreat
end
/-
  What stands for each FSI, and the paragraph's first strong class, by way of the isolates that belong together. Plain laws.
-/
section
namespace Go.Proofs.YtjnidopbdjbbgaaGreat
set_option linter.unusedVariables false

/-- B stands at the end alone. -/
def BLast (l : List Nat) : Prop := ∀ i, l[i]? = some 11 → i + 1 = l.length
theorem BLast.tail {c : Nat} {l : List Nat} (h : BLast (c :: l)) : BLast l := fun i hi => by have := h (i + 1) (by simpa using hi); simp at this; omega
theorem BLast.app {a b : List Nat} (h : BLast (a ++ b)) : BLast b := by
  induction a with
  | nil => exact h
  | cons c a ih => exact ih h.tail
theorem BLast.last {l : List Nat} (h : BLast (11 :: l)) : l = [] := by
  have := h 0 rfl
  simp at this
  exact this

theorem fsi_none (l : List Nat) : ∀ d, closeAt d l = none → BLast l → fsi (d + 1) l = 0 := by
  induction l with
  | nil => intro d _ _; rfl
  | cons c l ih =>
    intro d h hb
    rw [closeAt] at h
    rw [fsi]
    by_cases h1 : begins c = true
    · rw [if_pos h1] at h ⊢
      exact ih (d + 1) (Option.map_eq_none_iff.1 h) hb.tail
    · rw [if_neg h1] at h ⊢
      by_cases h2 : c = 23
      · rw [if_pos h2] at h ⊢
        rw [if_neg (by omega)]
        by_cases h0 : d = 0
        · rw [if_pos h0] at h; cases h
        · rw [if_neg h0] at h
          have := ih (d - 1) (Option.map_eq_none_iff.1 h) hb.tail
          rw [show d - 1 + 1 = d + 1 - 1 from by omega] at this
          exact this
      · rw [if_neg h2] at h ⊢
        rw [if_neg (by omega), if_neg (by omega)]
        by_cases h3 : c = 11
        · subst h3
          rw [hb.last]
          rfl
        · rw [if_neg h3] at h
          exact ih d (Option.map_eq_none_iff.1 h) hb.tail
theorem strong_none (l : List Nat) : ∀ d, closeAt d l = none → BLast l → strong (d + 1) l = none := by
  induction l with
  | nil => intro d _ _; rfl
  | cons c l ih =>
    intro d h hb
    rw [closeAt] at h
    rw [strong]
    by_cases h1 : begins c = true
    · rw [if_pos h1] at h ⊢
      exact ih (d + 1) (Option.map_eq_none_iff.1 h) hb.tail
    · rw [if_neg h1] at h ⊢
      by_cases h2 : c = 23
      · rw [if_pos h2] at h ⊢
        by_cases h0 : d = 0
        · rw [if_pos h0] at h; cases h
        · rw [if_neg h0] at h
          have := ih (d - 1) (Option.map_eq_none_iff.1 h) hb.tail
          rw [show d - 1 + 1 = d + 1 - 1 from by omega] at this
          exact this
      · rw [if_neg h2] at h ⊢
        rw [if_neg (by omega)]
        by_cases h3 : c = 11
        · subst h3
          rw [hb.last]
          rfl
        · rw [if_neg h3] at h
          exact ih d (Option.map_eq_none_iff.1 h) hb.tail
theorem fsi_over (a b : List Nat) (h : depthC 0 a = some 0) : fsi 1 (a ++ 23 :: b) = fsi 0 b := by
  have := fsi_whole a (23 :: b) 0 0 0 h
  rw [show 0 + 1 + 0 = 1 from rfl] at this
  rw [this, fsi, if_neg (by decide), if_pos rfl, if_neg (by decide)]
theorem strong_over (a b : List Nat) (h : depthC 0 a = some 0) : strong 1 (a ++ 23 :: b) = strong 0 b := by
  have := strong_whole a (23 :: b) 0 0 0 h
  rw [show 0 + 1 + 0 = 1 from rfl] at this
  rw [this, strong, if_neg (by decide), if_pos rfl]

/-- From each place on, what the first strong class makes, by way of the isolates' ends M. -/
def autosOf (M : List Int) : Nat → List Nat → List Nat
  | _, [] => [0]
  | i, c :: l =>
    let r := autosOf M (i + 1) l
    let m := M.getD i 0
    (if c = 2 ∨ c = 3 then 1 else if c = 1 ∨ c = 11 ∨ c = 23 ∧ 0 ≤ m then 0 else if c ≠ 23 ∧ 0 ≤ m ∧ m < ((i + 1 + l.length : Nat) : Int) then r.getD (m.toNat - i) 0 else if m < 0 then r.getD 0 0 else 0) :: r
theorem autos_len (M : List Int) (l : List Nat) : ∀ i, (autosOf M i l).length = l.length + 1 := by
  induction l with
  | nil => intro i; rfl
  | cons c l ih => intro i; simp [autosOf, ih]
theorem autos_drop (M : List Int) (a b : List Nat) : ∀ i, (autosOf M i (a ++ b)).drop a.length = autosOf M (i + a.length) b := by
  induction a with
  | nil => intro i; rfl
  | cons c a ih =>
    intro i
    rw [List.cons_append, autosOf, List.length_cons, List.drop_succ_cons, ih, show i + 1 + a.length = i + (a.length + 1) from by omega]
theorem autos_at (M : List Int) (a b : List Nat) (i : Nat) : (autosOf M i (a ++ b)).getD a.length 0 = (autosOf M (i + a.length) b).getD 0 0 := by
  rw [← autos_drop]
  simp [List.getD_eq_getElem?_getD, List.getElem?_drop]

theorem pile_step (pre : List Nat) (c : Nat) : pileOf (pre ++ [c]) = if begins c then pre.length :: pileOf pre else if c = 23 then (pileOf pre).tail else if c = 11 then [] else pileOf pre := by
  have hl : (matchFrom 0 ([], []) pre).1.length = pre.length := by rw [matchFrom_len]; simp
  unfold pileOf
  rw [matchFrom_app]
  show (mstep 0 (matchFrom 0 ([], []) pre) c).2 = _
  unfold mstep
  rw [hl]
  split
  · rfl
  · split
    · split
      · rename_i e; rw [e]; rfl
      · rename_i e; rw [e]; rfl
    · split <;> rfl
/-- Whole classes leave those that wait. -/
theorem pile_whole (a : List Nat) : ∀ (pre : List Nat) (e k : Nat), depthC e a = some k → e ≤ (pileOf pre).length → (pileOf (pre ++ a)).drop k = (pileOf pre).drop e ∧ k ≤ (pileOf (pre ++ a)).length := by
  induction a with
  | nil => intro pre e k h he; simp [depthC] at h; subst h; simpa using he
  | cons c a ih =>
    intro pre e k h he
    rw [show pre ++ c :: a = (pre ++ [c]) ++ a from by simp]
    have hs := pile_step pre c
    rw [depthC] at h
    by_cases h1 : begins c = true
    · rw [if_pos h1] at h hs
      have := ih (pre ++ [c]) (e + 1) k h (by rw [hs]; simp; exact he)
      rw [hs] at this
      exact this
    · rw [if_neg h1] at h hs
      by_cases h2 : c = 23
      · rw [if_pos h2] at h hs
        by_cases h0 : e = 0
        · rw [if_pos h0] at h; cases h
        · rw [if_neg h0] at h
          have := ih (pre ++ [c]) (e - 1) k h (by rw [hs]; simp; omega)
          rw [hs] at this
          obtain ⟨e', rfl⟩ : ∃ e', e = e' + 1 := ⟨e - 1, by omega⟩
          simpa using this
      · rw [if_neg h2] at h hs
        by_cases h3 : c = 11
        · rw [if_pos h3] at h; cases h
        · rw [if_neg h3] at h hs
          have := ih (pre ++ [c]) e k h (by rw [hs]; exact he)
          rw [hs] at this
          exact this
theorem pile_isolate (pre : List Nat) (c : Nat) (a : List Nat) (hc : begins c = true) (h : depthC 0 a = some 0) : pileOf (pre ++ c :: (a ++ [23])) = pileOf pre := by
  have h1 := pile_step pre c
  rw [if_pos hc] at h1
  have h2 := (pile_whole a (pre ++ [c]) 0 0 h (by omega)).1
  have h3 := pile_step ((pre ++ [c]) ++ a) 23
  rw [if_neg (by decide), if_pos rfl] at h3
  simp only [List.drop_zero] at h2
  rw [h2, h1] at h3
  rw [show pre ++ c :: (a ++ [23]) = ((pre ++ [c]) ++ a) ++ [23] from by simp]
  exact h3

theorem getD_of {l : List Int} {i : Nat} {x : Int} (h : l[i]? = some x) (d : Int) : l.getD i d = x := by rw [List.getD_eq_getElem?_getD, h]; rfl

/-- **What stands for an FSI, found by way of the ends, is what the first strong class makes.** -/
theorem autos_fsi (L : List Nat) (hB : BLast L) : ∀ (k : Nat) (post pre : List Nat), post.length ≤ k → L = pre ++ post → pileOf pre ≠ [] → (autosOf (matchOf L) pre.length post).getD 0 0 = fsi 0 post := by
  intro k
  induction k with
  | zero =>
    intro post pre hk e hp
    have : post = [] := List.eq_nil_of_length_eq_zero (by omega)
    subst this
    rfl
  | succ k ih =>
    intro post pre hk e hp
    cases post with
    | nil => rfl
    | cons c post =>
      have hBp : BLast (c :: post) := (e ▸ hB : BLast (pre ++ c :: post)).app
      rw [autosOf, fsi]
      simp only [List.getD_cons_zero]
      have hs := pile_step pre c
      simp only [List.length_cons] at hk
      by_cases h1 : begins c = true
      · obtain ⟨e1, e2, e3, e4, e5⟩ := begin_pdi h1
        rw [if_pos h1, if_neg (by omega), if_neg (by omega)]
        have hm := match_begin pre c post h1
        rw [← e] at hm
        cases hcl : closeAt 0 post with
        | none =>
          rw [hcl] at hm
          simp only at hm
          rw [getD_of hm, if_neg (by omega), if_neg (by omega)]
          exact (fsi_none post 0 hcl hBp.tail).symm
        | some j =>
          rw [hcl] at hm
          simp only at hm
          obtain ⟨a, b, rfl, ha, hd⟩ := close_whole post 0 0 j hcl
          rw [getD_of hm, if_pos (by simp; omega)]
          have h2 := ih b (pre ++ c :: (a ++ [23])) (by simp at hk; omega) (by rw [e]; simp) (by rw [pile_isolate pre c a h1 hd]; exact hp)
          have h3 := autos_at (matchOf L) (a ++ [23]) b (pre.length + 1)
          rw [fsi_over a b hd, ← h2]
          rw [show (a ++ 23 :: b) = (a ++ [23]) ++ b from by simp, show ((pre.length + 1 + j : Nat) : Int).toNat - pre.length = (a ++ [23]).length from by simp; omega, h3]
          congr 2
          simp; omega
      · rw [if_neg h1] at hs ⊢
        by_cases h2 : c = 23
        · subst h2
          have hm := match_pdi pre post
          rw [← e] at hm
          cases hq : pileOf pre with
          | nil => exact absurd hq hp
          | cons p r =>
            rw [hq] at hm
            simp only at hm
            rw [getD_of hm, if_neg (by decide), if_pos (.inr (.inr ⟨rfl, by omega⟩)), if_pos rfl]
            simp
        · have hm := match_none pre c post (by simpa using h1) h2
          rw [← e] at hm
          rw [getD_of hm, if_neg h2]
          rw [if_neg h2] at hs
          by_cases h3 : c = 11
          · rw [if_neg (by omega), if_pos (.inr (.inl h3)), if_pos ⟨trivial, .inr h3⟩]
          · rw [if_neg h3] at hs
            by_cases h4 : c = 1
            · rw [if_neg (by omega), if_pos (.inl h4), if_pos ⟨trivial, .inl h4⟩]
            · by_cases h5 : c = 2 ∨ c = 3
              · rw [if_pos h5, if_neg (by omega), if_pos ⟨trivial, h5⟩]
              · rw [if_neg h5, if_neg (by omega), if_neg (by omega), if_pos (by omega), if_neg (by omega), if_neg (by omega)]
                have := ih post (pre ++ [c]) (by omega) (by rw [e]; simp) (by rw [hs]; exact hp)
                rw [← this]
                simp

/-- The first strong class: its place, by way of the isolates' ends. -/
def firstOf (M : List Int) : Nat → Int → List Nat → Option Nat
  | _, _, [] => none
  | i, skip, c :: l => if (i : Int) < skip then firstOf M (i + 1) skip l else if c = 1 ∨ c = 2 ∨ c = 3 then some i else if begins c then firstOf M (i + 1) (M.getD i 0) l else firstOf M (i + 1) skip l
theorem first_skip (M : List Int) (a b : List Nat) : ∀ (i : Nat) (skip : Int), ((i + a.length : Nat) : Int) ≤ skip → firstOf M i skip (a ++ b) = firstOf M (i + a.length) skip b := by
  induction a with
  | nil => intro i skip _; rfl
  | cons c a ih =>
    intro i skip h
    simp only [List.length_cons] at h
    rw [List.cons_append, firstOf, if_pos (by omega), ih (i + 1) skip (by omega), List.length_cons, show i + 1 + a.length = i + (a.length + 1) from by omega]
theorem first_strong (L : List Nat) (hB : BLast L) : ∀ (k : Nat) (post pre : List Nat) (skip : Int), post.length ≤ k → L = pre ++ post → skip ≤ pre.length → (firstOf (matchOf L) pre.length skip post).bind (fun i => L[i]?) = strong 0 post := by
  intro k
  induction k with
  | zero =>
    intro post pre skip hk e hs
    have : post = [] := List.eq_nil_of_length_eq_zero (by omega)
    subst this
    rfl
  | succ k ih =>
    intro post pre skip hk e hs
    cases post with
    | nil => rfl
    | cons c post =>
      have hBp : BLast (c :: post) := (e ▸ hB : BLast (pre ++ c :: post)).app
      simp only [List.length_cons] at hk
      rw [firstOf, if_neg (by omega), strong]
      by_cases h1 : begins c = true
      · obtain ⟨e1, e2, e3, e4, e5⟩ := begin_pdi h1
        rw [if_pos h1, if_neg (by omega), if_pos h1]
        have hm := match_begin pre c post h1
        rw [← e] at hm
        cases hcl : closeAt 0 post with
        | none =>
          rw [hcl] at hm
          simp only at hm
          rw [getD_of hm]
          have := first_skip (matchOf L) post [] (pre.length + 1) ((pre.length + 1 + post.length : Nat) : Int) (by omega)
          rw [List.append_nil] at this
          rw [this, strong_none post 0 hcl hBp.tail]
          rfl
        | some j =>
          rw [hcl] at hm
          simp only at hm
          obtain ⟨a, b, rfl, ha, hd⟩ := close_whole post 0 0 j hcl
          rw [getD_of hm, strong_over a b hd, first_skip (matchOf L) a (23 :: b) (pre.length + 1) _ (by omega), firstOf, if_neg (by omega), if_neg (by decide), if_neg (by decide)]
          have h2 := ih b (pre ++ c :: (a ++ [23])) ((pre.length + 1 + j : Nat) : Int) (by simp at hk; omega) (by rw [e]; simp) (by simp; omega)
          rw [← h2, show (pre ++ c :: (a ++ [23])).length = pre.length + 1 + a.length + 1 from by simp; omega]
      · rw [if_neg h1, if_neg h1]
        by_cases h4 : c = 1 ∨ c = 2 ∨ c = 3
        · rw [if_pos h4, if_neg (by omega), if_pos ⟨rfl, h4⟩]
          show L[pre.length]? = some c
          rw [e]
          simp
        · rw [if_neg h4]
          have h2 := ih post (pre ++ [c]) skip (by omega) (by rw [e]; simp) (by simp; omega)
          rw [List.length_append, List.length_singleton] at h2
          rw [h2]
          by_cases h23 : c = 23
          · rw [if_pos h23]
          · rw [if_neg h23, if_neg (by simp [h4])]
/-- The level of a paragraph. -/
def baseOf (b : Int) (l : List Nat) : Nat := if b = 0 then 0 else if b = 1 then 1 else match strong 0 l with | some c => if c = 1 then 0 else 1 | none => 0
theorem baseOf_le (b : Int) (l : List Nat) : baseOf b l = 0 ∨ baseOf b l = 1 := by
  unfold baseOf
  repeat' split
  all_goals omega

/-- What is looked at by places is whole. -/
theorem depth_over (a b : List Nat) : ∀ (d e k : Nat), depthC e a = some k → depthC (d + e) (a ++ b) = depthC (d + k) b := by
  induction a with
  | nil => intro d e k h; simp [depthC] at h; subst h; simp
  | cons c a ih =>
    intro d e k h
    rw [depthC] at h
    rw [List.cons_append, depthC]
    by_cases hb : begins c = true
    · rw [if_pos hb] at h ⊢
      exact ih d (e + 1) k h
    · rw [if_neg hb] at h ⊢
      by_cases h23 : c = 23
      · rw [if_pos h23] at h ⊢
        by_cases h0 : e = 0
        · rw [if_pos h0] at h; cases h
        · rw [if_neg h0] at h
          rw [if_neg (by omega), show d + e - 1 = d + (e - 1) from by omega]
          exact ih d (e - 1) k h
      · rw [if_neg h23] at h ⊢
        by_cases h11 : c = 11
        · rw [if_pos h11] at h; cases h
        · rw [if_neg h11] at h ⊢
          exact ih d e k h
theorem whole_some (L : List Nat) (hw : ∀ (i c : Nat), L[i]? = some c → c ≠ 11 ∧ (c = 23 → (matchOf L)[i]? ≠ some (-1))) : ∀ (post pre : List Nat), L = pre ++ post → depthC (pileOf pre).length post ≠ none := by
  intro post
  induction post with
  | nil => intro pre _; simp [depthC]
  | cons c post ih =>
    intro pre e
    have hs := pile_step pre c
    obtain ⟨w1, w2⟩ := hw pre.length c (by rw [e]; simp)
    have h2 := ih (pre ++ [c]) (by rw [e]; simp)
    rw [depthC]
    by_cases hb : begins c = true
    · rw [if_pos hb] at hs ⊢
      rw [hs] at h2
      exact h2
    · rw [if_neg hb] at hs ⊢
      by_cases h23 : c = 23
      · rw [if_pos h23] at hs ⊢
        have hm := match_pdi pre post
        rw [← h23, ← e] at hm
        cases hq : pileOf pre with
        | nil => rw [hq] at hm; exact absurd hm (w2 h23)
        | cons p r =>
          rw [if_neg (by simp)]
          rw [hs, hq] at h2
          exact h2
      · rw [if_neg h23, if_neg w1] at hs ⊢
        rw [hs] at h2
        exact h2
theorem whole_le (L : List Nat) (hw : ∀ (i c : Nat), L[i]? = some c → begins c = true → (matchOf L)[i]? ≠ some (L.length : Int)) : ∀ (n : Nat) (post pre : List Nat) (d k : Nat), post.length ≤ n → L = pre ++ post → depthC d post = some k → k ≤ d := by
  intro n
  induction n with
  | zero =>
    intro post pre d k hn e h
    have : post = [] := List.eq_nil_of_length_eq_zero (by omega)
    subst this
    simp [depthC] at h
    omega
  | succ n ih =>
    intro post pre d k hn e h
    cases post with
    | nil => simp [depthC] at h; omega
    | cons c post =>
      simp only [List.length_cons] at hn
      rw [depthC] at h
      by_cases hb : begins c = true
      · rw [if_pos hb] at h
        have hm := match_begin pre c post hb
        rw [← e] at hm
        cases hcl : closeAt 0 post with
        | none =>
          rw [hcl] at hm
          exact absurd (by rw [hm, e]; simp; omega) (hw pre.length c (by rw [e]; simp) hb)
        | some j =>
          obtain ⟨a, b, rfl, ha, hd⟩ := close_whole post 0 0 j hcl
          have h3 := depth_over a (23 :: b) (d + 1) 0 0 hd
          rw [Nat.add_zero] at h3
          rw [h3, depthC, if_neg (by decide), if_pos rfl, if_neg (by omega), Nat.add_sub_cancel] at h
          exact ih b (pre ++ c :: (a ++ [23])) d k (by simp at hn; omega) (by rw [e]; simp) h
      · rw [if_neg hb] at h
        by_cases h23 : c = 23
        · rw [if_pos h23] at h
          by_cases h0 : d = 0
          · rw [if_pos h0] at h; cases h
          · rw [if_neg h0] at h
            have := ih post (pre ++ [c]) (d - 1) k (by omega) (by rw [e]; simp) h
            omega
        · rw [if_neg h23] at h
          by_cases h11 : c = 11
          · rw [if_pos h11] at h; cases h
          · rw [if_neg h11] at h
            exact ih post (pre ++ [c]) d k (by omega) (by rw [e]; simp) h
/-- **Where all isolates of some classes belong together, and no B stands there, they are whole.** -/
theorem whole_depth (L : List Nat) (hw : ∀ (i c : Nat), L[i]? = some c → c ≠ 11 ∧ (begins c = true → (matchOf L)[i]? ≠ some (L.length : Int)) ∧ (c = 23 → (matchOf L)[i]? ≠ some (-1))) : depthC 0 L = some 0 := by
  have h1 := whole_some L (fun i c h => ⟨(hw i c h).1, (hw i c h).2.2⟩) L [] rfl
  cases h : depthC 0 L with
  | none => exact absurd h h1
  | some k =>
    have := whole_le L (fun i c h => (hw i c h).2.1) L.length L [] 0 k (Nat.le_refl _) rfl h
    rw [show k = 0 from by omega]

end Go.Proofs.YtjnidopbdjbbgaaGreat
end
