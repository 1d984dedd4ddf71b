/-
  The levels of classes (Classes): walked.
-/
import Derived.Test.YtjnidopbdjbbgaaGreatA22
import Derived.Test.YtjnidopbdjbbgaaGreatA04
import Derived.Test.YtjnidopbdjbbgaaGreatA00
import Derived.Test.YtjnidopbdjbbgaaGreatA20
section
namespace Go.Proofs.YtjnidopbdjbbgaaGreat
open Go.RowKit
set_option linter.unusedVariables false

def mayB (b : Int) : Bool := b == -1 || b == 0 || b == 1
theorem mayB_iff (b : Int) : mayB b = true ↔ b = -1 ∨ b = 0 ∨ b = 1 := by unfold mayB; simp [or_assoc]
set_option maxHeartbeats 2000000 in
theorem may_any (w : World) (b : Int) : Calls Tryz.prog 20 #[.int .i8 b] w fun e w' => e = .returned (.bool (mayB b)) ∧ w = w' := by
  rcases (show b = -1 ∨ b = 0 ∨ b = 1 ∨ (b ≠ -1 ∧ b ≠ 0 ∧ b ≠ 1) by omega) with rfl | rfl | rfl | ⟨h1, h2, h3⟩
  · go_enter Tryz.func20, Tryz.ntmps20
    go_wp2
    go_ret
    exact ⟨rfl, rfl⟩
  · go_enter Tryz.func20, Tryz.ntmps20
    go_wp2
    go_ret
    exact ⟨rfl, rfl⟩
  · go_enter Tryz.func20, Tryz.ntmps20
    go_wp2
    go_ret
    exact ⟨rfl, rfl⟩
  · have e : mayB b = false := by rw [Bool.eq_false_iff, ne_eq, mayB_iff]; omega
    rw [e]
    have e1 : (b == -1) = false := by simpa using h1
    have e2 : (b == 0) = false := by simpa using h2
    have e3 : (b == 1) = false := by simpa using h3
    go_enter Tryz.func20, Tryz.ntmps20
    go_wp2
    go_ret
    exact ⟨rfl, rfl⟩

/-- Does B stand at the end alone? -/
def lastB (l : List Nat) : Bool := (List.range l.length).all fun i => l.getD i 0 != 11 || i + 1 == l.length
theorem lastB_iff (l : List Nat) : lastB l = true ↔ BLast l := by
  unfold lastB BLast
  rw [List.all_eq_true]
  constructor
  · intro h i hi
    have hl := (List.getElem?_eq_some_iff.1 hi).1
    have := h i (List.mem_range.2 hl)
    rw [List.getD_eq_getElem?_getD, hi] at this
    simpa using this
  · intro h i hi
    have hl := List.mem_range.1 hi
    rw [List.getD_eq_getElem?_getD, List.getElem?_eq_getElem hl]
    by_cases h1 : l[i] = 11
    · have := h i (by rw [List.getElem?_eq_getElem hl, h1])
      simp [this]
    · simp [h1]
set_option maxRecDepth 20000 in
set_option maxHeartbeats 4000000 in
/-- Is it a paragraph's: with no runes, or without a B. -/
theorem whole_any (w : World) (a : Option Addr) (c : Nat) (l : List Nat) (ra : Option Addr) (rn rc : Nat) (hr : rn = 0 ∨ ∀ x ∈ l, x ≠ 11) (hn : l.length ≤ 1048576) (hc : Cells w a (l.map u8V)) :
    Calls Tryz.prog 22 #[.slice a l.length c, .slice ra rn rc] w fun e w' => e = .returned (.bool (lastB l)) ∧ w = w' := by
  have HC := Lib.hid hc
  have HR := Lib.hid hr
  obtain ⟨n, hnn⟩ : ∃ n, n = l.length := ⟨_, rfl⟩
  have HN := Lib.hid hnn
  rw [← hnn] at hn ⊢
  have hn2 : (n : Int) ≤ 1048576 := by omega
  clear hc hr hnn
  go_enter Tryz.func22, Tryz.ntmps22
  go_wp2
  go_loopg [13] n (fun r i wr => ∃ k : Nat, k + r = n ∧ i = .int .i64 k ∧ w = wr ∧ ∀ j, j < k → l.getD j 0 ≠ 11 ∨ j + 1 = n)
  case atStart => exact ⟨0, by omega, rfl, rfl, fun j hj => by omega⟩
  case round =>
    obtain ⟨k, hk, rfl, rfl, hall⟩ := hrel
    have HALL := Lib.hid hall
    clear hall
    by_cases hlt : k < n
    · obtain ⟨x, hx⟩ : ∃ x, l[k]? = some x := ⟨_, List.getElem?_eq_getElem (by rw [← HN.out]; exact hlt)⟩
      obtain ⟨b, o, rfl, hcx⟩ := HC.out.getm hx
      unfold u8V at hcx
      have HX := Lib.hid hx
      have HK := Lib.hid hk
      have hk0 : (0 : Int) ≤ (k : Int) := by omega
      have hk1 : (k : Int) < (n : Int) := by omega
      have hxD : l.getD k 0 = x := by rw [List.getD_eq_getElem?_getD, hx]; rfl
      have HXD := Lib.hid hxD
      clear hx hk hxD
      by_cases h11 : x = 11
      · subst h11
        by_cases hl : k + 1 = n
        · have hd : decide ((k : Int) = (n : Int) - 1) = true := by simp; omega
          have hd2 : ((k : Int) == (n : Int) - 1) = true := by simp; omega
          have HL := Lib.hid hl
          clear hl
          go_wp2
          go_roundg (gk - 1)
          case measure => have := HK.out; omega
          case rel => exact ⟨k + 1, by have := HK.out; omega, by go_num, rfl, fun j hj => by rcases Nat.lt_or_ge j k with h | h; exact HALL.out j h; exact .inr (by have := HL.out; omega)⟩
        · have hd2 : ((k : Int) == (n : Int) - 1) = false := by simp; omega
          have hrn : rn = 0 := by rcases HR.out with h | h; exact h; exact absurd rfl (h 11 (List.mem_of_getElem? HX.out))
          subst hrn
          have HF : Hid (lastB l = false) := Lib.hid (by
            rw [Bool.eq_false_iff, ne_eq, lastB_iff]
            intro h
            have := h k HX.out
            have := HN.out
            omega)
          cases hd3 : ((k : Int) != (n : Int) - 1 - 1) with
          | true =>
            go_wp2
            go_ret
            exact ⟨by rw [HF.out]; rfl, rfl⟩
          | false =>
            go_wp2
            go_ret
            exact ⟨by rw [HF.out]; rfl, rfl⟩
      · have hne : ((x : Int) != 11) = true := by simp; omega
        have HNE := Lib.hid h11
        clear h11
        go_wp2
        go_roundg (gk - 1)
        case measure => have := HK.out; omega
        case rel => exact ⟨k + 1, by have := HK.out; omega, by go_num, rfl, fun j hj => by rcases Nat.lt_or_ge j k with h | h; exact HALL.out j h; exact .inl (by rw [show j = k by omega, HXD.out]; exact HNE.out)⟩
    · obtain rfl : n = k := by omega
      have HT : Hid (lastB l = true) := Lib.hid (by
        rw [lastB_iff]
        intro i hi
        have hl := (List.getElem?_eq_some_iff.1 hi).1
        rcases HALL.out i (by rw [HN.out]; exact hl) with h | h
        · rw [List.getD_eq_getElem?_getD, hi] at h; exact absurd rfl h
        · rw [h, HN.out])
      clear hk hlt
      go_wp2
      go_ret
      exact ⟨by rw [HT.out]; rfl, rfl⟩

/-- What the steps make of a sequence's classes. -/
def cfC (s : Sq) : Nat → List Nat
  | 0 => s.cs
  | 1 => weakOf s.sos s.cs
  | _ => restOf s.sos s.eos (wayOf s.lv) (weakOf s.sos s.cs)
theorem weak_len {s : Sq} (h : s.Ok) : (weakOf s.sos s.cs).length = s.ps.length := (weak_each s.sos h.sos s.cs h.cl).1.symm.trans h.same
theorem weak_soft {s : Sq} (h : s.Ok) : ∀ c ∈ weakOf s.sos s.cs, Settled c ∨ neutralB c = true := by
  have h1 := weak_each s.sos h.sos s.cs h.cl
  intro c hm
  obtain ⟨i, hi, rfl⟩ := List.mem_iff_getElem.1 hm
  have hi2 : i < s.cs.length := by rw [h1.1]; exact hi
  have := (h1.2 i _ _ (List.getElem?_eq_getElem hi2) (List.getElem?_eq_getElem hi)).2.2
  generalize (weakOf s.sos s.cs)[i] = y at this ⊢
  unfold Settled neutralB
  simp only [Bool.or_eq_true, decide_eq_true_eq]
  omega
theorem rest_len (sos eos way : Nat) (l : List Nat) : (restOf sos eos way l).length = l.length := by unfold restOf; rw [n12_len]; omega
theorem settled_cl {c : Nat} (h : Settled c) : Cl c := by unfold Settled at h; unfold Cl; omega
theorem rest_settled {s : Sq} (h : s.Ok) : ∀ c ∈ restOf s.sos s.eos (wayOf s.lv) (weakOf s.sos s.cs), Settled c := by
  have h1 := rest_each s.sos s.eos (wayOf s.lv) h.sos (way_one _) (weakOf s.sos s.cs) (weak_soft h)
  intro c hm
  obtain ⟨i, hi, rfl⟩ := List.mem_iff_getElem.1 hm
  have hi2 : i < (weakOf s.sos s.cs).length := by rw [h1.1]; exact hi
  exact (h1.2 i _ _ (List.getElem?_eq_getElem hi2) (List.getElem?_eq_getElem hi)).2
theorem soft_cl {c : Nat} (h : Settled c ∨ neutralB c = true) : Cl c := by
  rcases h with h | h
  · exact settled_cl h
  · unfold neutralB at h
    simp at h
    unfold Cl
    omega
theorem weak_ok {s : Sq} (h : s.Ok) : (stG cfC s 1).Ok := ⟨h.pos, weak_len h, h.big, h.up, h.top, fun c hc => soft_cl (weak_soft h c hc), h.lv, h.sos, h.eos⟩
theorem rest_ok {s : Sq} (h : s.Ok) : (stG cfC s 2).Ok := ⟨h.pos, (rest_len _ _ _ _).trans (weak_len h), h.big, h.up, h.top, fun c hc => settled_cl (rest_settled h c hc), h.lv, h.sos, h.eos⟩
theorem cfC_len {s : Sq} (h : s.Ok) : ∀ k, (cfC s k).length = s.ps.length
  | 0 => h.same
  | 1 => weak_len h
  | k + 2 => (rest_len _ _ _ _).trans (weak_len h)
def stepsV : List Value := [.func (.func 25) #[] #[], .func (.func 26) #[] #[]]
theorem steps_any (w : World) (x : Value) : Calls Tryz.prog 24 #[x] w fun e w' => e = .returned (.slice (some ⟨w.heap.size, 0, none⟩) 2 2) ∧ w' = w.alloc (.cells stepsV.toArray 91) := by
  go_enter Tryz.func24, Tryz.ntmps24
  go_wp2
  go_ret
  exact ⟨rfl, rfl⟩
theorem stepsC_ok (Sx : Nat → Prop) (W0 : World) (S : List Sq) (hS : ∀ s ∈ S, s.Ok) : StepsOk Sx W0 stepsV S cfC := by
  refine ⟨fun s hs k v hv => ?_⟩
  have hok := hS s hs
  match k, hv with
  | 0, hv =>
    simp [stepsV] at hv
    subst hv
    refine ⟨25, #[], rfl, enters_of Tryz.func25 (by kernel_rfl) rfl, fun W _ pa pc ca cc hin => ?_⟩
    rw [Array.append_empty]
    exact weak_fresh W s hok pa ca pc cc hin
  | 1, hv =>
    simp [stepsV] at hv
    subst hv
    refine ⟨26, #[], rfl, enters_of Tryz.func26 (by kernel_rfl) rfl, fun W _ pa pc ca cc hin => ?_⟩
    rw [Array.append_empty]
    exact rest_any W (stG cfC s 1) (weak_ok hok) (weak_soft hok) pa ca pc cc hin
  | k + 2, hv => simp [stepsV] at hv
/-- The levels that the engine gives to classes. -/
def engineOf (b : Int) (l : List Nat) : List Int := layAll (lvsOf (baseOf b l) l) (seqsOf l (nwsOf (baseOf b l) l) (lvsOf (baseOf b l) l) (baseOf b l)) cfC 2
theorem levels_classes (w : World) (ca : Option Addr) (cc : Nat) (l : List Nat) (b : Int) (hb : b = -1 ∨ b = 0 ∨ b = 1) (hn : l.length ≤ 1048576) (hc : Cells w ca (l.map u8V)) (h23 : ∀ x ∈ l, 1 ≤ x ∧ x ≤ 23) (hB : BLast l) :
    Calls Tryz.prog 23 #[.slice ca l.length cc, .int .i8 b, .func (.func 24) #[] #[]] w fun e w' => ∃ ka kc la lc, e = .returned (.tuple #[.agg #[.int .i8 (baseOf b l), .slice ka l.length kc, .slice la l.length lc], .int .i64 0]) ∧ Own w' w.heap.size 1 ka l.length kc (l.map u8V) ∧
      Own w' w.heap.size 1 la l.length lc ((engineOf b l).map i8V) ∧ Below w.heap.size w w' := by
  have hb1 : baseOf b l ≤ 1 := by have := baseOf_le b l; omega
  have hg := seqs_good (base := baseOf b l) (l := l) hb1 hn h23
  refine levels_gen w ca cc l b hb hn hc h23 hB 24 #[] (enters_of Tryz.func24 (by kernel_rfl) rfl) 2 (by decide) cfC (fun s => rfl) (fun W _ Sx na nc _ _ => ?_) (fun s hs => ⟨cfC_len (hg s hs).ok, rest_ok (hg s hs).ok, (hg s hs).lv, rest_settled (hg s hs).ok⟩)
  rw [Array.append_empty]
  refine (steps_any W _).mono ?_
  rintro e w' ⟨rfl, rfl⟩
  exact ⟨_, _, stepsV, rfl, rfl, Cells.new W stepsV 91, stepsC_ok Sx _ _ (fun s hs => (hg s hs).ok), (Below.refl _ _).alloc (Nat.le_refl _) _, fun g hg => by rw [blk_some] at hg; simp at hg; omega⟩

end Go.Proofs.YtjnidopbdjbbgaaGreat
end
/-
  Is a list of classes whole: do all its isolates belong together, and is there no B: walked.
-/
section
namespace Go.Proofs.YtjnidopbdjbbgaaGreat
open Go.RowKit
set_option linter.unusedVariables false

/-- Is a place one that has no other end, or a B? -/
def wbad (l : List Nat) (i : Nat) : Bool := l.getD i 0 == 11 || (begins (l.getD i 0) && (matchOf l).getD i 0 == (l.length : Int)) || (l.getD i 0 == 23 && (matchOf l).getD i 0 == -1)
def wholeB (l : List Nat) : Bool := (List.range l.length).all fun i => !wbad l i
theorem wholeB_iff (l : List Nat) : wholeB l = true ↔ ∀ i, i < l.length → wbad l i = false := by
  unfold wholeB
  rw [List.all_eq_true]
  constructor
  · intro h i hi
    have := h i (List.mem_range.2 hi)
    simpa using this
  · intro h i hi
    rw [h i (List.mem_range.1 hi)]
    rfl
theorem whole_is {l : List Nat} (h : wholeB l = true) : depthC 0 l = some 0 := by
  rw [wholeB_iff] at h
  refine whole_depth l fun i c hc => ?_
  have hi := (List.getElem?_eq_some_iff.1 hc).1
  have h1 := h i hi
  unfold wbad at h1
  rw [show l.getD i 0 = c from by rw [List.getD_eq_getElem?_getD, hc]; rfl] at h1
  simp only [Bool.or_eq_false_iff, Bool.and_eq_false_iff, beq_eq_false_iff_ne] at h1
  obtain ⟨⟨h2, h3⟩, h4⟩ := h1
  refine ⟨h2, fun hb e => ?_, fun h23 e => ?_⟩
  · rcases h3 with h3 | h3
    · rw [hb] at h3; cases h3
    · exact h3 (by rw [List.getD_eq_getElem?_getD, e]; rfl)
  · rcases h4 with h4 | h4
    · exact h4 h23
    · exact h4 (by rw [List.getD_eq_getElem?_getD, e]; rfl)

set_option maxRecDepth 20000 in
set_option maxHeartbeats 4000000 in
theorem wholeT_any (w : World) (a : Option Addr) (c : Nat) (l : List Nat) (hn : l.length ≤ 1048576) (hc : Cells w a (l.map u8V)) :
    Calls Tryz.prog 8 #[.slice a l.length c] w fun e w' => e = .returned (.bool (wholeB l)) ∧ Below w.heap.size w w' := by
  have HC := Lib.hid hc
  have HR := Lib.hid (rmatch_any w a c l (by omega) hc)
  obtain ⟨n, hnn⟩ : ∃ n, n = l.length := ⟨_, rfl⟩
  have HN := Lib.hid hnn
  rw [← hnn] at hn HR ⊢
  have hn2 : (n : Int) ≤ 1048576 := by omega
  clear hc hnn
  go_enter Tryz.func8, Tryz.ntmps8
  go_wp2_with (go_at_call 7; refine (HR.out).mono ?_; rintro e W5 ⟨g, rfl, q1, q2⟩; have Q1 := Lib.hid q1; have Q2 := Lib.hid q2; clear q1 q2)
  go_loopg [4] n (fun r i wr => ∃ k : Nat, k + r = n ∧ i = .int .i64 k ∧ W5 = wr ∧ ∀ j, j < k → wbad l j = false)
  case atStart => exact ⟨0, by omega, rfl, rfl, fun j hj => by omega⟩
  case round =>
    obtain ⟨k, hk, rfl, rfl, hall⟩ := hrel
    have HALL := Lib.hid hall
    clear hall
    by_cases hlt : k < n
    · obtain ⟨x, hx⟩ : ∃ x, l[k]? = some x := ⟨_, List.getElem?_eq_getElem (by rw [← HN.out]; exact hlt)⟩
      obtain ⟨m, hm⟩ : ∃ m, (matchOf l)[k]? = some m := ⟨_, List.getElem?_eq_getElem (by rw [matchOf_len, ← HN.out]; exact hlt)⟩
      obtain ⟨b, o, rfl, hcx⟩ := (HC.out.below Q2.out).getm hx
      have hcm := (Q1.out.getm hm).1
      unfold u8V at hcx
      unfold i64V at hcm
      have HK := Lib.hid hk
      have hk0 : (0 : Int) ≤ (k : Int) := by omega
      have hk1 : (k : Int) < (n : Int) := by omega
      have hw : wbad l k = (x == 11 || (begins x && m == (n : Int)) || (x == 23 && m == -1)) := by
        unfold wbad
        rw [show l.getD k 0 = x from by rw [List.getD_eq_getElem?_getD, hx]; rfl, show (matchOf l).getD k 0 = m from by rw [List.getD_eq_getElem?_getD, hm]; rfl, ← HN.out]
      have HBAD : Hid (wbad l k = true → wholeB l = false) := Lib.hid fun h => by
        rw [Bool.eq_false_iff, ne_eq, wholeB_iff]
        intro hh
        have := hh k (by rw [← HN.out]; exact hlt)
        rw [h] at this
        cases this
      have HNEXT : Hid (wbad l k = false → ∀ j, j < k + 1 → wbad l j = false) := Lib.hid fun h j hj => by
        rcases Nat.lt_or_ge j k with h1 | h1
        · exact HALL.out j h1
        · rw [show j = k by omega]; exact h
      clear hx hm hk
      by_cases h11 : x = 11
      · subst h11
        have HB := Lib.hid (HBAD.out (by rw [hw]; rfl))
        clear hw
        go_wp2
        go_ret
        exact ⟨by rw [HB.out]; rfl, Q2.out⟩
      · by_cases h23 : x = 23
        · subst h23
          by_cases hm1 : m = -1
          · subst hm1
            have HB := Lib.hid (HBAD.out (by rw [hw]; rfl))
            clear hw
            go_wp2
            go_ret
            exact ⟨by rw [HB.out]; rfl, Q2.out⟩
          · have hd1 : (m == -1) = false := by simpa using hm1
            have HB := Lib.hid (HNEXT.out (by rw [hw, hd1]; simp [begins]))
            clear hw
            go_wp2
            go_roundg (gk - 1)
            case measure => have := HK.out; omega
            case rel => exact ⟨k + 1, by have := HK.out; omega, by go_num, rfl, HB.out⟩
        · by_cases hb : begins x = true
          · by_cases hmn : m = (n : Int)
            · have hd1 : (m == (n : Int)) = true := by simpa using hmn
              have HB := Lib.hid (HBAD.out (by rw [hw, hd1, hb]; simp))
              clear hw
              have h3 : x = 20 ∨ x = 21 ∨ x = 22 := by simp only [begins, Bool.or_eq_true, beq_iff_eq] at hb; omega
              clear hb h11 h23
              rcases h3 with rfl | rfl | rfl
              all_goals
                go_wp2
                go_ret
                exact ⟨by rw [HB.out]; rfl, Q2.out⟩
            · have hd1 : (m == (n : Int)) = false := by simpa using hmn
              have HB := Lib.hid (HNEXT.out (by rw [hw, hd1]; simp [h11, h23]))
              clear hw
              have h3 : x = 20 ∨ x = 21 ∨ x = 22 := by simp only [begins, Bool.or_eq_true, beq_iff_eq] at hb; omega
              clear hb h11 h23
              rcases h3 with rfl | rfl | rfl
              all_goals
                go_wp2
                go_roundg (gk - 1)
                case measure => have := HK.out; omega
                case rel => exact ⟨k + 1, by have := HK.out; omega, by go_num, rfl, HB.out⟩
          · have HB := Lib.hid (HNEXT.out (by rw [hw]; simp [h11, h23, hb]))
            have h3 : x ≠ 20 ∧ x ≠ 21 ∧ x ≠ 22 := by simp only [begins, Bool.or_eq_true, beq_iff_eq] at hb; omega
            have e1 : ((x : Int) == 11) = false := by simp; omega
            have e2 : ((x : Int) == 20) = false := by simp; omega
            have e3 : ((x : Int) == 21) = false := by simp; omega
            have e4 : ((x : Int) == 22) = false := by simp; omega
            have e5 : ((x : Int) == 23) = false := by simp; omega
            clear hw h3 hb h11 h23
            go_wp2
            go_roundg (gk - 1)
            case measure => have := HK.out; omega
            case rel => exact ⟨k + 1, by have := HK.out; omega, by go_num, rfl, HB.out⟩
    · obtain rfl : n = k := by omega
      have HT : Hid (wholeB l = true) := Lib.hid (by
        rw [wholeB_iff, ← HN.out]
        exact HALL.out)
      clear hk hlt
      go_wp2
      go_ret
      exact ⟨by rw [HT.out]; rfl, Q2.out⟩

end Go.Proofs.YtjnidopbdjbbgaaGreat
end
/-
  The engine's Classes: walked.
-/
section
namespace Go.Proofs.YtjnidopbdjbbgaaGreat
open Go.RowKit
set_option linter.unusedVariables false

def zeroR : Value := .agg #[.int .i8 0, .slice none 0 0, .slice none 0 0]
theorem res6 {B : Nat} (x y z : Value) (e : Int) : ∀ (tmps : Array Value) (W' : World), W'.heap[B]? = some (.cells #[x, y, z] 29) → tmps.getD 4 undef = .pointer (some ⟨B, 0, none⟩) → tmps.getD 5 undef = .int .i64 e → (results Tryz.f6 tmps).run Tryz.prog W' = .ok (.tuple #[.agg #[x, y, z], .int .i64 e]) W' := by
  intro tmps W' h1 h2 h3
  rw [results_cell_tmp rfl]
  have hlv := run_loadVar_row (P := Tryz.prog) _ B 29 29 _ _ _ h1 Tryz.underlying29 rfl (by kernel_rfl)
  rw [h2, h3]
  simp [asAddr, hlv]

set_option maxRecDepth 20000 in
set_option maxHeartbeats 4000000 in
theorem classes_may (w : World) (a : Option Addr) (n c : Nat) (b : Int) (hb : mayB b = false) :
    Calls Tryz.prog 6 #[.slice a n c, .int .i8 b] w fun e w' => e = .returned (.tuple #[zeroR, .int .i64 2]) ∧ Below w.heap.size w w' := by
  have HM := Lib.hid (fun w => may_any w b)
  rw [hb] at HM
  have hh := heap_alloc_new w (.cells #[.int .i8 0, .slice none 0 0, .slice none 0 0] 29)
  have HH := Lib.hid hh
  clear hb hh
  go_enter Tryz.func6, Tryz.ntmps6
  go_wp2_with (go_at_call 20; refine (HM.out _).mono ?_; rintro e w2 ⟨rfl, rfl⟩)
  exact bodyPost_ret (res6 _ _ _ _ _ _ HH.out rfl rfl) rfl ⟨rfl, (Below.refl _ _).alloc (Nat.le_refl _) _⟩
set_option maxRecDepth 20000 in
set_option maxHeartbeats 4000000 in
theorem classes_long (w : World) (a : Option Addr) (n c : Nat) (b : Int) (hb : mayB b = true) (hn : 1048576 < n) (hm : n ≤ 140737488355328) :
    Calls Tryz.prog 6 #[.slice a n c, .int .i8 b] w fun e w' => e = .returned (.tuple #[zeroR, .int .i64 4]) ∧ Below w.heap.size w w' := by
  have HM := Lib.hid (fun w => may_any w b)
  rw [hb] at HM
  have hh := heap_alloc_new w (.cells #[.int .i8 0, .slice none 0 0, .slice none 0 0] 29)
  have HH := Lib.hid hh
  have hn2 : (n : Int) > 1048576 := by omega
  clear hb hh
  go_enter Tryz.func6, Tryz.ntmps6
  go_wp2_with (go_at_call 20; refine (HM.out _).mono ?_; rintro e w2 ⟨rfl, rfl⟩)
  exact bodyPost_ret (res6 _ _ _ _ _ _ HH.out rfl rfl) rfl ⟨rfl, (Below.refl _ _).alloc (Nat.le_refl _) _⟩

set_option maxRecDepth 20000 in
set_option maxHeartbeats 4000000 in
theorem classes_walk (w : World) (a : Option Addr) (c : Nat) (l : List Nat) (b : Int) (hb : mayB b = true) (hn : l.length ≤ 1048576) (hc : Cells w a (l.map u8V)) :
    Calls Tryz.prog 6 #[.slice a l.length c, .int .i8 b] w fun e w' => ((lastB (l.map knownOf) = false ∧ e = .returned (.tuple #[zeroR, .int .i64 210])) ∨
      (lastB (l.map knownOf) = true ∧ ∃ ka kc la lc, e = .returned (.tuple #[.agg #[.int .i8 (baseOf b (l.map knownOf)), .slice ka l.length kc, .slice la l.length lc], .int .i64 0]) ∧ Own w' w.heap.size 1 ka l.length kc ((l.map knownOf).map u8V) ∧
        Own w' w.heap.size 1 la l.length lc ((engineOf b (l.map knownOf)).map i8V))) ∧ Below w.heap.size w w' := by
  have HM := Lib.hid (fun w => may_any w b)
  rw [hb] at HM
  have HMB := Lib.hid ((mayB_iff b).1 hb)
  have hh := heap_alloc_new w (.cells #[.int .i8 0, .slice none 0 0, .slice none 0 0] 29)
  have HH := Lib.hid hh
  have HC := Lib.hid hc
  have HKN : Hid (∀ (x : Nat), x ∈ l.map knownOf → 1 ≤ x ∧ x ≤ 23) := Lib.hid fun x hx => by
    obtain ⟨y, _, rfl⟩ := List.mem_map.1 hx
    unfold knownOf
    split <;> omega
  obtain ⟨L, hL⟩ : ∃ L, L = l.map knownOf := ⟨_, rfl⟩
  rw [← hL] at HKN ⊢
  obtain ⟨n, hnn⟩ : ∃ n, n = l.length := ⟨_, rfl⟩
  rw [← hnn] at hn ⊢
  have HN := Lib.hid hnn
  have HL := Lib.hid hL
  have hn2 : ¬ (n : Int) > 1048576 := by omega
  have hn3 : ¬ (1048576 : Int) < (n : Int) := by omega
  have HB0 := Lib.hid (show Below w.heap.size w (w.alloc (.cells #[.int .i8 0, .slice none 0 0, .slice none 0 0] 29)) from (Below.refl _ _).alloc (Nat.le_refl _) _)
  obtain ⟨i0, hi, hz0, hz1, hz2⟩ := info_parts info35
  obtain ⟨W0, hW0⟩ : ∃ W0, W0 = w.alloc (.cells #[.int .i8 0, .slice none 0 0, .slice none 0 0] 29) := ⟨_, rfl⟩
  rw [← hW0] at HH HB0
  have HW0 := Lib.hid hW0
  have HS0 := Lib.hid (show w.heap.size < W0.heap.size from (Array.getElem?_eq_some_iff.1 HH.out).1)
  clear hb hh hc hnn hL hW0
  go_enter Tryz.func6, Tryz.ntmps6
  go_wp2_with (go_at_call 20; refine (HM.out _).mono ?_; rintro e w2 ⟨rfl, rfl⟩)
  rw [← HW0.out]
  go_loopg [6, 19] n (fun r s6 i wr => ∃ (k : Nat) (oa : Option Addr) (oc : Nat), k + r = n ∧ i = .int .i64 k ∧ s6 = .slice oa k oc ∧ Own wr W0.heap.size 1 oa k oc ((L.take k).map u8V) ∧ Below W0.heap.size W0 wr)
  case atStart => exact ⟨0, none, 0, by omega, rfl, rfl, Own.nil _ _ _, Below.refl _ _⟩
  case round =>
    obtain ⟨k, oa, oc, hk, rfl, rfl, hown, hbq⟩ := hrel
    obtain ⟨wa, rfl⟩ : ∃ wa : World, wa = wr := ⟨_, rfl⟩
    by_cases hlt : k < n
    · obtain ⟨x, hx⟩ : ∃ x, l[k]? = some x := ⟨_, List.getElem?_eq_getElem (by rw [← HN.out]; exact hlt)⟩
      have hLx : L[k]? = some (knownOf x) := by rw [HL.out, List.getElem?_map, hx]; rfl
      obtain ⟨ab, ao, rfl, hcx⟩ := (HC.out.below (HB0.out.trans (hbq.mono HB0.out.size))).getm hx
      unfold u8V at hcx
      have HOW := Lib.hid hown
      have HBQ := Lib.hid hbq
      have HK := Lib.hid hk
      have HLX := Lib.hid hLx
      have hk0 : (0 : Int) ≤ (k : Int) := by omega
      have hk1 : (k : Int) < (n : Int) := by omega
      clear hown hbq hk hLx hx
      go_wp2_with (first | (go_at_call 21; refine (knownE_any _ x).mono ?_; rintro e w2 ⟨rfl, rfl⟩) | (at_builtin; refine wpList_push rfl _ _ 22 rfl 35 i0 _ 1 Tryz.underlying22 hi hz0 hz1 hz2 rfl rfl W0.heap.size oa k oc ((L.take k).map u8V) rfl wa (.int .u8 (knownOf x)) rfl HOW.out _ rfl rfl rfl (by omega) (by decide) HBQ.out.size ?_; intro oa2 oc2 w4 hown4 hap4 hbe4; have HO4 := Lib.hid hown4; have HB4 := Lib.hid hbe4; clear hown4 hap4 hbe4))
      go_roundg (gk - 1)
      case measure => have := HK.out; omega
      case rel => exact ⟨k + 1, oa2, oc2, by have := HK.out; omega, by go_num, rfl, HO4.out.eqL (by rw [List.take_add_one, HLX.out, List.map_append]; rfl), HBQ.out.trans HB4.out⟩
    · obtain rfl : n = k := by omega
      have hLn : L.length = n := by rw [HL.out, List.length_map, HN.out]
      have hown2 : Own wa W0.heap.size 1 oa n oc (L.map u8V) := hown.eqL (by rw [List.take_of_length_le (by rw [hLn]; exact Nat.le_refl _)])
      have HBQ := Lib.hid hbq
      have HOW := Lib.hid hown2
      have HRW := Lib.hid ((hbq.block w.heap.size HS0.out).trans HH.out)
      have HWH := Lib.hid (fun w hc => whole_any w oa oc L none 0 0 (.inl rfl) (by rw [hLn]; exact hn) hc)
      rw [hLn] at HWH
      have HLE := Lib.hid hLn
      have HBA := Lib.hid (HB0.out.trans (hbq.mono HB0.out.size))
      clear hown hbq hk hlt hown2 hLn
      cases hlast : lastB L with
      | false =>
        rw [hlast] at HWH
        have e0 := cells_at HRW.out 0
        have e1 := cells_at HRW.out 1
        have e2 := cells_at HRW.out 2
        have f0 := frozen_at HRW.out 0
        have f1 := frozen_at HRW.out 1
        have f2 := frozen_at HRW.out 2
        have HLAST := Lib.hid hlast
        clear hlast
        go_wp2_with (go_at_call 22; refine (HWH.out _ HOW.out.toCells).mono ?_; rintro e w5 ⟨rfl, rfl⟩)
        have hfin := heap_set3 HRW.out (.int .i8 0) (.slice none 0 0) (.slice none 0 0)
        exact bodyPost_ret (res6 _ _ _ _ _ _ hfin rfl rfl) rfl ⟨.inl ⟨HLAST.out, rfl⟩, ((HBA.out.setCell (p := ⟨w.heap.size, 0, none⟩) (Nat.le_refl _) _).setCell (p := ⟨w.heap.size, 1, none⟩) (Nat.le_refl _) _).setCell (p := ⟨w.heap.size, 2, none⟩) (Nat.le_refl _) _⟩
      | true =>
        have HLV := Lib.hid (fun w hc => levels_classes w oa oc L b HMB.out (by rw [HLE.out]; exact hn) hc HKN.out ((lastB_iff L).1 hlast))
        rw [HLE.out] at HLV
        rw [hlast] at HWH
        have HLAST := Lib.hid hlast
        clear hlast
        go_wp2_with (first | (go_at_call 22; refine (HWH.out _ HOW.out.toCells).mono ?_; rintro e w5 ⟨rfl, rfl⟩) | (go_at_call 23; refine (HLV.out _ HOW.out.toCells).mono ?_; rintro e w6 ⟨ka, kc, la, lc, rfl, q1, q2, q3⟩; have Q1 := Lib.hid q1; have Q2 := Lib.hid q2; have Q3 := Lib.hid q3; have HR6 := Lib.hid ((q3.block w.heap.size (Nat.lt_of_lt_of_le HS0.out HBQ.out.size)).trans HRW.out); have e0 := cells_at HR6.out 0; have e1 := cells_at HR6.out 1; have e2 := cells_at HR6.out 2; have f0 := frozen_at HR6.out 0; have f1 := frozen_at HR6.out 1; have f2 := frozen_at HR6.out 2; clear q1 q2 q3))
        have hfin := heap_set3 HR6.out (.int .i8 (baseOf b L)) (.slice ka n kc) (.slice la n lc)
        have hge : w.heap.size < wa.heap.size := Nat.lt_of_lt_of_le HS0.out HBQ.out.size
        have nk : ∀ g, ka = some ⟨g, 0, none⟩ → g ≠ w.heap.size := fun g hg e => by have h1 := (Q1.out.blk_lt g (blk_mem.2 (blockOf_some hg))).1; omega
        have nl : ∀ g, la = some ⟨g, 0, none⟩ → g ≠ w.heap.size := fun g hg e => by have h1 := (Q2.out.blk_lt g (blk_mem.2 (blockOf_some hg))).1; omega
        have hbb := HBA.out.trans (Q3.out.mono HBA.out.size)
        exact bodyPost_ret (res6 _ _ _ _ _ _ hfin rfl rfl) rfl ⟨.inr ⟨HLAST.out, ka, kc, la, lc, rfl, (((Q1.out.stored_other _ _ nk).stored_other _ _ nk).stored_other _ _ nk).mono (by omega), (((Q2.out.stored_other _ _ nl).stored_other _ _ nl).stored_other _ _ nl).mono (by omega)⟩, ((hbb.setCell (p := ⟨w.heap.size, 0, none⟩) (Nat.le_refl _) _).setCell (p := ⟨w.heap.size, 1, none⟩) (Nat.le_refl _) _).setCell (p := ⟨w.heap.size, 2, none⟩) (Nat.le_refl _) _⟩

end Go.Proofs.YtjnidopbdjbbgaaGreat
end
/-
  Two texts that are alike outside one isolate: the sequences outside are the same, moved. Plain laws: no walk.
-/
section
namespace Go.Proofs.YtjnidopbdjbbgaaGreat
open Go.RowKit
set_option linter.unusedVariables false

/-- Place p of the one text is place q of the other. -/
def Tr (a i j p q : Nat) : Prop := (p = q ∧ p ≤ a) ∨ (a + 1 + i ≤ p ∧ p + j = q + i)
theorem Tr.symm {a i j p q : Nat} (h : Tr a i j p q) : Tr a j i q p := by unfold Tr at *; omega
theorem Tr.out {a i j p q : Nat} (h : Tr a i j p q) : p ≤ a ∨ a + 1 + i ≤ p := by unfold Tr at *; omega
theorem Tr.right {a i j p q r : Nat} (h : Tr a i j p q) (k : Tr a i j p r) : q = r := by unfold Tr at *; omega
def moved (a i j p : Nat) : Nat := if p ≤ a then p else p - i + j
theorem tr_moved {a i j p : Nat} (h : p ≤ a ∨ a + 1 + i ≤ p) : Tr a i j p (moved a i j p) := by unfold Tr moved; split <;> omega

/-- What is asked of one of the texts: the isolate lies at a; i places stand within. -/
structure Half (a i : Nat) (l : List Nat) (lv : List Int) : Prop where
  ka : a ∈ keptOf l
  km : a + 1 + i ∈ keptOf l
  bg : begins (l.getD a 0) = true
  mt : (matchOf l).getD a 0 = ((a + 1 + i : Nat) : Int)
  same : lv.getD (a + 1 + i) 0 = lv.getD a 0
  above : ∀ q ∈ keptOf l, a < q → q < a + 1 + i → lv.getD a 0 < lv.getD q 0
  inn : ∀ p q : Nat, begins (l.getD p 0) = true → (matchOf l).getD p 0 = (q : Int) → q < l.length → ((a < p ∧ p < a + 1 + i) ↔ (a < q ∧ q < a + 1 + i))
theorem Half.link {a i : Nat} {l : List Nat} {lv : List Int} (h : Half a i l lv) : Link l lv a (a + 1 + i) := by
  refine ⟨h.ka, h.km, ?_⟩
  rcases Classical.em (∃ x ∈ keptOf l, a < x ∧ x < a + 1 + i) with ⟨x, hx, h1, h2⟩ | hn
  · right
    refine ⟨h.bg, h.mt, fun r hr e => ?_, fun r hr e => ?_⟩
    · have hlt : r < a + 1 + i := by
        rcases Nat.lt_or_ge x r with h3 | h3
        · exact (hr.2.2.2 x hx h1 h3).elim
        · omega
      have := h.above r hr.2.1 hr.2.2.1 hlt
      omega
    · have hlt : a < r := by
        rcases Nat.lt_or_ge r x with h3 | h3
        · exact (hr.2.2.2 x hx h3 h2).elim
        · omega
      have := h.above r hr.1 hlt hr.2.2.1
      rw [h.same] at e
      omega
  · left
    refine ⟨⟨h.ka, h.km, by omega, fun r hr h1 h2 => hn ⟨r, hr, h1, h2⟩⟩, h.same⟩
theorem Half.closed {a i : Nat} {l : List Nat} {lv : List Int} (h : Half a i l lv) {p q : Nat} (hl : Link l lv p q) : (a < p ∧ p < a + 1 + i) ↔ (a < q ∧ q < a + 1 + i) := by
  rcases hl.2.2 with ⟨h1, h2⟩ | ⟨h1, h2, h3, h4⟩
  · have hpq := h1.2.2.1
    constructor
    · rintro ⟨a1, a2⟩
      rcases Nat.lt_trichotomy q (a + 1 + i) with h5 | h5 | h5
      · omega
      · have := h.above p h1.1 a1 a2
        rw [h5, h.same] at h2
        omega
      · exact (h1.2.2.2 _ h.km a2 h5).elim
    · rintro ⟨a1, a2⟩
      rcases Nat.lt_trichotomy p a with h5 | h5 | h5
      · exact (h1.2.2.2 _ h.ka h5 a1).elim
      · have := h.above q h1.2.1 a1 a2
        rw [h5] at h2
        omega
      · omega
  · exact h.inn p q h1 h2 (kept_lt hl.2.1)

/-- Two texts, alike outside the isolate. -/
structure Pair (a i j : Nat) (l l' nw nw' : List Nat) (lv lv' : List Int) : Prop where
  one : Half a i l lv
  two : Half a j l' lv'
  len : Tr a i j l.length l'.length
  cl : ∀ p q, Tr a i j p q → l.getD p 0 = l'.getD q 0
  nw : ∀ p q, Tr a i j p q → nw.getD p 0 = nw'.getD q 0
  lv : ∀ p q, Tr a i j p q → lv.getD p 0 = lv'.getD q 0
  mt : ∀ p p', Tr a i j p p' → begins (l.getD p 0) = true → ∃ q q' : Nat, (matchOf l).getD p 0 = (q : Int) ∧ (matchOf l').getD p' 0 = (q' : Int) ∧ Tr a i j q q'
theorem Pair.symm {a i j : Nat} {l l' nw nw' : List Nat} {lv lv' : List Int} (h : Pair a i j l l' nw nw' lv lv') : Pair a j i l' l nw' nw lv' lv := by
  refine ⟨h.two, h.one, h.len.symm, fun p q t => (h.cl q p t.symm).symm, fun p q t => (h.nw q p t.symm).symm, fun p q t => (h.lv q p t.symm).symm, fun p p' t hb => ?_⟩
  obtain ⟨q, q', h1, h2, h3⟩ := h.mt p' p t.symm (by rw [h.cl p' p t.symm]; exact hb)
  exact ⟨q', q, h2, h1, h3.symm⟩
theorem Pair.kept {a i j : Nat} {l l' nw nw' : List Nat} {lv lv' : List Int} (h : Pair a i j l l' nw nw' lv lv') {p q : Nat} (t : Tr a i j p q) (hp : p ∈ keptOf l) : q ∈ keptOf l' := by
  obtain ⟨h1, h2⟩ := mem_keptOf.1 hp
  refine mem_keptOf.2 ⟨?_, by rw [← h.cl p q t]; exact h2⟩
  have := h.len
  have := kept_lt h.one.km
  unfold Tr at *
  omega
theorem Pair.nk {a i j : Nat} {l l' nw nw' : List Nat} {lv lv' : List Int} (h : Pair a i j l l' nw nw' lv lv') {p p' q : Nat} (t : Tr a i j p p') (hn : Nk l p q) (hne : p ≠ a) : ∃ q', Tr a i j q q' ∧ Nk l' p' q' := by
  have hk := hn.2.2.1
  have ho : q ≤ a ∨ a + 1 + i ≤ q := by
    rcases Nat.lt_or_ge a q with h1 | h1
    · rcases Nat.lt_or_ge p a with h2 | h2
      · exact (hn.2.2.2 a h.one.ka h2 h1).elim
      · have := t.out; omega
    · exact .inl h1
  have tq := tr_moved (a := a) (i := i) (j := j) ho
  refine ⟨_, tq, h.kept t hn.1, h.kept tq hn.2.1, ?_, fun r hr h1 h2 => ?_⟩
  · unfold Tr at t tq; omega
  · have hro : r ≤ a ∨ a + 1 + j ≤ r := by
      rcases Nat.lt_or_ge p a with h3 | h3
      · left
        have : q ≤ a := by
          rcases Nat.lt_or_ge a q with h4 | h4
          · exact (hn.2.2.2 a h.one.ka h3 h4).elim
          · exact h4
        unfold Tr at tq t
        omega
      · right
        unfold Tr at t
        omega
    have tr := tr_moved (a := a) (i := j) (j := i) hro
    refine hn.2.2.2 _ (h.symm.kept tr hr) ?_ ?_
    · have := tr.symm; unfold Tr at *; omega
    · have := tr.symm; unfold Tr at *; omega
theorem Pair.nkl {a i j : Nat} {l l' nw nw' : List Nat} {lv lv' : List Int} (h : Pair a i j l l' nw nw' lv lv') {p q q' : Nat} (t : Tr a i j q q') (hn : Nk l p q) (hne : q ≠ a + 1 + i) : ∃ p', Tr a i j p p' ∧ Nk l' p' q' := by
  have hk := hn.2.2.1
  have hpa : p ≠ a := by
    rintro rfl
    have := t.out
    exact hn.2.2.2 _ h.one.km (by omega) (by omega)
  have ho : p ≤ a ∨ a + 1 + i ≤ p := by
    rcases t.out with h1 | h1
    · left; omega
    · right
      rcases Nat.lt_or_ge p (a + 1 + i) with h2 | h2
      · exact (hn.2.2.2 _ h.one.km h2 (by omega)).elim
      · exact h2
  have tp := tr_moved (a := a) (i := i) (j := j) ho
  obtain ⟨q2, t2, h2⟩ := h.nk tp hn hpa
  rw [t.right t2]
  exact ⟨_, tp, h2⟩
theorem Pair.ends {a i j : Nat} {l l' nw nw' : List Nat} {lv lv' : List Int} (h : Pair a i j l l' nw nw' lv lv') {p p' : Nat} (t : Tr a i j p p') (hne : p ≠ a) (he : Ends l lv p) : Ends l' lv' p' := by
  intro r hr
  obtain ⟨q, tq, hq⟩ := h.symm.nk t.symm hr (by unfold Tr at t; omega)
  have := he q hq
  rw [h.lv q r tq.symm, h.lv p p' t] at this
  exact this
theorem Pair.starts {a i j : Nat} {l l' nw nw' : List Nat} {lv lv' : List Int} (h : Pair a i j l l' nw nw' lv lv') {p p' : Nat} (t : Tr a i j p p') (hne : p ≠ a + 1 + i) (he : Starts l lv p) : Starts l' lv' p' := by
  intro r hr
  obtain ⟨q, tq, hq⟩ := h.symm.nkl t.symm hr (by unfold Tr at t; omega)
  have := he q hq
  rw [h.lv q r tq.symm, h.lv p p' t] at this
  exact this
theorem Pair.link {a i j : Nat} {l l' nw nw' : List Nat} {lv lv' : List Int} (h : Pair a i j l l' nw nw' lv lv') {p p' q q' : Nat} (t : Tr a i j p p') (u : Tr a i j q q') (hl : Link l lv p q) : Link l' lv' p' q' := by
  by_cases hp : p = a
  · subst hp
    have := link_right hl h.one.link
    subst this
    have e1 : p' = p := by unfold Tr at t; omega
    have e2 : q' = p + 1 + j := by unfold Tr at u; omega
    rw [e1, e2]
    exact h.two.link
  · have hq : q ≠ a + 1 + i := fun e => hp (link_left hl (by rw [e]; exact h.one.link))
    refine ⟨h.kept t hl.1, h.kept u hl.2.1, ?_⟩
    rcases hl.2.2 with ⟨h1, h2⟩ | ⟨h1, h2, h3, h4⟩
    · left
      obtain ⟨q2, t2, h5⟩ := h.nk t h1 hp
      rw [u.right t2]
      refine ⟨h5, ?_⟩
      rw [← h.lv q q2 t2, ← h.lv p p' t]
      exact h2
    · right
      obtain ⟨q0, q0', m1, m2, m3⟩ := h.mt p p' t h1
      have : q0 = q := by rw [h2] at m1; omega
      subst this
      refine ⟨by rw [← h.cl p p' t]; exact h1, by rw [m2, m3.right u], h.ends t hp h3, h.starts u hq h4⟩

theorem fwd_all {L : Nat → Nat → Prop} {P : Nat → Prop} (hP : ∀ x y, L x y → (P x ↔ P y)) : ∀ A : List Nat, Fwd L A → ∀ x ∈ A, P x → ∀ y ∈ A, P y
  | [], _, x, hx, _, _, _ => by cases hx
  | [b], _, x, hx, h, y, hy => by
    simp at hx hy
    subst hx hy
    exact h
  | b :: c :: t, hf, x, hx, h, y, hy => by
    have ih := fwd_all hP (c :: t) hf.2
    have hc : P c := by
      rcases List.mem_cons.1 hx with rfl | hx
      · exact (hP _ _ hf.1).1 h
      · exact ih x hx h c (by simp)
    rcases List.mem_cons.1 hy with rfl | hy
    · exact (hP _ _ hf.1).2 hc
    · exact ih c (by simp) hc y hy
theorem fwd_map {L L' : Nat → Nat → Prop} {f : Nat → Nat} {P : Nat → Prop} (h1 : ∀ x y, P x → P y → L x y → L' (f x) (f y)) (h2 : ∀ x, P x → (∀ r, ¬ L x r) → ∀ r, ¬ L' (f x) r) : ∀ A : List Nat, (∀ x ∈ A, P x) → Fwd L A → Fwd L' (A.map f)
  | [], _, _ => trivial
  | [b], hA, hf => h2 b (hA b (by simp)) hf
  | b :: c :: t, hA, hf => ⟨h1 b c (hA b (by simp)) (hA c (by simp)) hf.1, fwd_map h1 h2 (c :: t) (fun x hx => hA x (List.mem_cons_of_mem _ hx)) hf.2⟩
/-- **A whole sequence outside the isolate is one of the other text's, moved.** -/
theorem Pair.whole {a i j : Nat} {l l' nw nw' : List Nat} {lv lv' : List Int} (h : Pair a i j l l' nw nw' lv lv') {A : List Nat} (hA : Whole (Link l lv) A) {p : Nat} (hp : p ∈ A) (ho : p ≤ a ∨ a + 1 + i ≤ p) :
    (∀ x ∈ A, x ≤ a ∨ a + 1 + i ≤ x) ∧ Whole (Link l' lv') (A.map (moved a i j)) := by
  have hout : ∀ x ∈ A, x ≤ a ∨ a + 1 + i ≤ x := by
    have := fwd_all (P := fun x => ¬ (a < x ∧ x < a + 1 + i)) (fun x y hl => not_congr (h.one.closed hl)) A hA.fwd p hp (by omega)
    intro x hx
    have := this x hx
    omega
  refine ⟨hout, ⟨fwd_map (P := fun x => x ≤ a ∨ a + 1 + i ≤ x) (fun x y hx hy hl => h.link (tr_moved hx) (tr_moved hy) hl) (fun x hx hn r hr => ?_) A hout hA.fwd, fun x hx r hr => ?_⟩⟩
  · have hc := (h.two.closed hr)
    have t := tr_moved (a := a) (i := i) (j := j) hx
    have hro : r ≤ a ∨ a + 1 + j ≤ r := by have := t.symm.out; omega
    exact hn _ (h.symm.link t.symm (tr_moved hro) hr)
  · rw [List.head?_map] at hx
    cases hz : A.head? with
    | none => rw [hz] at hx; cases hx
    | some z =>
      rw [hz] at hx
      simp at hx
      subst hx
      have hzA : z ∈ A := by
        cases A with
        | nil => cases hz
        | cons b t => simp at hz; subst hz; simp
      have t := tr_moved (a := a) (i := i) (j := j) (hout z hzA)
      have hc := h.two.closed hr
      have hro : r ≤ a ∨ a + 1 + j ≤ r := by have := t.symm.out; omega
      exact hA.first z hz _ (h.symm.link (tr_moved hro) t.symm hr)

/-- Where a kept place stands among the kept ones. -/
theorem ix_get {K : List Nat} (hK : K.Pairwise (· < ·)) {n : Nat} : ∀ (k j p : Nat), j < k → k ≤ K.length → K[j]? = some p → p < n → (ixTo K n k).getD p 0 = j := by
  intro k
  induction k with
  | zero => intro j p h; omega
  | succ k ih =>
    intro j p h hk hj hp
    obtain ⟨x, hx⟩ : ∃ x, K[k]? = some x := ⟨_, List.getElem?_eq_getElem (by omega)⟩
    have hxd : K.getD k 0 = x := by rw [List.getD_eq_getElem?_getD, hx]; rfl
    rw [ixTo_succ, hxd, List.getD_eq_getElem?_getD, List.getElem?_set]
    by_cases e : k = j
    · subst e
      rw [hx] at hj
      cases hj
      rw [if_pos rfl, if_pos (by rw [ixTo_len]; exact hp)]
      rfl
    · have := up_get hK hj hx (by omega)
      rw [if_neg (by omega), ← List.getD_eq_getElem?_getD]
      exact ih j p (by omega) (by omega) hj hp
theorem at_prev {l nw : List Nat} {lv : List Int} {base p : Nat} (hp : p ∈ keptOf l) :
    (∀ r, Nk l r p → (seqT l nw lv base).at (((seqT l nw lv base).ix.getD p 0 : Int) - 1) = lv.getD r 0) ∧ ((∀ r, ¬ Nk l r p) → (seqT l nw lv base).at (((seqT l nw lv base).ix.getD p 0 : Int) - 1) = base) := by
  obtain ⟨j, hj⟩ := List.mem_iff_getElem?.1 hp
  have hjl := (List.getElem?_eq_some_iff.1 hj).1
  have e : (seqT l nw lv base).ix.getD p 0 = j := ix_get (keptOf_up l) _ j p hjl (Nat.le_refl _) hj (kept_lt hp)
  rw [e]
  unfold Tx.at
  show (∀ r, Nk l r p → (if ((j : Int) - 1 < 0 ∨ ((keptOf l).length : Int) ≤ (j : Int) - 1) then (base : Int) else lv.getD ((keptOf l).getD ((j : Int) - 1).toNat 0) 0) = _) ∧ (_ → (if ((j : Int) - 1 < 0 ∨ ((keptOf l).length : Int) ≤ (j : Int) - 1) then (base : Int) else lv.getD ((keptOf l).getD ((j : Int) - 1).toNat 0) 0) = _)
  cases j with
  | zero =>
    refine ⟨fun r hr => ?_, fun _ => if_pos (by omega)⟩
    obtain ⟨i, hi⟩ := List.mem_iff_getElem?.1 hr.1
    have := nk_of_ix hr hi
    obtain ⟨h1, h2⟩ := List.getElem?_eq_some_iff.1 this
    obtain ⟨h3, h4⟩ := List.getElem?_eq_some_iff.1 hj
    have := List.pairwise_iff_getElem.1 (keptOf_up l) 0 (i + 1) (by omega) h1 (by omega)
    omega
  | succ j =>
    obtain ⟨x, hx⟩ : ∃ x, (keptOf l)[j]? = some x := ⟨_, List.getElem?_eq_getElem (by omega)⟩
    have hn := nk_ix hx hj
    have ed : (keptOf l).getD (((j + 1 : Nat) : Int) - 1).toNat 0 = x := by
      rw [show (((j + 1 : Nat) : Int) - 1).toNat = j from by omega, List.getD_eq_getElem?_getD, hx]
      rfl
    rw [if_neg (by omega), ed]
    exact ⟨fun r hr => by rw [hr.left hn], fun h => (h x hn).elim⟩
theorem at_next {l nw : List Nat} {lv : List Int} {base p : Nat} (hp : p ∈ keptOf l) :
    (∀ r, Nk l p r → (seqT l nw lv base).at (((seqT l nw lv base).ix.getD p 0 : Int) + 1) = lv.getD r 0) ∧ ((∀ r, ¬ Nk l p r) → (seqT l nw lv base).at (((seqT l nw lv base).ix.getD p 0 : Int) + 1) = base) := by
  obtain ⟨j, hj⟩ := List.mem_iff_getElem?.1 hp
  have hjl := (List.getElem?_eq_some_iff.1 hj).1
  have e : (seqT l nw lv base).ix.getD p 0 = j := ix_get (keptOf_up l) _ j p hjl (Nat.le_refl _) hj (kept_lt hp)
  rw [e]
  unfold Tx.at
  show (∀ r, Nk l p r → (if ((j : Int) + 1 < 0 ∨ ((keptOf l).length : Int) ≤ (j : Int) + 1) then (base : Int) else lv.getD ((keptOf l).getD ((j : Int) + 1).toNat 0) 0) = _) ∧ (_ → (if ((j : Int) + 1 < 0 ∨ ((keptOf l).length : Int) ≤ (j : Int) + 1) then (base : Int) else lv.getD ((keptOf l).getD ((j : Int) + 1).toNat 0) 0) = _)
  rcases Nat.lt_or_ge (j + 1) (keptOf l).length with h1 | h1
  · obtain ⟨x, hx⟩ : ∃ x, (keptOf l)[j + 1]? = some x := ⟨_, List.getElem?_eq_getElem h1⟩
    have hn := nk_ix hj hx
    have ed : (keptOf l).getD ((j : Int) + 1).toNat 0 = x := by
      rw [show ((j : Int) + 1).toNat = j + 1 from by omega, List.getD_eq_getElem?_getD, hx]
      rfl
    rw [if_neg (by omega), ed]
    exact ⟨fun r hr => by rw [hr.right hn], fun h => (h x hn).elim⟩
  · refine ⟨fun r hr => ?_, fun _ => if_pos (by omega)⟩
    have := (List.getElem?_eq_some_iff.1 (nk_of_ix hr hj)).1
    omega

theorem layTo_other {ps cs : List Nat} {p : Nat} (h : p ∉ ps) (L : List Int) (lv j : Nat) : (layTo L lv ps cs j)[p]? = L[p]? := by
  unfold layTo
  have : ∀ z ∈ (ps.zip cs).take j, z.1 ≠ p := fun z hz e => h (by
    have := (List.of_mem_zip (List.mem_of_mem_take hz)).1
    rw [← e]; exact this)
  generalize (ps.zip cs).take j = Z at this
  induction Z generalizing L with
  | nil => rfl
  | cons z Z ih =>
    rw [List.foldl_cons, ih _ (fun y hy => this y (List.mem_cons_of_mem _ hy)), List.getElem?_set_ne (this z (by simp))]
theorem layTo_at {ps cs : List Nat} (hu : ps.Pairwise (· < ·)) (hl : cs.length = ps.length) {i p c : Nat} (hp : ps[i]? = some p) (hc : cs[i]? = some c) (L : List Int) (lv : Nat) (hL : p < L.length) : ∀ k, i < k → k ≤ ps.length → (layTo L lv ps cs k)[p]? = some ((levelOf lv c : Nat) : Int) := by
  intro k
  induction k with
  | zero => intro h; omega
  | succ k ih =>
    intro h hk
    obtain ⟨x, hx⟩ : ∃ x, ps[k]? = some x := ⟨_, List.getElem?_eq_getElem (by omega)⟩
    obtain ⟨d, hd⟩ : ∃ d, cs[k]? = some d := ⟨_, List.getElem?_eq_getElem (by omega)⟩
    rw [layTo_succ L lv ps cs hx hd, List.getElem?_set]
    by_cases e : k = i
    · subst e
      rw [hx] at hp
      cases hp
      rw [hd] at hc
      cases hc
      rw [if_pos rfl, if_pos (by rw [layTo_len]; exact hL)]
    · have := up_get hu hp hx (by omega)
      rw [if_neg (by omega)]
      exact ih (by omega) (by omega)
theorem layAll_other {S : List Sq} {p : Nat} (h : ∀ s ∈ S, p ∉ s.ps) (cf : Sq → Nat → List Nat) (d : Nat) (L : List Int) : (layAll L S cf d)[p]? = L[p]? := by
  unfold layAll
  induction S generalizing L with
  | nil => rfl
  | cons s S ih => rw [List.foldl_cons, ih (fun x hx => h x (List.mem_cons_of_mem _ hx)), layTo_other (h s (by simp))]
theorem layAll_at {S : List Sq} {cf : Sq → Nat → List Nat} {d : Nat} (hS : ∀ s ∈ S, s.ps.Pairwise (· < ·) ∧ (cf s d).length = s.ps.length) {s0 : Sq} {i p c : Nat} (h0 : s0 ∈ S) (h1 : ∀ s ∈ S, p ∈ s.ps → s = s0) (hp : s0.ps[i]? = some p) (hc : (cf s0 d)[i]? = some c) :
    ∀ L : List Int, p < L.length → (layAll L S cf d)[p]? = some ((levelOf s0.lv c : Nat) : Int) := by
  induction S with
  | nil => cases h0
  | cons s S ih =>
    intro L hL
    show (layAll (layTo L s.lv s.ps (cf s d) s.ps.length) S cf d)[p]? = _
    rcases Classical.em (∃ s ∈ S, p ∈ s.ps) with ⟨x, hx, hpx⟩ | hn
    · have := h1 x (List.mem_cons_of_mem _ hx) hpx
      subst this
      exact ih (fun s hs => hS s (List.mem_cons_of_mem _ hs)) hx (fun s hs => h1 s (List.mem_cons_of_mem _ hs)) _ (by rw [layTo_len]; exact hL)
    · have hs0 : s = s0 := by
        rcases List.mem_cons.1 h0 with h | h
        · exact h.symm
        · exact (hn ⟨s0, h, List.mem_of_getElem? hp⟩).elim
      subst hs0
      rw [layAll_other (fun x hx hpx => hn ⟨x, hx, hpx⟩)]
      have hi := (List.getElem?_eq_some_iff.1 hp).1
      exact layTo_at (hS s (by simp)).1 (hS s (by simp)).2 hp hc L s.lv hL _ hi (Nat.le_refl _)

/-- What is reckoned of a sequence's places alone. -/
theorem Pair.seq {a i j base : Nat} {l l' nw nw' : List Nat} {lv lv' : List Int} (h : Pair a i j l l' nw nw' lv lv') {A : List Nat} (hA : Whole (Link l lv) A) (hne : 0 < A.length) (ho : ∀ x ∈ A, x ≤ a ∨ a + 1 + i ≤ x) (hk : ∀ x ∈ A, x ∈ keptOf l) :
    (sqP l nw lv base A).lv = (sqP l' nw' lv' base (A.map (moved a i j))).lv ∧ (sqP l nw lv base A).cs = (sqP l' nw' lv' base (A.map (moved a i j))).cs ∧ (sqP l nw lv base A).sos = (sqP l' nw' lv' base (A.map (moved a i j))).sos ∧ (sqP l nw lv base A).eos = (sqP l' nw' lv' base (A.map (moved a i j))).eos := by
  obtain ⟨x, hx⟩ : ∃ x, A[0]? = some x := ⟨_, List.getElem?_eq_getElem hne⟩
  obtain ⟨z, hz⟩ : ∃ z, A[A.length - 1]? = some z := ⟨_, List.getElem?_eq_getElem (by omega)⟩
  have hxA := List.mem_of_getElem? hx
  have hzA := List.mem_of_getElem? hz
  have tx := tr_moved (a := a) (i := i) (j := j) (ho x hxA)
  have tz := tr_moved (a := a) (i := i) (j := j) (ho z hzA)
  have e0 : A.getD 0 0 = x := by rw [List.getD_eq_getElem?_getD, hx]; rfl
  have ez : A.getD (A.length - 1) 0 = z := by rw [List.getD_eq_getElem?_getD, hz]; rfl
  have e0' : (A.map (moved a i j)).getD 0 0 = moved a i j x := by rw [List.getD_eq_getElem?_getD, List.getElem?_map, hx]; rfl
  have ez' : (A.map (moved a i j)).getD ((A.map (moved a i j)).length - 1) 0 = moved a i j z := by rw [List.length_map, List.getD_eq_getElem?_getD, List.getElem?_map, hz]; rfl
  have hlv : lv.getD x 0 = lv'.getD (moved a i j x) 0 := h.lv _ _ tx
  have hfx : x ≠ a + 1 + i := fun e => hA.first x (by rw [List.head?_eq_getElem?]; exact hx) a (by rw [e]; exact h.one.link)
  have hfz : z ≠ a := fun e => fwd_last A hA.fwd z (by rw [List.getLast?_eq_getElem?]; exact hz) (a + 1 + i) (by rw [e]; exact h.one.link)
  have hatp : (seqT l nw lv base).atN (((seqT l nw lv base).ix.getD x 0 : Int) - 1) = (seqT l' nw' lv' base).atN (((seqT l' nw' lv' base).ix.getD (moved a i j x) 0 : Int) - 1) := by
    unfold Tx.atN
    congr 1
    obtain ⟨a1, a2⟩ := at_prev (nw := nw) (lv := lv) (base := base) (hk x hxA)
    obtain ⟨b1, b2⟩ := at_prev (nw := nw') (lv := lv') (base := base) (h.kept tx (hk x hxA))
    rcases Classical.em (∃ r, Nk l r x) with ⟨r, hr⟩ | hn
    · obtain ⟨r', tr, hr'⟩ := h.nkl tx hr hfx
      rw [a1 r hr, b1 r' hr', h.lv r r' tr]
    · rw [a2 (fun r hr => hn ⟨r, hr⟩), b2 (fun r' hr' => ?_)]
      obtain ⟨r, tr, hr⟩ := h.symm.nkl tx.symm hr' (by unfold Tr at tx; omega)
      exact hn ⟨r, hr⟩
  have hatz : (seqT l nw lv base).atN (((seqT l nw lv base).ix.getD z 0 : Int) + 1) = (seqT l' nw' lv' base).atN (((seqT l' nw' lv' base).ix.getD (moved a i j z) 0 : Int) + 1) := by
    unfold Tx.atN
    congr 1
    obtain ⟨a1, a2⟩ := at_next (nw := nw) (lv := lv) (base := base) (hk z hzA)
    obtain ⟨b1, b2⟩ := at_next (nw := nw') (lv := lv') (base := base) (h.kept tz (hk z hzA))
    rcases Classical.em (∃ r, Nk l z r) with ⟨r, hr⟩ | hn
    · obtain ⟨r', tr, hr'⟩ := h.nk tz hr hfz
      rw [a1 r hr, b1 r' hr', h.lv r r' tr]
    · rw [a2 (fun r hr => hn ⟨r, hr⟩), b2 (fun r' hr' => ?_)]
      obtain ⟨r, tr, hr⟩ := h.symm.nk tz.symm hr' (by unfold Tr at tz; omega)
      exact hn ⟨r, hr⟩
  have hbeh : (seqT l nw lv base).behind z = (seqT l' nw' lv' base).behind (moved a i j z) := by
    unfold Tx.behind
    show (if ([20, 21, 22] : List Nat).contains (l.getD z 0) = true ∧ (matchOf l).getD z 0 = (l.length : Int) then base else _) = (if ([20, 21, 22] : List Nat).contains (l'.getD (moved a i j z) 0) = true ∧ (matchOf l').getD (moved a i j z) 0 = (l'.length : Int) then base else _)
    rw [← h.cl _ _ tz, hatz]
    by_cases hb : begins (l.getD z 0) = true
    · obtain ⟨q, q', m1, m2, m3⟩ := h.mt z _ tz hb
      have hiff : (matchOf l).getD z 0 = (l.length : Int) ↔ (matchOf l').getD (moved a i j z) 0 = (l'.length : Int) := by
        rw [m1, m2]
        have h1 := h.len
        have h2 := kept_lt h.one.km
        unfold Tr at m3 h1
        omega
      by_cases hm : (matchOf l).getD z 0 = (l.length : Int)
      · rw [if_pos ⟨by rw [contains_begins]; exact hb, hm⟩, if_pos ⟨by rw [contains_begins]; exact hb, hiff.1 hm⟩]
      · rw [if_neg (fun e => hm e.2), if_neg (fun e => hm (hiff.2 e.2))]
    · rw [if_neg (fun e => hb (by have := e.1; rw [contains_begins] at this; exact this)), if_neg (fun e => hb (by have := e.1; rw [contains_begins] at this; exact this))]
  unfold sqP sqOf
  simp only
  rw [e0, e0', ez, ez', hlv, hatp, hbeh]
  refine ⟨rfl, ?_, rfl, rfl⟩
  unfold sqCs
  rw [List.map_map]
  refine List.map_congr_left fun p hp => ?_
  show knownOf (nw.getD p 0) = knownOf (nw'.getD (moved a i j p) 0)
  rw [h.nw _ _ (tr_moved (ho p hp))]

/-- The levels that are laid. -/
def laidOf (l nw : List Nat) (lv : List Int) (base : Nat) : List Int := layAll lv (seqsOf l nw lv base) cfC 2
theorem laid_at {l nw : List Nat} {lv : List Int} {base : Nat} (hg : ∀ s ∈ seqsOf l nw lv base, s.Ok) {s : Sq} (hs : s ∈ seqsOf l nw lv base) {i p c : Nat} (hp : s.ps[i]? = some p) (hc : (cfC s 2)[i]? = some c) (hL : p < lv.length) : (laidOf l nw lv base)[p]? = some ((levelOf s.lv c : Nat) : Int) := by
  refine layAll_at (fun s hs => ⟨(hg s hs).up, cfC_len (hg s hs) 2⟩) hs (fun x hx hpx => ?_) hp hc lv hL
  obtain ⟨w1, e1, _⟩ := seqs_whole hs
  obtain ⟨w2, e2, _⟩ := seqs_whole hx
  have := whole_eq w2 w1 hpx (List.mem_of_getElem? hp)
  rw [e2, e1, this]
theorem laid_none {l nw : List Nat} {lv : List Int} {base : Nat} (hg : ∀ s ∈ seqsOf l nw lv base, ∀ p ∈ s.ps, p ∈ keptOf l) {p : Nat} (hp : p ∉ keptOf l) : (laidOf l nw lv base)[p]? = lv[p]? :=
  layAll_other (fun s hs h => hp (hg s hs p h)) _ _ _
/-- **Levels outside the isolate are the same in both texts.** -/
theorem Pair.laid {a i j base : Nat} {l l' nw nw' : List Nat} {lv lv' : List Int} (h : Pair a i j l l' nw nw' lv lv') (hl1 : lv.length = l.length) (hl2 : lv'.length = l'.length)
    (hg : ∀ s ∈ seqsOf l nw lv base, s.Ok ∧ ∀ p ∈ s.ps, p ∈ keptOf l) (hg' : ∀ s ∈ seqsOf l' nw' lv' base, s.Ok ∧ ∀ p ∈ s.ps, p ∈ keptOf l') {p q : Nat} (t : Tr a i j p q) (hp : p < l.length) (hq : q < l'.length) :
    (laidOf l nw lv base)[p]? = (laidOf l' nw' lv' base)[q]? := by
  have hlvpq := h.lv p q t
  by_cases hk : p ∈ keptOf l
  · obtain ⟨s, hs, hps⟩ := seqs_cover (nw := nw) (lv := lv) (base := base) hk
    obtain ⟨s', hs', hps'⟩ := seqs_cover (nw := nw') (lv := lv') (base := base) (h.kept t hk)
    obtain ⟨w1, e1, n1⟩ := seqs_whole hs
    obtain ⟨w2, e2, n2⟩ := seqs_whole hs'
    obtain ⟨ho, w3⟩ := h.whole w1 hps t.out
    have hq2 : q = moved a i j p := t.right (tr_moved t.out)
    have hqm : q ∈ s.ps.map (moved a i j) := by rw [hq2]; exact List.mem_map_of_mem hps
    have e3 := whole_eq w2 w3 hps' hqm
    obtain ⟨f1, f2, f3, f4⟩ := h.seq (base := base) w1 n1 ho (hg s hs).2
    rw [← e3, ← e2, ← e1] at f1 f2 f3 f4
    obtain ⟨k, hk2⟩ := List.mem_iff_getElem?.1 hps
    have hkl := (List.getElem?_eq_some_iff.1 hk2).1
    have hk3 : s'.ps[k]? = some q := by rw [e3, List.getElem?_map, hk2, hq2]; rfl
    have hcf : cfC s 2 = cfC s' 2 := by
      show restOf s.sos s.eos (wayOf s.lv) (weakOf s.sos s.cs) = restOf s'.sos s'.eos (wayOf s'.lv) (weakOf s'.sos s'.cs)
      rw [f1, f2, f3, f4]
    obtain ⟨c, hc⟩ : ∃ c, (cfC s 2)[k]? = some c := ⟨_, List.getElem?_eq_getElem (by rw [cfC_len (hg s hs).1]; exact hkl)⟩
    rw [laid_at (fun s hs => (hg s hs).1) hs hk2 hc (by omega), laid_at (fun s hs => (hg' s hs).1) hs' hk3 (by rw [← hcf]; exact hc) (by omega), f1]
  · have hk' : q ∉ keptOf l' := fun e => hk (h.symm.kept t.symm e)
    rw [laid_none (fun s hs => (hg s hs).2) hk, laid_none (fun s hs => (hg' s hs).2) hk']
    rw [List.getD_eq_getElem?_getD, List.getD_eq_getElem?_getD, List.getElem?_eq_getElem (by omega), List.getElem?_eq_getElem (by omega)] at hlvpq
    rw [List.getElem?_eq_getElem (by omega), List.getElem?_eq_getElem (by omega)]
    simpa using hlvpq

end Go.Proofs.YtjnidopbdjbbgaaGreat
end
/-
  An isolate's content may be anything else that is whole: the levels outside it stay. Plain laws: no walk.
-/
section
namespace Go.Proofs.YtjnidopbdjbbgaaGreat
open Go.RowKit
set_option linter.unusedVariables false

theorem fsi_split (A : List Nat) : ∀ Y : List Nat, withFsi (A ++ Y) = ((List.range A.length).map fun k => (A.getD k 0, fsi 0 (A.drop (k + 1) ++ Y))) ++ withFsi Y := by
  induction A with
  | nil => intro Y; rfl
  | cons c A ih =>
    intro Y
    rw [List.cons_append, withFsi, ih Y, List.length_cons, List.range_succ_eq_map, List.map_cons, List.map_map]
    rfl
/-- An isolate's text: what stands ahead, its beginning, what stands within, what stands behind its end. -/
def isoT (A : List Nat) (c : Nat) (I Z : List Nat) : List Nat := A ++ c :: (I ++ 23 :: Z)
theorem isoT_len (A : List Nat) (c : Nat) (I Z : List Nat) : (isoT A c I Z).length = A.length + 1 + I.length + 1 + Z.length := by unfold isoT; simp; omega
theorem isoT_fsi (A : List Nat) (c : Nat) (I Z : List Nat) : ∃ Q : List (Nat × Nat), Q.map (·.1) = I ∧ withFsi (isoT A c I Z) = ((List.range A.length).map fun k => (A.getD k 0, fsi 0 (A.drop (k + 1) ++ c :: (I ++ 23 :: Z)))) ++ (c, fsi 0 (I ++ 23 :: Z)) :: (Q ++ (23, fsi 0 Z) :: withFsi Z) := by
  refine ⟨(List.range I.length).map fun k => (I.getD k 0, fsi 0 (I.drop (k + 1) ++ 23 :: Z)), ?_, ?_⟩
  · rw [List.map_map]
    refine List.ext_getElem? fun k => ?_
    rw [List.getElem?_map]
    rcases Nat.lt_or_ge k I.length with h | h
    · rw [List.getElem?_range h, List.getElem?_eq_getElem h]
      show some (I.getD k 0) = _
      rw [List.getD_eq_getElem?_getD, List.getElem?_eq_getElem h]
      rfl
    · rw [List.getElem?_eq_none (by simpa using h), List.getElem?_eq_none h]
      rfl
  · unfold isoT
    rw [fsi_split, withFsi, fsi_split I, withFsi]
/-- What is ahead of an isolate does not ask what is within. -/
theorem pre_same (A : List Nat) (c : Nat) (I J Z : List Nat) (hc : begins c = true) (hI : depthC 0 I = some 0) (hJ : depthC 0 J = some 0) :
    ((List.range A.length).map fun k => (A.getD k 0, fsi 0 (A.drop (k + 1) ++ c :: (I ++ 23 :: Z)))) = ((List.range A.length).map fun k => (A.getD k 0, fsi 0 (A.drop (k + 1) ++ c :: (J ++ 23 :: Z)))) := by
  refine List.map_congr_left fun k _ => ?_
  rw [fsi_inner _ c I J Z hc hI hJ]

theorem begin_removed {c : Nat} (h : begins c = true) : removedB c = false := by
  simp only [begins, Bool.or_eq_true, beq_iff_eq] at h
  unfold removedB
  simp
  omega
/-- The answers of the isolate's text, place by place. -/
structure IsoA (base : Nat) (A : List Nat) (c : Nat) (I Z : List Nat) (P : List (Nat × Nat)) : Prop where
  pl : P.length = A.length
  pre : ∀ k, k < A.length → (explicitOf base (isoT A c I Z))[k]? = (answers (St.first base) P)[k]?
  at_ : (explicitOf base (isoT A c I Z))[A.length]? = some (some (run (St.first base) P).top.level, (run (St.first base) P).plain c)
  post : ∀ k, (explicitOf base (isoT A c I Z))[A.length + 1 + I.length + k]? = ((some (run (St.first base) P).top.level, (run (St.first base) P).plain 23) :: answers (run (St.first base) P) (withFsi Z))[k]?
theorem iso_answers (base : Nat) (A : List Nat) (c : Nat) (I Z : List Nat) (hc : begins c = true) (hI : depthC 0 I = some 0) : IsoA base A c I Z ((List.range A.length).map fun k => (A.getD k 0, fsi 0 (A.drop (k + 1) ++ c :: (I ++ 23 :: Z)))) := by
  obtain ⟨Q, hQ, hw⟩ := isoT_fsi A c I Z
  have hd : depth 0 Q = some 0 := by rw [depth_map, hQ]; exact hI
  have hQl : Q.length = I.length := by rw [← hQ, List.length_map]
  obtain ⟨P, hP⟩ : ∃ P : List (Nat × Nat), P = ((List.range A.length).map fun k => (A.getD k 0, fsi 0 (A.drop (k + 1) ++ c :: (I ++ 23 :: Z)))) := ⟨_, rfl⟩
  rw [← hP] at hw ⊢
  have hPl : P.length = A.length := by rw [hP]; simp
  have hb := isolate_back (run (St.first base) P) c (fsi 0 (I ++ 23 :: Z)) Q (fsi 0 Z) hc hd
  have hsh : explicitOf base (isoT A c I Z) = answers (St.first base) P ++ (run (St.first base) P).answer c (fsi 0 (I ++ 23 :: Z)) :: (answers ((run (St.first base) P).next c (fsi 0 (I ++ 23 :: Z))) Q ++ (some (run (St.first base) P).top.level, (run (St.first base) P).plain 23) :: answers (run (St.first base) P) (withFsi Z)) := by
    unfold explicitOf
    rw [hw, answers_app, answers, answers_app, answers, hb]
    congr 3
    congr 1
    unfold St.answer
    rw [hb]
    simp [removedB]
  have hpb := begin_pdi hc
  refine ⟨hPl, fun k hk => ?_, ?_, fun k => ?_⟩
  · rw [hsh, List.getElem?_append_left (by rw [answers_len, hPl]; exact hk)]
  · rw [hsh, List.getElem?_append_right (by rw [answers_len, hPl]; omega), answers_len, hPl, Nat.sub_self]
    show some (St.answer _ c _) = _
    unfold St.answer
    rw [begin_removed hc, if_neg (by simp), if_neg hpb.1, if_neg hpb.2.2.2.2]
  · rw [hsh, List.getElem?_append_right (by rw [answers_len, hPl]; omega), answers_len, hPl, show A.length + 1 + I.length + k - A.length = (I.length + k) + 1 from by omega, List.getElem?_cons_succ,
      List.getElem?_append_right (by rw [answers_len, hQl]; omega), answers_len, hQl, show I.length + k - I.length = k from by omega]
/-- All levels within lie above the isolate's. -/
theorem iso_above (base : Nat) (hb : base ≤ 1) (A : List Nat) (c : Nat) (I Z : List Nat) (hc : begins c = true) (hI : depthC 0 I = some 0) (h123 : (lvsOf base (isoT A c I Z)).getD A.length 0 ≤ 123) (q : Nat) (hq : q ∈ keptOf (isoT A c I Z)) (h1 : A.length < q) (h2 : q < A.length + 1 + I.length) :
    (lvsOf base (isoT A c I Z)).getD A.length 0 < (lvsOf base (isoT A c I Z)).getD q 0 := by
  have ha := iso_answers base A c I Z hc hI
  obtain ⟨Q, hQ, hw⟩ := isoT_fsi A c I Z
  have hQl : Q.length = I.length := by rw [← hQ, List.length_map]
  have hd : depth 0 Q = some 0 := by rw [depth_map, hQ]; exact hI
  generalize hP : ((List.range A.length).map fun k => (A.getD k 0, fsi 0 (A.drop (k + 1) ++ c :: (I ++ 23 :: Z)))) = P at ha hw
  have hPl := ha.pl
  have hlA : (lvsOf base (isoT A c I Z)).getD A.length 0 = ((run (St.first base) P).top.level : Int) := by
    unfold lvsOf
    rw [List.getD_eq_getElem?_getD, List.getElem?_map, ha.at_]
    rfl
  rw [hlA] at h123 ⊢
  obtain ⟨k, rfl⟩ : ∃ k, q = A.length + 1 + k := ⟨q - A.length - 1, by omega⟩
  have hkI : k < Q.length := by omega
  obtain ⟨⟨cq, fq⟩, hcq⟩ : ∃ y, Q[k]? = some y := ⟨_, List.getElem?_eq_getElem hkI⟩
  have hzl : (P ++ (c, fsi 0 (I ++ 23 :: Z)) :: (Q ++ (23, fsi 0 Z) :: withFsi Z))[A.length + 1 + k]? = some (cq, fq) := by
    rw [List.getElem?_append_right (by omega), hPl, show A.length + 1 + k - A.length = k + 1 from by omega, List.getElem?_cons_succ, List.getElem?_append_left hkI]
    exact hcq
  have hans := answers_at _ (St.first base) _ cq fq hzl
  have htk : (P ++ (c, fsi 0 (I ++ 23 :: Z)) :: (Q ++ (23, fsi 0 Z) :: withFsi Z)).take (A.length + 1 + k) = P ++ (c, fsi 0 (I ++ 23 :: Z)) :: Q.take k := by
    rw [List.take_append, List.take_of_length_le (by omega), hPl, show A.length + 1 + k - A.length = k + 1 from by omega, List.take_succ_cons, List.take_append, show k - Q.length = 0 from by omega, List.take_zero, List.append_nil]
  have hrun : run (St.first base) (P ++ (c, fsi 0 (I ++ 23 :: Z)) :: Q.take k) = run ((run (St.first base) P).next c (fsi 0 (I ++ 23 :: Z))) (Q.take k) := by
    unfold run
    rw [List.foldl_append]
    rfl
  rw [htk, hrun] at hans
  have hok : Ok base (run (St.first base) P) := (run_counts base hb P (St.first base) (first_ok base)).1
  have hne : (run (St.first base) P).l ≠ [] := by
    obtain ⟨r, hr, _⟩ := hok.shape
    rw [hr]
    simp
  have hlow : Low (run (St.first base) P) := low_run P _ (first_low base)
  have hab : ∀ m, (run (St.first base) P).top.level < (run ((run (St.first base) P).next c (fsi 0 (I ++ 23 :: Z))) (Q.take m)).top.level := fun m => within_above _ c _ (Q.take m) (Q.drop m) hc hlow (by omega) hne (by rw [List.take_append_drop]; exact hd)
  have hlq : (lvsOf base (isoT A c I Z)).getD (A.length + 1 + k) 0 = lvI ((run ((run (St.first base) P).next c (fsi 0 (I ++ 23 :: Z))) (Q.take k)).answer cq fq).1 := by
    unfold lvsOf explicitOf
    rw [List.getD_eq_getElem?_getD, List.getElem?_map, hw, hans]
    rfl
  have hkr := (mem_keptOf.1 hq).2
  have hcl : (isoT A c I Z).getD (A.length + 1 + k) 0 = cq := by
    have : (withFsi (isoT A c I Z)).map (·.1) = isoT A c I Z := withFsi_map _
    rw [← this, List.getD_eq_getElem?_getD, List.getElem?_map, hw, hzl]
    rfl
  rw [hcl, rem_removed] at hkr
  rw [hlq]
  have hsn : (run ((run (St.first base) P).next c (fsi 0 (I ++ 23 :: Z))) (Q.take k)).next cq fq = run ((run (St.first base) P).next c (fsi 0 (I ++ 23 :: Z))) (Q.take (k + 1)) := (run_snoc _ Q k cq fq hcq).symm
  have k0 := hab k
  have k1 := hab (k + 1)
  unfold St.answer
  rw [hkr, if_neg (by simp), hsn]
  split
  · show ((run (St.first base) P).top.level : Int) < ((run ((run (St.first base) P).next c (fsi 0 (I ++ 23 :: Z))) (Q.take (k + 1))).top.level : Int)
    omega
  · split
    · show ((run (St.first base) P).top.level : Int) < ((run ((run (St.first base) P).next c (fsi 0 (I ++ 23 :: Z))) (Q.take (k + 1))).top.level : Int)
      omega
    · show ((run (St.first base) P).top.level : Int) < ((run ((run (St.first base) P).next c (fsi 0 (I ++ 23 :: Z))) (Q.take k)).top.level : Int)
      omega

/-- A text with a matched isolate, taken apart there. -/
theorem iso_of {l : List Nat} {p q : Nat} (h : begins (l.getD p 0) = true) (hm : (matchOf l).getD p 0 = (q : Int)) (hq : q < l.length) : ∃ I Z, l = isoT (l.take p) (l.getD p 0) I Z ∧ depthC 0 I = some 0 ∧ q = p + 1 + I.length ∧ (l.take p).length = p := by
  have hp := begins_lt h
  obtain ⟨e, hl⟩ := split_at hp
  rw [match_close h] at hm
  cases hc : closeAt 0 (l.drop (p + 1)) with
  | none => rw [hc] at hm; simp only at hm; omega
  | some k =>
    rw [hc] at hm
    simp only at hm
    obtain ⟨a, b, hd, ha, hw⟩ := close_whole (l.drop (p + 1)) 0 0 k hc
    refine ⟨a, b, ?_, hw, by omega, hl⟩
    unfold isoT
    rw [← hd]
    exact e
/-- An isolate and its end have one level. -/
theorem iso_same {base : Nat} {l : List Nat} {p q : Nat} (h : begins (l.getD p 0) = true) (hm : (matchOf l).getD p 0 = (q : Int)) (hq : q < l.length) : (lvsOf base l).getD q 0 = (lvsOf base l).getD p 0 := by
  obtain ⟨I, Z, e, hI, hqe, hl⟩ := iso_of h hm hq
  have ha := iso_answers base (l.take p) (l.getD p 0) I Z h hI
  have h1 := ha.at_
  have h2 := ha.post 0
  rw [← e, hl] at h1 h2
  rw [Nat.add_zero, ← hqe] at h2
  unfold lvsOf
  rw [List.getD_eq_getElem?_getD, List.getD_eq_getElem?_getD, List.getElem?_map, List.getElem?_map, h1, h2]
  rfl
theorem link_level {base : Nat} {l : List Nat} {p q : Nat} (h : Link l (lvsOf base l) p q) : (lvsOf base l).getD q 0 = (lvsOf base l).getD p 0 := by
  rcases h.2.2 with ⟨_, h2⟩ | ⟨h1, h2, _, _⟩
  · exact h2
  · exact iso_same h1 h2 (kept_lt h.2.1)
/-- All places of a sequence have its level. -/
theorem seq_level {base : Nat} (hb : base ≤ 1) {l nw : List Nat} {s : Sq} (hs : s ∈ seqsOf l nw (lvsOf base l) base) (hk : ∀ p ∈ s.ps, p ∈ keptOf l) {p : Nat} (hp : p ∈ s.ps) : (lvsOf base l).getD p 0 = (s.lv : Int) := by
  obtain ⟨w, e, n⟩ := seqs_whole hs
  obtain ⟨x, hx⟩ : ∃ x, s.ps[0]? = some x := ⟨_, List.getElem?_eq_getElem n⟩
  have hxs := List.mem_of_getElem? hx
  obtain ⟨v, hv, _, _⟩ := lvs_kept hb (hk x hxs)
  have hvx : (lvsOf base l).getD x 0 = (v : Int) := by rw [List.getD_eq_getElem?_getD, hv]; rfl
  have hslv : s.lv = v := by
    rw [e]
    show ((lvsOf base l).getD (s.ps.getD 0 0) 0).toNat = v
    rw [show s.ps.getD 0 0 = x from by rw [List.getD_eq_getElem?_getD, hx]; rfl, hvx]
    rfl
  rw [hslv]
  exact fwd_all (P := fun y => (lvsOf base l).getD y 0 = (v : Int)) (fun y z hl => by rw [link_level hl]) s.ps w.fwd x hxs hvx p hp

theorem pile_mem (Z : List Nat) : ∀ (Y : List Nat) (x : Nat), x ∈ pileOf (Y ++ Z) → x ∈ pileOf Y ∨ Y.length ≤ x := by
  induction Z with
  | nil => intro Y x h; rw [List.append_nil] at h; exact .inl h
  | cons c Z ih =>
    intro Y x h
    rw [show Y ++ c :: Z = (Y ++ [c]) ++ Z from by simp] at h
    rcases ih (Y ++ [c]) x h with h1 | h1
    · rw [pile_step] at h1
      split at h1
      · rcases List.mem_cons.1 h1 with rfl | h1
        · exact .inr (Nat.le_refl _)
        · exact .inl h1
      · split at h1
        · exact .inl (List.mem_of_mem_tail h1)
        · split at h1
          · cases h1
          · exact .inl h1
    · rw [List.length_append] at h1
      exact .inr (by omega)
theorem pile_lt {Y : List Nat} {x : Nat} (h : x ∈ pileOf Y) : x < Y.length := by
  have hp : Piled (matchFrom 0 ([], []) Y) := piled_from _ piled_nil
  have := hp.2 x h
  rw [matchFrom_len] at this
  simpa using this
theorem pile_top {l : List Nat} {p q : Nat} (h23 : l.getD q 0 = 23) (hq : q < l.length) (hm : (matchOf l).getD q 0 = (p : Int)) : ∃ r, pileOf (l.take q) = p :: r := by
  obtain ⟨e, hl⟩ := split_at hq
  rw [h23] at e
  have := match_pdi (l.take q) (l.drop (q + 1))
  rw [← e, hl] at this
  rw [List.getD_eq_getElem?_getD, this] at hm
  cases hpl : pileOf (l.take q) with
  | nil => rw [hpl] at hm; exact absurd hm (by show (-1 : Int) ≠ p; omega)
  | cons x r =>
    rw [hpl] at hm
    have : (x : Int) = (p : Int) := hm
    exact ⟨r, by rw [show x = p from by omega]⟩
theorem depthC_prefix (a b : List Nat) : ∀ d k, depthC d (a ++ b) = some k → ∃ j, depthC d a = some j ∧ depthC j b = some k := by
  induction a with
  | nil => intro d k h; exact ⟨d, rfl, h⟩
  | cons x a ih =>
    intro d k h
    rw [List.cons_append, depthC] at h
    rw [depthC]
    by_cases hb : begins x = true
    · rw [if_pos hb] at h ⊢
      exact ih _ _ h
    · rw [if_neg hb] at h ⊢
      by_cases hp : x = 23
      · rw [if_pos hp] at h ⊢
        by_cases h0 : d = 0
        · rw [if_pos h0] at h; cases h
        · rw [if_neg h0] at h ⊢
          exact ih _ _ h
      · rw [if_neg hp] at h ⊢
        by_cases hB : x = 11
        · rw [if_pos hB] at h; cases h
        · rw [if_neg hB] at h ⊢
          exact ih _ _ h
/-- Matches lie both within an isolate, or both outside. -/
theorem iso_inn (A : List Nat) (c : Nat) (I Z : List Nat) (hc : begins c = true) (hI : depthC 0 I = some 0) (p q : Nat) (hb : begins ((isoT A c I Z).getD p 0) = true) (hm : (matchOf (isoT A c I Z)).getD p 0 = (q : Int)) (hq : q < (isoT A c I Z).length) :
    (A.length < p ∧ p < A.length + 1 + I.length) ↔ (A.length < q ∧ q < A.length + 1 + I.length) := by
  obtain ⟨h1, h2, h3⟩ := match_inv hb hm hq
  obtain ⟨r, hr⟩ := pile_top h2 hq h3
  have hfull : pileOf (A ++ c :: (I ++ [23])) = pileOf A := pile_isolate A c I hc hI
  have hpA : pileOf (A ++ [c]) = A.length :: pileOf A := by rw [pile_step, if_pos hc]
  constructor
  · rintro ⟨a1, a2⟩
    refine ⟨by omega, ?_⟩
    rcases Nat.lt_or_ge q (A.length + 1 + I.length) with h4 | h4
    · exact h4
    · exfalso
      rcases Nat.lt_or_ge (A.length + 1 + I.length) q with h5 | h5
      · have e : (isoT A c I Z).take q = (A ++ c :: (I ++ [23])) ++ Z.take (q - (A.length + 1 + I.length + 1)) := by
          unfold isoT
          rw [show A ++ c :: (I ++ 23 :: Z) = (A ++ c :: (I ++ [23])) ++ Z from by simp, List.take_append, List.take_of_length_le (by simp; omega)]
          congr 2
          simp
          omega
        rw [e] at hr
        rcases pile_mem _ _ p (by rw [hr]; simp) with h6 | h6
        · rw [hfull] at h6
          have := pile_lt h6
          omega
        · simp at h6
          omega
      · have e : (isoT A c I Z).take q = (A ++ [c]) ++ I := by
          unfold isoT
          rw [show A ++ c :: (I ++ 23 :: Z) = (A ++ [c] ++ I) ++ 23 :: Z from by simp, List.take_append, List.take_of_length_le (by simp; omega), show q - (A ++ [c] ++ I).length = 0 from by simp; omega, List.take_zero, List.append_nil]
        rw [e] at hr
        have := (pile_whole I (A ++ [c]) 0 0 hI (Nat.zero_le _)).1
        rw [List.drop_zero, List.drop_zero, hr, hpA] at this
        injection this with this
        omega
  · rintro ⟨a1, a2⟩
    refine ⟨?_, by omega⟩
    obtain ⟨k, rfl⟩ : ∃ k, q = A.length + 1 + k := ⟨q - A.length - 1, by omega⟩
    have e : (isoT A c I Z).take (A.length + 1 + k) = (A ++ [c]) ++ I.take k := by
      unfold isoT
      rw [show A ++ c :: (I ++ 23 :: Z) = (A ++ [c]) ++ (I ++ 23 :: Z) from by simp, List.take_append, List.take_of_length_le (by simp), show A.length + 1 + k - (A ++ [c]).length = k from by simp, List.take_append, show k - I.length = 0 from by omega, List.take_zero, List.append_nil]
    rw [e] at hr
    have hIk : I = I.take k ++ 23 :: I.drop (k + 1) := by
      have hkl : k < I.length := by omega
      obtain ⟨e1, _⟩ := split_at hkl
      have : I.getD k 0 = 23 := by
        rw [← h2]
        unfold isoT
        rw [List.getD_eq_getElem?_getD, List.getD_eq_getElem?_getD, List.getElem?_append_right (by omega), show A.length + 1 + k - A.length = k + 1 from by omega, List.getElem?_cons_succ, List.getElem?_append_left hkl]
      rw [this] at e1
      exact e1
    rw [hIk] at hI
    obtain ⟨d, hd, hd2⟩ := depthC_prefix _ _ 0 0 hI
    have hd0 : d ≠ 0 := by
      rintro rfl
      rw [depthC, if_neg (by decide), if_pos rfl, if_pos rfl] at hd2
      cases hd2
    obtain ⟨w1, w2⟩ := pile_whole (I.take k) (A ++ [c]) 0 d hd (Nat.zero_le _)
    rw [hr] at w1 w2
    obtain ⟨d', rfl⟩ : ∃ d', d = d' + 1 := ⟨d - 1, by omega⟩
    rw [List.drop_succ_cons, List.drop_zero, hpA] at w1
    have hpd : Piled (matchFrom 0 ([], []) (A ++ [c] ++ I.take k)) := piled_from _ piled_nil
    have hpw : (p :: r).Pairwise (fun a b => b < a) := by rw [← hr]; exact hpd.1
    exact (List.pairwise_cons.1 hpw).1 A.length (List.mem_of_mem_drop (by rw [w1]; simp))

theorem close_split (a : List Nat) : ∀ d, (∃ k, k < a.length ∧ ∀ Y, closeAt d (a ++ Y) = some k) ∨ (∀ Y, closeAt d (a ++ Y) = none) ∨ (∃ e, ∀ Y, closeAt d (a ++ Y) = (closeAt e Y).map (· + a.length)) := by
  induction a with
  | nil => intro d; exact .inr (.inr ⟨d, fun Y => by simp⟩)
  | cons c a ih =>
    intro d
    have lift : ∀ e, (∀ Y, closeAt d (c :: (a ++ Y)) = (closeAt e (a ++ Y)).map (· + 1)) → (∃ k, k < (c :: a).length ∧ ∀ Y, closeAt d (c :: a ++ Y) = some k) ∨ (∀ Y, closeAt d (c :: a ++ Y) = none) ∨ (∃ e, ∀ Y, closeAt d (c :: a ++ Y) = (closeAt e Y).map (· + (c :: a).length)) := by
      intro e he
      rcases ih e with ⟨k, hk, h⟩ | h | ⟨e', h⟩
      · exact .inl ⟨k + 1, by simp; omega, fun Y => by rw [List.cons_append, he, h]; rfl⟩
      · exact .inr (.inl fun Y => by rw [List.cons_append, he, h]; rfl)
      · refine .inr (.inr ⟨e', fun Y => ?_⟩)
        rw [List.cons_append, he, h, Option.map_map]
        congr 1
    by_cases hb : begins c = true
    · exact lift (d + 1) fun Y => by rw [closeAt, if_pos hb]
    · by_cases h23 : c = 23
      · by_cases h0 : d = 0
        · exact .inl ⟨0, by simp, fun Y => by rw [List.cons_append, closeAt, if_neg hb, if_pos h23, if_pos h0]⟩
        · exact lift (d - 1) fun Y => by rw [closeAt, if_neg hb, if_pos h23, if_neg h0]
      · by_cases h11 : c = 11
        · exact .inr (.inl fun Y => by rw [List.cons_append, closeAt, if_neg hb, if_neg h23, if_pos h11])
        · exact lift d fun Y => by rw [closeAt, if_neg hb, if_neg h23, if_neg h11]
theorem isoT_pre (A : List Nat) (c : Nat) (I Z : List Nat) {k : Nat} (h : k < A.length) : (isoT A c I Z).getD k 0 = A.getD k 0 := by
  unfold isoT
  rw [List.getD_eq_getElem?_getD, List.getD_eq_getElem?_getD, List.getElem?_append_left h]
theorem isoT_at (A : List Nat) (c : Nat) (I Z : List Nat) : (isoT A c I Z).getD A.length 0 = c := by
  unfold isoT
  rw [List.getD_eq_getElem?_getD, List.getElem?_append_right (by omega), Nat.sub_self]
  rfl
theorem isoT_post (A : List Nat) (c : Nat) (I Z : List Nat) (k : Nat) : (isoT A c I Z).getD (A.length + 1 + I.length + k) 0 = (23 :: Z).getD k 0 := by
  unfold isoT
  rw [List.getD_eq_getElem?_getD, List.getD_eq_getElem?_getD, List.getElem?_append_right (by omega), show A.length + 1 + I.length + k - A.length = (I.length + k) + 1 from by omega, List.getElem?_cons_succ, List.getElem?_append_right (by omega), show I.length + k - I.length = k from by omega]
theorem isoT_drop (A : List Nat) (c : Nat) (I Z : List Nat) (k : Nat) : (isoT A c I Z).drop (A.length + 1 + I.length + k) = (23 :: Z).drop k := by
  unfold isoT
  rw [show A ++ c :: (I ++ 23 :: Z) = (A ++ [c] ++ I) ++ 23 :: Z from by simp, List.drop_append, List.drop_of_length_le (by simp; omega), List.nil_append]
  congr 1
  simp
  omega
theorem isoT_dropPre (A : List Nat) (c : Nat) (I Z : List Nat) {k : Nat} (h : k < A.length) : (isoT A c I Z).drop (k + 1) = A.drop (k + 1) ++ c :: (I ++ 23 :: Z) := by
  unfold isoT
  rw [List.drop_append, show k + 1 - A.length = 0 from by omega, List.drop_zero]
theorem isoT_dropAt (A : List Nat) (c : Nat) (I Z : List Nat) : (isoT A c I Z).drop (A.length + 1) = I ++ 23 :: Z := by
  unfold isoT
  rw [List.drop_append, List.drop_of_length_le (by omega), show A.length + 1 - A.length = 1 from by omega]
  rfl
theorem close_iso (c : Nat) (I Y : List Nat) (hc : begins c = true) (hI : depthC 0 I = some 0) (d : Nat) : closeAt d (c :: (I ++ 23 :: Y)) = (closeAt d Y).map (· + (I.length + 2)) := by
  rw [closeAt, if_pos hc]
  have := close_over I (23 :: Y) (d + 1) 0 0 hI
  rw [Nat.add_zero] at this
  rw [this, closeAt, if_neg (by decide), if_pos rfl, if_neg (by omega), show d + 1 - 1 = d from by omega, Option.map_map, Option.map_map]
  congr 1
  funext x
  simp
  omega
theorem iso_mt (A : List Nat) (c : Nat) (I J Z : List Nat) (hc : begins c = true) (hI : depthC 0 I = some 0) (hJ : depthC 0 J = some 0) (p p' : Nat) (t : Tr A.length I.length J.length p p') (hb : begins ((isoT A c I Z).getD p 0) = true) (hcl : (isoT A c I Z).getD p 0 = (isoT A c J Z).getD p' 0) :
    ∃ q q' : Nat, (matchOf (isoT A c I Z)).getD p 0 = (q : Int) ∧ (matchOf (isoT A c J Z)).getD p' 0 = (q' : Int) ∧ Tr A.length I.length J.length q q' := by
  rw [match_close hb, match_close (by rw [← hcl]; exact hb), isoT_len, isoT_len]
  rcases Nat.lt_trichotomy p A.length with h | h | h
  · have : p' = p := by unfold Tr at t; omega
    subst this
    rw [isoT_dropPre A c I Z h, isoT_dropPre A c J Z h]
    have hdl : (A.drop (p' + 1)).length = A.length - (p' + 1) := List.length_drop
    rcases close_split (A.drop (p' + 1)) 0 with ⟨k, hk, hY⟩ | hY | ⟨e, hY⟩
    · rw [hY, hY]
      exact ⟨_, _, rfl, rfl, by unfold Tr; omega⟩
    · rw [hY, hY]
      exact ⟨_, _, rfl, rfl, by unfold Tr; omega⟩
    · rw [hY, hY, close_iso c I Z hc hI, close_iso c J Z hc hJ]
      cases closeAt e Z with
      | none => exact ⟨_, _, rfl, rfl, by unfold Tr; omega⟩
      | some k => exact ⟨p' + 1 + (k + (I.length + 2) + (A.drop (p' + 1)).length), p' + 1 + (k + (J.length + 2) + (A.drop (p' + 1)).length), rfl, rfl, by unfold Tr; omega⟩
  · have : p' = p := by unfold Tr at t; omega
    subst this
    rw [h, isoT_dropAt, isoT_dropAt, close_here I Z hI, close_here J Z hJ]
    exact ⟨_, _, rfl, rfl, by unfold Tr; omega⟩
  · obtain ⟨k, rfl⟩ : ∃ k, p = A.length + 1 + I.length + k := ⟨p - (A.length + 1 + I.length), by have := t.out; omega⟩
    have : p' = A.length + 1 + J.length + k := by unfold Tr at t; omega
    subst this
    rw [show A.length + 1 + I.length + k + 1 = A.length + 1 + I.length + (k + 1) from by omega, show A.length + 1 + J.length + k + 1 = A.length + 1 + J.length + (k + 1) from by omega, isoT_drop, isoT_drop]
    cases closeAt 0 ((23 :: Z).drop (k + 1)) with
    | none => exact ⟨_, _, rfl, rfl, by unfold Tr; omega⟩
    | some m => exact ⟨A.length + 1 + I.length + (k + 1) + m, A.length + 1 + J.length + (k + 1) + m, rfl, rfl, by unfold Tr; omega⟩

theorem iso_half (base : Nat) (hb : base ≤ 1) (A : List Nat) (c : Nat) (I Z : List Nat) (hc : begins c = true) (hI : depthC 0 I = some 0) (h123 : (lvsOf base (isoT A c I Z)).getD A.length 0 ≤ 123) : Half A.length I.length (isoT A c I Z) (lvsOf base (isoT A c I Z)) := by
  have hbg : begins ((isoT A c I Z).getD A.length 0) = true := by rw [isoT_at]; exact hc
  have hmt : (matchOf (isoT A c I Z)).getD A.length 0 = ((A.length + 1 + I.length : Nat) : Int) := by rw [match_close hbg, isoT_dropAt, close_here I Z hI]
  have hlen := isoT_len A c I Z
  refine ⟨mem_keptOf.2 ⟨by omega, ?_⟩, mem_keptOf.2 ⟨by omega, ?_⟩, hbg, hmt, iso_same hbg hmt (by omega), iso_above base hb A c I Z hc hI h123, iso_inn A c I Z hc hI⟩
  · rw [isoT_at, rem_removed]; exact begin_removed hc
  · have := isoT_post A c I Z 0
    rw [Nat.add_zero] at this
    rw [this]
    rfl
theorem iso_explicit (base : Nat) (A : List Nat) (c : Nat) (I J Z : List Nat) (hc : begins c = true) (hI : depthC 0 I = some 0) (hJ : depthC 0 J = some 0) (p p' : Nat) (t : Tr A.length I.length J.length p p') :
    (explicitOf base (isoT A c I Z))[p]? = (explicitOf base (isoT A c J Z))[p']? := by
  have a1 := iso_answers base A c I Z hc hI
  have a2 := iso_answers base A c J Z hc hJ
  rw [← pre_same A c I J Z hc hI hJ] at a2
  generalize ((List.range A.length).map fun k => (A.getD k 0, fsi 0 (A.drop (k + 1) ++ c :: (I ++ 23 :: Z)))) = P at a1 a2
  rcases Nat.lt_trichotomy p A.length with h | h | h
  · have : p' = p := by unfold Tr at t; omega
    subst this
    rw [a1.pre _ h, a2.pre _ h]
  · have : p' = p := by unfold Tr at t; omega
    subst this
    rw [h, a1.at_, a2.at_]
  · obtain ⟨k, rfl⟩ : ∃ k, p = A.length + 1 + I.length + k := ⟨p - (A.length + 1 + I.length), by have := t.out; omega⟩
    have : p' = A.length + 1 + J.length + k := by unfold Tr at t; omega
    subst this
    rw [a1.post, a2.post]
theorem iso_pair (base : Nat) (hb : base ≤ 1) (A : List Nat) (c : Nat) (I J Z : List Nat) (hc : begins c = true) (hI : depthC 0 I = some 0) (hJ : depthC 0 J = some 0) (h123 : (lvsOf base (isoT A c I Z)).getD A.length 0 ≤ 123) :
    Pair A.length I.length J.length (isoT A c I Z) (isoT A c J Z) (nwsOf base (isoT A c I Z)) (nwsOf base (isoT A c J Z)) (lvsOf base (isoT A c I Z)) (lvsOf base (isoT A c J Z)) := by
  have hcl : ∀ p q, Tr A.length I.length J.length p q → (isoT A c I Z).getD p 0 = (isoT A c J Z).getD q 0 := by
    intro p p' t
    rcases Nat.lt_trichotomy p A.length with h | h | h
    · have : p' = p := by unfold Tr at t; omega
      subst this
      rw [isoT_pre A c I Z h, isoT_pre A c J Z h]
    · have : p' = p := by unfold Tr at t; omega
      subst this
      rw [h, isoT_at, isoT_at]
    · obtain ⟨k, rfl⟩ : ∃ k, p = A.length + 1 + I.length + k := ⟨p - (A.length + 1 + I.length), by have := t.out; omega⟩
      have : p' = A.length + 1 + J.length + k := by unfold Tr at t; omega
      subst this
      rw [isoT_post, isoT_post]
  have hlv : ∀ p q, Tr A.length I.length J.length p q → (lvsOf base (isoT A c I Z)).getD p 0 = (lvsOf base (isoT A c J Z)).getD q 0 := by
    intro p q t
    unfold lvsOf
    rw [List.getD_eq_getElem?_getD, List.getD_eq_getElem?_getD, List.getElem?_map, List.getElem?_map, iso_explicit base A c I J Z hc hI hJ p q t]
  refine ⟨iso_half base hb A c I Z hc hI h123, iso_half base hb A c J Z hc hJ ?_, by rw [isoT_len, isoT_len]; unfold Tr; omega, hcl, fun p q t => ?_, hlv, fun p p' t hbg => iso_mt A c I J Z hc hI hJ p p' t hbg (hcl p p' t)⟩
  · rw [← hlv A.length A.length (by unfold Tr; omega)]
    exact h123
  · unfold nwsOf
    rw [List.getD_eq_getElem?_getD, List.getD_eq_getElem?_getD, List.getElem?_map, List.getElem?_map, iso_explicit base A c I J Z hc hI hJ p q t]
theorem iso_base (b : Int) (A : List Nat) (c : Nat) (I J Z : List Nat) (hc : begins c = true) (hI : depthC 0 I = some 0) (hJ : depthC 0 J = some 0) : baseOf b (isoT A c I Z) = baseOf b (isoT A c J Z) := by
  unfold baseOf isoT
  rw [strong_inner A c I J Z hc hI hJ 0]

theorem good_all {base : Nat} (hb : base ≤ 1) {l : List Nat} (hn : l.length ≤ 1048576) (h23 : ∀ x ∈ l, 1 ≤ x ∧ x ≤ 23) : ∀ s ∈ seqsOf l (nwsOf base l) (lvsOf base l) base, s.Ok ∧ ∀ p ∈ s.ps, p ∈ keptOf l :=
  fun s hs => ⟨(seqs_good hb hn h23 s hs).ok, (seqs_good hb hn h23 s hs).kept⟩
/-- No level falls below that of the explicit rules, nor over 126; L even, R odd. -/
theorem engine_kept {b : Int} {l : List Nat} (hn : l.length ≤ 1048576) (h23 : ∀ x ∈ l, 1 ≤ x ∧ x ≤ 23) {p : Nat} (hp : p ∈ keptOf l) :
    ∃ v w c : Nat, (engineOf b l)[p]? = some (w : Int) ∧ (lvsOf (baseOf b l) l).getD p 0 = (v : Int) ∧ v ≤ w ∧ w ≤ 126 ∧ baseOf b l ≤ v ∧ v ≤ 125 ∧ Settled c ∧ w = levelOf v c ∧ (nwsOf (baseOf b l) l).getD p 0 = (nwsOf (baseOf b l) l).getD p 0 := by
  have hb1 : baseOf b l ≤ 1 := by have := baseOf_le b l; omega
  have hg := good_all hb1 hn h23
  obtain ⟨s, hs, hps⟩ := seqs_cover (nw := nwsOf (baseOf b l) l) (lv := lvsOf (baseOf b l) l) (base := baseOf b l) hp
  obtain ⟨k, hk⟩ := List.mem_iff_getElem?.1 hps
  have hkl := (List.getElem?_eq_some_iff.1 hk).1
  obtain ⟨c, hc⟩ : ∃ c, (cfC s 2)[k]? = some c := ⟨_, List.getElem?_eq_getElem (by rw [cfC_len (hg s hs).1]; exact hkl)⟩
  have hlv := seq_level hb1 hs (hg s hs).2 hps
  have hset : Settled c := rest_settled (hg s hs).1 c (List.mem_of_getElem? hc)
  have hs1 := seqs_good hb1 hn h23 s hs
  have hl := level_of s.lv c hs1.lv hset
  exact ⟨s.lv, levelOf s.lv c, c, laid_at (fun s hs => (hg s hs).1) hs hk hc (by rw [lvs_len]; exact kept_lt hp), hlv, hl.1, hl.2.1, hs1.ge, hs1.lv, hset, rfl, rfl⟩
theorem engine_len (b : Int) (l : List Nat) : (engineOf b l).length = l.length := by unfold engineOf; rw [layAll_len, lvs_len]

/-- **What stands within an isolate that does not overflow may be anything else that is whole: all levels outside it stay.** -/
theorem engine_apart {b : Int} (A : List Nat) (c : Nat) (I J Z : List Nat) (hc : begins c = true) (hI : depthC 0 I = some 0) (hJ : depthC 0 J = some 0)
    (hn1 : (isoT A c I Z).length ≤ 1048576) (hn2 : (isoT A c J Z).length ≤ 1048576) (h1 : ∀ x ∈ isoT A c I Z, 1 ≤ x ∧ x ≤ 23) (h2 : ∀ x ∈ isoT A c J Z, 1 ≤ x ∧ x ≤ 23) (h123 : (engineOf b (isoT A c I Z)).getD A.length 0 ≤ 123) :
    baseOf b (isoT A c J Z) = baseOf b (isoT A c I Z) ∧ (engineOf b (isoT A c J Z)).take (A.length + 1) = (engineOf b (isoT A c I Z)).take (A.length + 1) ∧ (engineOf b (isoT A c J Z)).drop (A.length + 1 + J.length) = (engineOf b (isoT A c I Z)).drop (A.length + 1 + I.length) := by
  have hbase := iso_base b A c I J Z hc hI hJ
  have hb1 : baseOf b (isoT A c I Z) ≤ 1 := by have := baseOf_le b (isoT A c I Z); omega
  have hlen1 := isoT_len A c I Z
  have hlen2 := isoT_len A c J Z
  have hkA : A.length ∈ keptOf (isoT A c I Z) := mem_keptOf.2 ⟨by omega, by rw [isoT_at, rem_removed]; exact begin_removed hc⟩
  obtain ⟨v, w, x, e1, e2, e3, _⟩ := engine_kept (b := b) hn1 h1 hkA
  have hv : (lvsOf (baseOf b (isoT A c I Z)) (isoT A c I Z)).getD A.length 0 ≤ 123 := by
    rw [List.getD_eq_getElem?_getD, e1] at h123
    rw [e2]
    have : (w : Int) ≤ 123 := h123
    omega
  have hp := iso_pair (baseOf b (isoT A c I Z)) hb1 A c I J Z hc hI hJ hv
  have key : ∀ p q, Tr A.length I.length J.length p q → p < (isoT A c I Z).length → q < (isoT A c J Z).length → (engineOf b (isoT A c I Z))[p]? = (engineOf b (isoT A c J Z))[q]? := by
    intro p q t g1 g2
    have := hp.laid (base := baseOf b (isoT A c I Z)) (lvs_len _ _) (lvs_len _ _) (good_all hb1 hn1 h1) (good_all hb1 hn2 h2) t g1 g2
    unfold engineOf
    rw [← hbase]
    exact this
  refine ⟨hbase.symm, List.ext_getElem? fun k => ?_, List.ext_getElem? fun k => ?_⟩
  · rw [List.getElem?_take, List.getElem?_take]
    split
    · exact (key k k (by unfold Tr; omega) (by omega) (by omega)).symm
    · rfl
  · rw [List.getElem?_drop, List.getElem?_drop]
    rcases Nat.lt_or_ge k (1 + Z.length) with h | h
    · exact (key _ _ (by unfold Tr; omega) (by omega) (by omega)).symm
    · rw [List.getElem?_eq_none (by rw [engine_len]; omega), List.getElem?_eq_none (by rw [engine_len]; omega)]

end Go.Proofs.YtjnidopbdjbbgaaGreat
end
