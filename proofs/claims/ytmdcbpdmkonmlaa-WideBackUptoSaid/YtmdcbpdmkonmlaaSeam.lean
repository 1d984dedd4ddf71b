/-
  The walk of the law WideSeam.
-/
import Derived.Deep.Cut
import Derived.Test.YtmdcbpdmkonmlaaSeamM
import Derived.Test.YtmdcbpdmkonmlaaWFrom
import Derived.Test.YtmdcbpdmkonmlaaSent
namespace Go.Proofs.Ytmdcbpdmkonmlaa
open Go.RowKit

/-- Is the last unit a high one? -/
def openB (us : List Int) : Bool := match us.getLast? with
  | some x => highB x
  | none => false
/-- Is the first unit a low one? -/
def shutB (vs : List Int) : Bool := match vs.head? with
  | some x => lowB x
  | none => false

theorem openB_nil {us : List Int} (h : us.length = 0) : openB us = false := by
  have : us = [] := List.length_eq_zero_iff.1 h
  subst this
  rfl
theorem shutB_nil {us : List Int} (h : us.length = 0) : shutB us = false := by
  have : us = [] := List.length_eq_zero_iff.1 h
  subst this
  rfl
theorem openB_at {us : List Int} {x : Int} (h : us[us.length - 1]? = some x) : openB us = highB x := by
  unfold openB
  rw [List.getLast?_eq_getElem?, h]
theorem shutB_at {us : List Int} {x : Int} (h : us[0]? = some x) : shutB us = lowB x := by
  unfold shutB
  rw [List.head?_eq_getElem?, h]
theorem highB_of {x : Int} (p q : Bool) (h1 : decide (55296 ≤ x) = p) (h2 : decide (x ≤ 56319) = q) : highB x = (p && q) := by
  subst h1 h2
  unfold highB
  by_cases a : 55296 ≤ x <;> by_cases b : x ≤ 56319 <;> simp [a, b] <;> omega
theorem lowB_of {x : Int} (p q : Bool) (h1 : decide (56320 ≤ x) = p) (h2 : decide (x ≤ 57343) = q) : lowB x = (p && q) := by
  subst h1 h2
  unfold lowB
  by_cases a : 56320 ≤ x <;> by_cases b : x ≤ 57343 <;> simp [a, b] <;> omega
theorem seam_shut {us vs : List Int} (h : (openB us && shutB vs) = false) : ∀ x y, us.getLast? = some x → vs.head? = some y → (joinOf x y).2 = false := by
  intro x y hx hy
  unfold openB shutB at h
  rw [hx, hy] at h
  simp only at h
  unfold joinOf
  cases hh : highB x <;> cases hl : lowB y <;> simp_all

/-- append, in the walk, behind a guard that holds. -/
theorem wpList_appG {P : Program} {w : World} {ops : Array Oper} {rest : List Oper} {o : Oper} {act : Act} {Q : Exit → Act → World → Prop} (hgd : Region.wanted o (yielded ops act.tmps) = true) (s x : Operand) (t tx : TypeId)
    (ho : o.op = .call { callee := .builtin .append, args := #[s, x], argTypes := #[t, tx] })
    (e : TypeId) (i : TypeInfo) (z : Value) (size bytes : Nat) (ht : P.underlying t = some (.slice e)) (hi : P.info? e = some i) (hz : i.zero = some z) (hsize : i.size = size) (hby : i.bytes = bytes) (hzs : z.cells.size = size)
    (hz1 : ∀ u ∈ z.cells.toList, u.oneCell' = true)
    (B : Nat) (a : Option Addr) (n c : Nat) (xs : List Value) (hs : act.eval s = .slice a n c) (hown : Own w B size a n c xs) (xv : Value) (m : Nat) (news : List Value) (hx : act.eval x = xv) (hsrc : Src P size tx xv m news w)
    (h63 : n + m ≤ maxLen) (hb : (n + m) * bytes ≤ 140737488355328) (hB : B ≤ w.heap.size)
    (h : ∀ a' c' w', Own w' B size a' (n + m) c' (xs ++ news) → Apped w w' a a' → wpList P ops Q rest (act.put o.dst (.slice a' (n + m) c')) w') : wpList P ops Q (o :: rest) act w := by
  obtain ⟨a', c', w', hr, h2, h3⟩ := run_app (P := P) (w := w) t tx o.type e i z size bytes ht hi hz hsize hby hzs hz1 B a n c xs hown xv m news hsrc h63 hb hB
  refine wpList_step fun _ hK => ?_
  rw [if_pos hgd]
  unfold Oper.wp execOp
  simp only [ho, resolve, invoke, builtin, Sem.run_bind, Sem.run_pure, Result.andThen_ok, List.map_toArray, List.map_cons, List.map_nil, hs, hx, hr]
  exact hK _ _ (h a' c' w' h2 h3)

set_option maxRecDepth 20000 in
set_option maxHeartbeats 8000000 in
theorem seam_walk (w : World) (a : ByteArray) (hsa : a.size ≤ 1048576) (b : ByteArray) (hsb : b.size ≤ 1048576) (ua : Option Addr) (uc : Nat) (us : List Int) (hule : us.length ≤ uc) (huc : uc ≤ 1048576) (hur : Cells w ua (us.map (Value.int .u16))) (huwf : ∀ x ∈ us, (Lit.int .u16 x).wf = true) (va : Option Addr) (vc : Nat) (vs : List Int) (hvle : vs.length ≤ vc) (hvc : vc ≤ 1048576) (hvr : Cells w va (vs.map (Value.int .u16))) (hvwf : ∀ x ∈ vs, (Lit.int .u16 x).wf = true) :
    Calls Try.prog 5 #[.string a, .string b, .slice ua us.length uc, .slice va vs.length vc] w fun e w' => e = .returned (.bool true) ∧ Below w.heap.size w w' := by
  obtain ⟨i0, hi, hz0, hz1, hz2⟩ := info_parts info22
  obtain ⟨i1, hi1, hy0, hy1, hy2⟩ := info_parts info21
  have hu := u16_of huwf
  have hv := u16_of hvwf
  have hun : us.length ≤ 1048576 := by omega
  have hvn : vs.length ≤ 1048576 := by omega
  have hab := ByteArray.size_append (a := a) (b := b)
  have UA := Lib.hid (fun W => unitAt_any W (a ++ b) (by omega) a.size)
  have hts := text_seam a b
  generalize hG : unitAtOf (a ++ b) a.size = G at *
  obtain ⟨p, q⟩ := G
  have FX := fun W => fromText_any W (a ++ b) (by omega)
  have FA := fun W => fromText_any W a (by omega)
  have FB := fun W => fromText_any W b (by omega)
  have lA := unitsAll_le (textRunes a)
  have lB := unitsAll_le (textRunes b)
  have tA := textRunes_le a
  have tB := textRunes_le b
  generalize unitsAll (textRunes (a ++ b)) = X at *
  generalize unitsAll (textRunes a) = A at *
  generalize unitsAll (textRunes b) = B at *
  have hAl : A.length ≤ 2097152 := by omega
  have hBl : B.length ≤ 2097152 := by omega
  have HFA := Lib.hid FA
  have HFB := Lib.hid FB
  have HFX := Lib.hid (fun (h : q = 0) W => (show Calls Try.prog 25 #[.string (a ++ b)] W (fun e w' => ∃ x c, e = .returned (.slice x (A.length + B.length) c) ∧ Own w' W.heap.size 1 x (A.length + B.length) c ((A ++ B).map (Value.int .u16)) ∧ Below W.heap.size W w') from by
    have h1 := hts h
    have h2 := FX W
    rw [h1, List.length_append] at h2
    exact h2))
  have HSM := Lib.hid (fun (W : World) (x : Option Addr) (c : Nat) (y : Option Addr) (d : Nat) (h1 : Cells W x ((A ++ B).map (Value.int .u16))) (h2 : Cells W y ((A ++ B).map (Value.int .u16))) => (show Calls Try.prog 29 #[.slice x (A.length + B.length) c, .slice y (A.length + B.length) d] W (fun e w' => e = .returned (.bool true) ∧ Below W.heap.size W w') from by
    have h3 := same_any W x c (A ++ B) y d (A ++ B) (by rw [List.length_append]; omega) h1 h2
    rw [decide_eq_true rfl, List.length_append] at h3
    exact h3))
  have RU := fun W x c h => runes_any W x c us (by omega) h hu
  have RV := fun W x c h => runes_any W x c vs (by omega) h hv
  have hRs : (openB us && shutB vs) = false → runesOf (us ++ vs) = runesOf us ++ runesOf vs := fun h => runes_seam us vs (seam_shut h)
  have lU := runesOf_le us
  have lV := runesOf_le vs
  have RX := fun W x c h => runes_any W x c (us ++ vs) (by rw [List.length_append]; omega) h (fun u hm => (List.mem_append.1 hm).elim (hu u) (hv u))
  generalize runesOf (us ++ vs) = R at *
  generalize runesOf us = P at *
  generalize runesOf vs = Q at *
  have hPl : P.length ≤ 1048576 := by omega
  have hQl : Q.length ≤ 1048576 := by omega
  have HRU := Lib.hid RU
  have HRV := Lib.hid RV
  have HRX := Lib.hid (fun (h : (openB us && shutB vs) = false) (W : World) (x : Option Addr) (c : Nat) (h1 : Cells W x ((us ++ vs).map (Value.int .u16))) => (show Calls Try.prog 30 #[.slice x (us.length + vs.length) c] W (fun e w' => ∃ y d, e = .returned (.slice y (P.length + Q.length) d) ∧ Own w' W.heap.size 1 y (P.length + Q.length) d ((P ++ Q).map (Value.int .i32)) ∧ Below W.heap.size W w') from by
    have h2 := hRs h
    have h3 := RX W x c h1
    rw [h2, List.length_append, List.length_append] at h3
    exact h3))
  have HU := Lib.hid hur
  have HV := Lib.hid hvr
  clear hu hv huwf hvwf hule hvle huc hvc hur hvr hG hts FX FA FB RU RV RX hRs lU lV lA lB tA tB hab
  go_enter Try.func5, Try.ntmps5
  go_wp2_with fail
  refine (UA.out w).mono ?_
  rintro e w1 ⟨rfl, hb1⟩
  have HB1 := Lib.hid hb1
  clear hb1 UA
  go_upto_region 2 with fail
  go_cut [40] from 17 (fun s40 wx => s40 = .bool false ∧ Below w.heap.size w wx)
  case first =>
    by_cases hq : q = 0
    · have HFX0 := Lib.hid (HFX.out hq)
      subst hq
      clear HFX
      go_wp2_with fail
      refine (HFX0.out w1).mono ?_
      rintro e w2 ⟨a2, c2, rfl, hown2, hb2⟩
      have HO2 := Lib.hid hown2
      have HB2 := Lib.hid hb2
      clear hown2 hb2
      go_wp2_with fail
      refine (HFA.out w2).mono ?_
      rintro e w3 ⟨a3, c3, rfl, hown3, hb3⟩
      have HO3 := Lib.hid hown3
      have HB3 := Lib.hid hb3
      clear hown3 hb3
      go_wp2_with fail
      refine (HFB.out w3).mono ?_
      rintro e w4 ⟨a4, c4, rfl, hown4, hb4⟩
      have HO4 := Lib.hid hown4
      have HB4 := Lib.hid hb4
      clear hown4 hb4
      have HO3b := Lib.hid (HO3.out.below HB4.out)
      have HW := Lib.hid (after (after (after HB1.out HB2.out) HB3.out) HB4.out)
      go_wp2_with (at_builtin; refine wpList_appG (by simp [Region.wanted, yielded]) _ _ 31 31 rfl 22 i0 (.int .u16 0) 1 2 Try.underlying31 hi hz0 hz1 hz2 rfl (by simp [Value.cells, Value.oneCell']) w2.heap.size _ _ _ _ rfl HO3b.out _ _ _ rfl (Src.ofCells Try.underlying31 _ _ _ _ (by simp) HO4.out.toCells (ints_one _ _) (by decide)) (by simp only [maxLen]; omega) (by omega) (Nat.le_trans HB3.out.size HB4.out.size) ?_; intro a5 c5 w5 hown5 hap5; have HB5 := Lib.hid (hap5.below HO3b.out (Nat.le_trans HB3.out.size HB4.out.size)); have HO5 := Lib.hid hown5; clear hown5 hap5)
      have c5y := HO5.out.toCells
      rw [← List.map_append] at c5y
      have HO2b := Lib.hid (HO2.out.below ((after HB3.out HB4.out).trans HB5.out)).toCells
      have HW5 := Lib.hid (after (after HB1.out HB2.out) ((after HB3.out HB4.out).trans HB5.out))
      have C5 := Lib.hid c5y
      clear c5y
      refine (HSM.out w5 a2 c2 a5 c5 HO2b.out C5.out).mono ?_
      rintro e w6 ⟨rfl, hb6⟩
      have HW6 := Lib.hid (after HW5.out hb6)
      clear hb6
      go_wp2_with fail
      go_meet
      case rel => exact ⟨rfl, HW6.out⟩
    · have hq2 : (q == 0) = false := by simp [hq]
      go_wp2_with fail
      go_meet
      case rel => exact ⟨rfl, HB1.out⟩
  case rest =>
  obtain ⟨rfl, hb2⟩ := hcut
  have HB2 := Lib.hid hb2
  clear hb2 HFA HFB HFX HSM HB1
  go_upto_region 4 with fail
  go_cut [11] from 17 (fun s11 wx => s11 = .bool (openB us) ∧ Below w.heap.size w wx)
  case first =>
    by_cases hz : us.length = 0
    · have e0 : (us.length : Int) = 0 := by omega
      have EO := Lib.hid (openB_nil hz)
      clear hz
      go_wp2_with fail
      go_meet
      case rel => exact ⟨by rw [EO.out], HB2.out⟩
    · obtain ⟨b1, o1, x, rfl, hxk, hc1⟩ := (HU.out.below HB2.out).at (k := us.length - 1) (by omega)
      have EO := Lib.hid (openB_at hxk)
      have hp : (0 : Int) < (us.length : Int) := by omega
      have e1 : (us.length : Int) - 1 = ((us.length - 1 : Nat) : Int) := by omega
      have e2 : (0 : Int) ≤ ((us.length - 1 : Nat) : Int) := by omega
      have e3 : ((us.length - 1 : Nat) : Int) < (us.length : Int) := by omega
      have hh := highB_of (x := x) _ _ rfl rfl
      generalize us.length - 1 = m at *
      by_cases p1 : 55296 ≤ x
      · by_cases p2 : x ≤ 56319
        · rw [decide_eq_true p1, decide_eq_true p2] at hh
          have HH := Lib.hid hh
          clear hxk hh
          go_wp2_with fail
          go_meet
          case rel => exact ⟨by rw [EO.out, HH.out]; rfl, HB2.out⟩
        · rw [decide_eq_true p1, decide_eq_false p2] at hh
          have HH := Lib.hid hh
          clear hxk hh
          go_wp2_with fail
          go_meet
          case rel => exact ⟨by rw [EO.out, HH.out]; rfl, HB2.out⟩
      · rw [decide_eq_false p1] at hh
        have HH := Lib.hid hh
        clear hxk hh
        go_wp2_with fail
        go_meet
        case rel => exact ⟨by rw [EO.out, HH.out]; rfl, HB2.out⟩
  case rest =>
  obtain ⟨rfl, hb3⟩ := hcut
  have HB3 := Lib.hid hb3
  clear hb3
  go_upto_region 5 with fail
  go_cut [12] from 17 (fun s12 wx => s12 = .bool (shutB vs) ∧ Below w.heap.size w wx)
  case first =>
    by_cases hz : vs.length = 0
    · have e0 : (vs.length : Int) = 0 := by omega
      have EO := Lib.hid (shutB_nil hz)
      clear hz
      go_wp2_with fail
      go_meet
      case rel => exact ⟨by rw [EO.out], HB3.out⟩
    · obtain ⟨b1, o1, x, rfl, hxk, hc1⟩ := (HV.out.below HB3.out).at (k := 0) (by omega)
      have EO := Lib.hid (shutB_at hxk)
      have hp : (0 : Int) < (vs.length : Int) := by omega
      have hc0 : wc.cell? ⟨b1, o1, none⟩ = some (.int .u16 x) := hc1
      have hh := lowB_of (x := x) _ _ rfl rfl
      by_cases p1 : 56320 ≤ x
      · by_cases p2 : x ≤ 57343
        · rw [decide_eq_true p1, decide_eq_true p2] at hh
          have HH := Lib.hid hh
          clear hxk hh hc1
          go_wp2_with fail
          go_meet
          case rel => exact ⟨by rw [EO.out, HH.out]; rfl, HB3.out⟩
        · rw [decide_eq_true p1, decide_eq_false p2] at hh
          have HH := Lib.hid hh
          clear hxk hh hc1
          go_wp2_with fail
          go_meet
          case rel => exact ⟨by rw [EO.out, HH.out]; rfl, HB3.out⟩
      · rw [decide_eq_false p1] at hh
        have HH := Lib.hid hh
        clear hxk hh hc1
        go_wp2_with fail
        go_meet
        case rel => exact ⟨by rw [EO.out, HH.out]; rfl, HB3.out⟩
  case rest =>
  obtain ⟨rfl, hb4⟩ := hcut
  have HB4 := Lib.hid hb4
  clear hb4 HB2 HB3
  go_upto_region 6 with fail
  go_cut [11, 80] from 17 (fun _ s80 wx => s80 = .bool (openB us && shutB vs) ∧ Below w.heap.size w wx)
  case first =>
    cases h1 : openB us
    · go_wp2_with fail
      go_meet
      case rel => exact ⟨by simp [h1], HB4.out⟩
    · go_wp2_with fail
      go_meet
      case rel => exact ⟨by simp [h1], HB4.out⟩
  case rest =>
  obtain ⟨rfl, hb5⟩ := hcut
  have HB5 := Lib.hid hb5
  clear hb5 HB4
  cases he : openB us && shutB vs with
  | true =>
    go_wp2_with (go_at_call 20; refine (awake_any _).mono ?_; rintro e w13 ⟨rfl, hb13⟩)
    go_ret
    exact ⟨rfl, after HB5.out hb13⟩
  | false =>
    go_wp2_with (at_builtin; first
      | (refine wpList_app rfl _ _ 31 31 rfl 22 i0 (.int .u16 0) 1 2 Try.underlying31 hi hz0 hz1 hz2 rfl (by simp [Value.cells, Value.oneCell']) wc.heap.size _ _ _ _ rfl (Own.nil _ _ _) _ _ _ rfl (Src.ofCells Try.underlying31 _ _ _ _ (by simp) (HU.out.below HB5.out) (ints_one _ _) (by decide)) (by simp only [maxLen]; omega) (by omega) (Nat.le_refl _) ?_; intro a1 c1 w1 hown1 hap1; rw [Nat.zero_add, List.nil_append] at hown1; have HBa := Lib.hid (hap1.below (Own.nil wc wc.heap.size 1) (Nat.le_refl _)); clear hap1)
      | (refine wpList_app rfl _ _ 31 31 rfl 22 i0 (.int .u16 0) 1 2 Try.underlying31 hi hz0 hz1 hz2 rfl (by simp [Value.cells, Value.oneCell']) wc.heap.size _ _ _ _ rfl hown1 _ _ _ rfl (Src.ofCells Try.underlying31 _ _ _ _ (by simp) (HV.out.below (after HB5.out HBa.out)) (ints_one _ _) (by decide)) (by simp only [maxLen]; omega) (by omega) HBa.out.size ?_; intro a2 c2 w2 hown2 hap2; have HBb := Lib.hid (HBa.out.trans (hap2.below hown1 HBa.out.size)); have HO2 := Lib.hid hown2; clear hown2 hap2 hown1))
    have cx := HO2.out.toCells
    rw [← List.map_append] at cx
    have CX := Lib.hid cx
    have HE := Lib.hid he
    clear cx he
    refine (HRX.out HE.out w2 a2 c2 CX.out).mono ?_
    rintro e w3 ⟨a3, c3, rfl, hown3, hb3⟩
    have HO3 := Lib.hid hown3
    have HB3 := Lib.hid (after HBb.out hb3)
    clear hown3 hb3 HRX CX
    go_wp2_with fail
    refine (HRU.out w3 ua uc (HU.out.below (after HB5.out HB3.out))).mono ?_
    rintro e w4 ⟨a4, c4, rfl, hown4, hb4⟩
    have HO4 := Lib.hid hown4
    have HB4 := Lib.hid hb4
    clear hown4 hb4 HRU
    go_wp2_with fail
    refine (HRV.out w4 va vc (HV.out.below (after HB5.out (after HB3.out HB4.out)))).mono ?_
    rintro e w5 ⟨a5, c5, rfl, hown5, hb5⟩
    have HO5 := Lib.hid hown5
    have HB6 := Lib.hid hb5
    have HO4b := Lib.hid (HO4.out.below hb5)
    clear hown5 hb5 HRV
    go_wp2_with (at_builtin; refine wpList_app rfl _ _ 30 30 rfl 21 i1 (.int .i32 0) 1 4 Try.underlying30 hi1 hy0 hy1 hy2 rfl (by simp [Value.cells, Value.oneCell']) w3.heap.size _ _ _ _ rfl HO4b.out _ _ _ rfl (Src.ofCells Try.underlying30 _ _ _ _ (by simp) HO5.out.toCells (ints_one _ _) (by decide)) (by simp only [maxLen]; omega) (by omega) (Nat.le_trans HB4.out.size HB6.out.size) ?_; intro a6 c6 w6 hown6 hap6; have HB7 := Lib.hid ((after HB4.out HB6.out).trans (hap6.below HO4b.out (Nat.le_trans HB4.out.size HB6.out.size))); have HO6 := Lib.hid hown6; clear hown6 hap6)
    have cy := HO6.out.toCells
    rw [← List.map_append] at cy
    have CY := Lib.hid cy
    have CX := Lib.hid (HO3.out.below HB7.out).toCells
    have HWT := Lib.hid (after HB5.out (after HB3.out HB7.out))
    clear cy
    go_loopw [16] (fun i wr => ∃ k : Nat, k ≤ P.length + Q.length ∧ i = .int .i64 k ∧ Below w6.heap.size w6 wr) (fun i _ => P.length + Q.length - (intOf i).toNat)
    case atStart => exact ⟨0, Nat.zero_le _, rfl, Below.refl _ _⟩
    case round =>
      obtain ⟨k, hk, rfl, hb⟩ := hrel
      have HB := Lib.hid hb
      clear hb
      by_cases hlt : k < P.length + Q.length
      · obtain ⟨b1, o1, x, rfl, hxk, hc1⟩ := (CX.out.below HB.out).at (k := k) (by rw [List.length_append]; exact hlt)
        obtain ⟨b2, o2, y, rfl, hyk, hc2⟩ := (CY.out.below HB.out).at (k := k) (by rw [List.length_append]; exact hlt)
        obtain rfl : x = y := by rw [hxk] at hyk; simpa using hyk
        clear hxk hyk
        have h0 : (0 : Int) ≤ (k : Int) := by omega
        have h1 : (k : Int) < ((P.length + Q.length : Nat) : Int) := by omega
        have h2 : (k : Int) < (P.length : Int) + (Q.length : Int) := by omega
        go_wp2
        go_quiet (fail)
        go_wp2
        go_roundw
        case rel => exact ⟨k + 1, by omega, by go_num, below_drewN HB.out _⟩
        case measure => simp [intOf]; omega
      · go_wp2_with (go_at_call 20; refine (awake_any _).mono ?_; rintro e w13 ⟨rfl, hb13⟩)
        go_ret
        exact ⟨rfl, after (after HWT.out HB.out) hb13⟩

end Go.Proofs.Ytmdcbpdmkonmlaa
