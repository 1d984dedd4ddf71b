/-
  The walk of the law WideBack.
-/
import Derived.Test.YtmdcbpdmkonmlaaBackM
import Derived.Test.YtmdcbpdmkonmlaaSeam
import Derived.Deep.RegionHeld3
import Derived.Test.YtmdcbpdmkonmlaaGo
namespace Go.Proofs.Ytmdcbpdmkonmlaa
open Go.RowKit

theorem enc_le (r : Int) : (Utf8.encode r).size ≤ 4 := by
  unfold Utf8.encode
  dsimp only
  generalize (if Utf8.valid r = true then r.toNat else Utf8.runeError) = c
  split
  · show 1 ≤ 4; omega
  · split
    · show 2 ≤ 4; omega
    · split
      · show 3 ≤ 4; omega
      · show 4 ≤ 4; omega
theorem runesBytes_le (rs : List Int) : (runesBytes rs).size ≤ 4 * rs.length := by
  induction rs with
  | nil => exact Nat.zero_le _
  | cons r rs ih =>
    rw [runesBytes_cons, ByteArray.size_append, List.length_cons]
    have := enc_le r
    omega

section
variable {P : Program} {w : World}
/-- '[]rune(s)', in the walk, behind a guard that holds. -/
theorem wpList_runesG {ops : Array Oper} {rest : List Oper} {o : Oper} {act : Act} {Q : Exit → Act → World → Prop} (hgd : Region.wanted o (yielded ops act.tmps) = true) (x : Operand) (src dst e : TypeId) (ho : o.op = .convert src dst x)
    (hs : P.underlying src = some .string) (hd : P.underlying dst = some (.slice e)) (he : P.underlying e = some (.int .i32)) (s : ByteArray) (hx : act.eval x = .string s) (hmax : s.size ≤ 70368744177664)
    (h : ∀ g c w', Cells w' (some ⟨g, 0, none⟩) ((textRunes s).map (Value.int .i32)) → Below w.heap.size w w' → wpList P ops Q rest (act.put o.dst (.slice (some ⟨g, 0, none⟩) (textRunes s).length c)) w') : wpList P ops Q (o :: rest) act w := by
  have hle := textRunes_le s
  have hsz : (Conv.runesFrom s s.size 0 #[]).size = (textRunes s).length := by rw [runesFrom_text]; simp
  have hr := run_runes_of_string (P := P) w src dst e s hs hd he (by rw [hsz]; omega)
  rw [hsz, runesFrom_text] at hr
  refine wpList_step fun _ hK => ?_
  rw [if_pos hgd]
  unfold Oper.wp execOp
  simp only [ho, hx, Sem.run_bind, Sem.run_pure, hr, Result.andThen_ok]
  refine hK _ _ (h _ _ _ ?_ (((Below.refl _ _).drew).alloc (by simp) _))
  intro _
  refine ⟨w.heap.size, 0, rfl, fun j u hu => ?_⟩
  rw [Nat.zero_add]
  have hc := World.cell?_alloc_new w.drew (((textRunes s).map (Value.int .i32)).toArray ++ Array.replicate (grownCap w (textRunes s).length 0 e - (textRunes s).length) (.int .i32 0)) e j
  refine hc.trans ?_
  rw [Array.getElem?_append_left (by
    have := (List.getElem?_eq_some_iff.1 hu).1
    simpa using this)]
  simpa using hu

/-- 'string(l)', in the walk, behind a guard that holds. -/
theorem wpList_textG {ops : Array Oper} {rest : List Oper} {o : Oper} {act : Act} {Q : Exit → Act → World → Prop} (hgd : Region.wanted o (yielded ops act.tmps) = true) (x : Operand) (src dst e : TypeId) (ho : o.op = .convert src dst x)
    (hs : P.underlying src = some (.slice e)) (he : P.underlying e = some (.int .i32)) (hd : P.underlying dst = some .string) (a : Option Addr) (n c : Nat) (l : List Int) (hx : act.eval x = .slice a n c) (hl : l.length = n) (hc : Cells w a (l.map (Value.int .i32)))
    (h : wpList P ops Q rest (act.put o.dst (.string (runesBytes l))) w) : wpList P ops Q (o :: rest) act w := by
  have hr := run_text (P := P) (w := w) src dst e hs he hd a n c l hl hc
  refine wpList_step fun _ hK => ?_
  rw [if_pos hgd]
  unfold Oper.wp execOp
  simp only [ho, hx, Sem.run_bind, Sem.run_pure, hr, Result.andThen_ok]
  exact hK _ _ h
end

set_option maxHeartbeats 1000000 in
/-- utf.Mend. -/
theorem mendS_any (w : World) (s : ByteArray) (hs : s.size ≤ 17592186044416) : Calls Try.prog 33 #[.string s] w fun e w' => e = .returned (.string (runesBytes (textRunes s))) ∧ Below w.heap.size w w' := by
  go_enter Try.func33, Try.ntmps33
  go_wp2_with (first
    | (with_reducible refine wpList_runesG (by simp [Region.wanted]) _ 9 30 21 rfl Try.underlying9 Try.underlying30 Try.underlying21 s rfl (by omega) ?_; intro g1 c1 w1 hc1 hb1)
    | (with_reducible refine wpList_textG (by simp [Region.wanted]) _ 30 9 21 rfl Try.underlying30 Try.underlying21 Try.underlying9 (some ⟨g1, 0, none⟩) (textRunes s).length c1 (textRunes s) rfl rfl hc1 ?_))
  go_ret
  exact ⟨rfl, hb1⟩

theorem sur_of {u : Int} (h : surB u = true) : 55296 ≤ u ∧ u ≤ 57343 := by
  unfold surB at h
  cases hh : highB u
  · cases hl : lowB u
    · simp [hh, hl] at h
    · have := low_of hl; omega
  · have := high_of hh; omega

set_option maxRecDepth 20000 in
set_option maxHeartbeats 8000000 in
theorem back_walk (w : World) (a : Option Addr) (c : Nat) (rs : List Int) (hle : rs.length ≤ c) (hc : c ≤ 1048576) (hr : Cells w a (rs.map (Value.int .i32))) (hwf : ∀ x ∈ rs, (Lit.int .i32 x).wf = true) (ua : Option Addr) (uc : Nat) (us : List Int) (hule : us.length ≤ uc) (huc : uc ≤ 1048576) (hur : Cells w ua (us.map (Value.int .u16))) (huwf : ∀ x ∈ us, (Lit.int .u16 x).wf = true) (s : ByteArray) (hs : s.size ≤ 1048576) :
    Calls Try.prog 7 #[.slice a rs.length c, .slice ua us.length uc, .string s] w fun e w' => e = .returned (.bool true) ∧ Below w.heap.size w w' := by
  have hu := u16_of huwf
  have hn : rs.length ≤ 1048576 := by omega
  have hun : us.length ≤ 1048576 := by omega
  have lU := unitsAll_le rs
  have F1 := fun W x d h => from_any W x d rs (by omega) h
  have R1 : ∀ (W : World) (x : Option Addr) (d : Nat), Cells W x ((unitsAll rs).map (Value.int .u16)) → Calls Try.prog 30 #[.slice x (unitsAll rs).length d] W (fun e w' => ∃ y e', e = .returned (.slice y rs.length e') ∧ Own w' W.heap.size 1 y rs.length e' ((rs.map mendR).map (Value.int .i32)) ∧ Below W.heap.size W w') := fun W x d h => by
    have h2 := runes_any W x d (unitsAll rs) (by omega) h (units_ok rs)
    rw [runes_units, List.length_map] at h2
    exact h2
  generalize unitsAll rs = U at *
  have HF1 := Lib.hid F1
  have HR1 := Lib.hid R1
  have lP := runesOf_le us
  have RU := fun W x d h => runes_any W x d us (by omega) h hu
  have lV := unitsAll_le (runesOf us)
  have FP := fun W x d h => from_any W x d (runesOf us) (by omega) h
  have CU := fun W x d h => check_any W x d us (by omega) h hu
  have TU := fun W x d h => text_any W x d us (by omega) h hu
  have lt : (textOf us).size ≤ 4194304 := by have := runesBytes_le (runesOf us); unfold textOf; omega
  have lZ := unitsAll_le (textRunes (textOf us))
  have lz := textRunes_le (textOf us)
  have FT := fun W => fromText_any W (textOf us) (by omega)
  have CV : ∀ (W : World) (x : Option Addr) (d : Nat), Cells W x ((unitsAll (runesOf us)).map (Value.int .u16)) → Calls Try.prog 31 #[.slice x (unitsAll (runesOf us)).length d] W (fun e w' => e = .returned (.tuple #[.int .i64 0, .int .i64 0]) ∧ Below W.heap.size W w') := fun W x d h => by
    have h2 := check_any W x d (unitsAll (runesOf us)) (by omega) h (units_ok _)
    rw [check_ok (okU_units _)] at h2
    exact h2
  have hcase : (checkOf us = (0, 0) ∧ unitsAll (runesOf us) = us ∧ unitsAll (textRunes (textOf us)) = us) ∨ ∃ (k : Nat) (q : Int), checkOf us = ((k : Int), q) ∧ q ≠ 0 ∧ k < us.length ∧ surB (us[k]?.getD 0) = true ∧ unitsAll (runesOf us) ≠ us := by
    cases hk : okU us
    · obtain ⟨k, q, h1, h2, h3, h4⟩ := check_bad hk
      exact .inr ⟨k, q, h1, h2, h3, h4, again_ne hk⟩
    · exact .inl ⟨check_ok hk, units_runes us hu hk, text_units us hu hk⟩
  generalize checkOf us = C at *
  obtain ⟨p, q⟩ := C
  generalize unitsAll (runesOf us) = V at *
  generalize runesOf us = P at *
  generalize unitsAll (textRunes (textOf us)) = Z at *
  generalize textOf us = t at *
  have hVl : V.length ≤ 2097152 := by omega
  have hZl : Z.length ≤ 8388608 := by omega
  have lT := unitsAll_le (textRunes s)
  have lS := textRunes_le s
  have FS := fun W => fromText_any W s (by omega)
  have TT : ∀ (W : World) (x : Option Addr) (d : Nat), Cells W x ((unitsAll (textRunes s)).map (Value.int .u16)) → Calls Try.prog 32 #[.slice x (unitsAll (textRunes s)).length d] W (fun e w' => e = .returned (.string (runesBytes (textRunes s))) ∧ Below W.heap.size W w') := fun W x d h => by
    have h2 := text_any W x d (unitsAll (textRunes s)) (by omega) h (units_ok _)
    rw [text_back] at h2
    exact h2
  have MD := fun W => mendS_any W s (by omega)
  generalize unitsAll (textRunes s) = T at *
  have HRU := Lib.hid RU
  have HFP := Lib.hid FP
  have HCU := Lib.hid CU
  have HTU := Lib.hid TU
  have HFT := Lib.hid FT
  have HCV := Lib.hid CV
  have HCASE := Lib.hid hcase
  have HFS := Lib.hid FS
  have HTT := Lib.hid TT
  have HMD := Lib.hid MD
  have HR := Lib.hid hr
  have HU := Lib.hid hur
  have HS := Lib.hid hs
  clear hu huwf hwf hule hle hc huc hr hur F1 R1 RU FP CU TU FT CV hcase FS TT MD lU lP lV lt lZ lz lT lS hs
  go_enter Try.func7, Try.ntmps7
  go_wp2_with fail
  refine (HF1.out w a c HR.out).mono ?_
  rintro e w1 ⟨a1, n1, c1, rfl, hown1, hb1⟩
  obtain rfl := ownlen hown1
  have HO1 := Lib.hid hown1.toCells
  have HB1 := Lib.hid hb1
  clear hown1 hb1
  go_wp2_with fail
  refine (HR1.out w1 a1 c1 HO1.out).mono ?_
  rintro e w2 ⟨a2, c2, rfl, hown2, hb2⟩
  have HY := Lib.hid hown2.toCells
  have HB2 := Lib.hid (after HB1.out hb2)
  clear hown2 hb2 HO1 HB1 HF1 HR1
  go_wp2_with fail
  go_loopw [8] (fun i wr => ∃ k : Nat, k ≤ rs.length ∧ i = .int .i64 k ∧ Below w2.heap.size w2 wr) (fun i _ => rs.length - (intOf i).toNat)
  case atStart => exact ⟨0, Nat.zero_le _, rfl, Below.refl _ _⟩
  case round =>
    obtain ⟨k, hk, rfl, hb⟩ := hrel
    have HB := Lib.hid hb
    clear hb
    by_cases hlt : k < rs.length
    · obtain ⟨b1, o1, r, rfl, hrk, hc1⟩ := (HR.out.below (after HB2.out HB.out)).at hlt
      obtain ⟨b2, o2, y, rfl, hyk, hc2⟩ := (HY.out.below HB.out).at (k := k) (by rw [List.length_map]; exact hlt)
      have hy : y = mendR r := by
        rw [List.getElem?_map, hrk] at hyk
        simpa using hyk.symm
      clear hrk hyk
      have h0 : (0 : Int) ≤ (k : Int) := by omega
      have h1 : (k : Int) < (rs.length : Int) := by omega
      by_cases c0 : r < 0
      · obtain rfl : y = 65533 := by rw [hy, mendR, if_neg]; unfold scalarB; simp; omega
        clear hy
        go_wp2
        go_roundw
        case rel => exact ⟨k + 1, by omega, by go_num, HB.out⟩
        case measure => simp [intOf]; omega
      · have c0' : (0 : Int) ≤ r := by omega
        clear c0
        by_cases c1 : 1114111 < r
        · obtain rfl : y = 65533 := by rw [hy, mendR, if_neg]; unfold scalarB; simp; omega
          clear hy
          go_wp2
          go_roundw
          case rel => exact ⟨k + 1, by omega, by go_num, HB.out⟩
          case measure => simp [intOf]; omega
        · have c1' : r ≤ 1114111 := by omega
          clear c1
          by_cases c2 : 55296 ≤ r
          · by_cases c3 : r < 57344
            · obtain rfl : y = 65533 := by rw [hy, mendR, if_neg]; unfold scalarB; simp; omega
              clear hy
              go_wp2
              go_roundw
              case rel => exact ⟨k + 1, by omega, by go_num, HB.out⟩
              case measure => simp [intOf]; omega
            · obtain rfl : y = r := by rw [hy, mendR, if_pos]; unfold scalarB; simp; omega
              clear hy
              go_wp2
              go_roundw
              case rel => exact ⟨k + 1, by omega, by go_num, HB.out⟩
              case measure => simp [intOf]; omega
          · obtain rfl : y = r := by rw [hy, mendR, if_pos]; unfold scalarB; simp; omega
            clear hy
            go_wp2
            go_roundw
            case rel => exact ⟨k + 1, by omega, by go_num, HB.out⟩
            case measure => simp [intOf]; omega
    · have HB3 := Lib.hid (after HB2.out HB.out)
      clear HB HB2 HY hk HR
      go_wp2_with fail
      refine (HRU.out wr ua uc (HU.out.below HB3.out)).mono ?_
      rintro e w3 ⟨a3, c3, rfl, hown3, hb3⟩
      have HO3 := Lib.hid hown3.toCells
      have HB4 := Lib.hid (after HB3.out hb3)
      clear hown3 hb3 HB3 HRU
      go_wp2_with fail
      refine (HFP.out w3 a3 c3 HO3.out).mono ?_
      rintro e w4 ⟨a4, n4, c4, rfl, hown4, hb4⟩
      obtain rfl := ownlen hown4
      have HV4 := Lib.hid hown4.toCells
      have HB5 := Lib.hid (after HB4.out hb4)
      clear hown4 hb4 HB4 HO3 HFP
      go_wp2_with fail
      refine (HCU.out w4 ua uc (HU.out.below HB5.out)).mono ?_
      rintro e w5 ⟨rfl, hb5⟩
      have HV5 := Lib.hid (HV4.out.below hb5)
      have HB6 := Lib.hid (after HB5.out hb5)
      clear hb5 HB5 HCU HV4
      go_upto_region 14 with fail
      go_cut [80] from 15 (fun s80 wx => s80 = .bool false ∧ Below w5.heap.size w5 wx)
      case first =>
        rcases HCASE.out with ⟨hpq, hV, hZ⟩ | ⟨k, q', hpq, hq, _⟩
        · obtain ⟨rfl, rfl⟩ := Prod.mk.inj hpq
          have sm1 := fun W x d h => same_any W x d V ua uc us (by omega) h
          rw [decide_eq_true hV] at sm1
          have SM1 := Lib.hid sm1
          have sm2 := fun W x d h => same_any W x d Z ua uc us (by omega) h
          rw [decide_eq_true hZ] at sm2
          have SM2 := Lib.hid sm2
          clear sm1 sm2 hV hZ hpq
          go_wp2_with fail
          refine (SM1.out w5 a4 c4 HV5.out (HU.out.below HB6.out)).mono ?_
          rintro e w6 ⟨rfl, hb6⟩
          have HB7 := Lib.hid hb6
          clear hb6
          go_wp2_with fail
          refine (HTU.out w6 ua uc (HU.out.below (after HB6.out HB7.out))).mono ?_
          rintro e w7 ⟨rfl, hb7⟩
          have HB8 := Lib.hid (after HB7.out hb7)
          clear hb7
          go_wp2_with fail
          refine (HFT.out w7).mono ?_
          rintro e w8 ⟨a8, c8, rfl, hown8, hb8⟩
          have HO8 := Lib.hid hown8.toCells
          have HB9 := Lib.hid (after HB8.out hb8)
          clear hown8 hb8
          go_wp2_with fail
          refine (SM2.out w8 a8 c8 HO8.out (HU.out.below (after HB6.out HB9.out))).mono ?_
          rintro e w9 ⟨rfl, hb9⟩
          have HB10 := Lib.hid (after HB9.out hb9)
          clear hb9
          go_wp2_with fail
          go_meet
          case rel => exact ⟨rfl, HB10.out⟩
        · obtain ⟨_, rfl⟩ := Prod.mk.inj hpq
          have hq2 : (q == 0) = false := by simp [hq]
          go_wp2_with fail
          go_meet
          case rel => exact ⟨rfl, Below.refl _ _⟩
      case rest =>
      obtain ⟨rfl, hb7⟩ := hcut
      have HV7 := Lib.hid (HV5.out.below hb7)
      have HB7 := Lib.hid (after HB6.out hb7)
      clear hb7 HB6 HV5 HTU HFT
      obtain ⟨wz, hwz⟩ : ∃ wz, wz = wc := ⟨_, rfl⟩
      subst hwz
      go_upto_region 16 with fail
      go_cut [111] from 15 (fun s111 wx => s111 = .bool false ∧ Below wz.heap.size wz wx)
      case first =>
        rcases HCASE.out with ⟨hpq, hrest⟩ | ⟨k, q', hpq, hq, hk, hsu, hne⟩
        · obtain ⟨rfl, rfl⟩ := Prod.mk.inj hpq
          clear hrest hpq
          go_wp2_with fail
          go_meet
          case rel => exact ⟨rfl, Below.refl _ _⟩
        · obtain ⟨rfl, rfl⟩ := Prod.mk.inj hpq
          have hq2 : (q == 0) = false := by simp [hq]
          have hq3 : (q != 0) = true := by simp [hq]
          obtain ⟨b1, o1, u, rfl, huk, hc1⟩ := (HU.out.below HB7.out).at hk
          obtain ⟨hs1, hs2⟩ := sur_of (by simpa [huk] using hsu)
          have sm1 := same_any wz a4 c4 V (some ⟨b1, o1, none⟩) uc us (by omega) HV7.out (HU.out.below HB7.out)
          rw [decide_eq_false hne] at sm1
          have SM1 := Lib.hid sm1
          have h0 : (0 : Int) ≤ (k : Int) := by omega
          have h1 : (k : Int) < (us.length : Int) := by omega
          clear hne hsu huk hpq sm1 hq
          go_wp2_with fail
          refine SM1.out.mono ?_
          rintro e w6 ⟨rfl, hb6⟩
          have HB8 := Lib.hid hb6
          clear hb6
          go_wp2_with fail
          go_meet
          case rel => exact ⟨by simp [show ¬ (k : Int) < 0 from by omega, show ¬ us.length ≤ k from by omega, show ¬ u < 55296 from by omega, show ¬ 57343 < u from by omega], HB8.out⟩
      case rest =>
      obtain ⟨rfl, hb8⟩ := hcut
      have HV8 := Lib.hid (HV7.out.below hb8)
      have HB8 := Lib.hid (after HB7.out hb8)
      clear hb8 HB7 HV7 HCASE
      go_wp2_with fail
      refine (HCV.out _ a4 c4 HV8.out).mono ?_
      rintro e w9 ⟨rfl, hb9⟩
      have HB9 := Lib.hid (after HB8.out hb9)
      clear hb9 HB8 HV8 HCV HU
      go_upto_region 19 with fail
      have t1 : ((0 : Int) == 0) = true := rfl
      obtain ⟨cf, nw, hcv, hnw⟩ := runes_fn s (by have := HS.out; omega)
      have hcb : ∀ W W', Below (nw W).heap.size (nw W) W' → (convert 30 9 (.slice (some ⟨W.heap.size, 0, none⟩) (textRunes s).length (cf W))).run Try.prog W' = .ok (.string (runesBytes (textRunes s))) W' := fun W W' hb =>
        run_text (P := Try.prog) (w := W') 30 9 21 Try.underlying30 Try.underlying21 Try.underlying9 (some ⟨W.heap.size, 0, none⟩) (textRunes s).length (cf W) (textRunes s) rfl ((hnw W).1.below hb)
      have HNW := Lib.hid hnw
      have HCB := Lib.hid hcb
      clear hnw hcb
      refine wp_region_noPanic ?_
      refine wp_region_held_drew (S := fun _ => True) (by kernel_rfl) ?_ (fun hHeld => ?_)
      · trivial
      have HBX := Lib.hid (HB9.out.drew)
      refine wpAnyH_take (i := 0) (oi := { dst := some 117, op := Op.move (Operand.tmp 13), type := 3, pos := "outright.go:74", after := #[], guard := none }) (v := ?_) rfl (by kernel_rfl) (by kernel_rfl) (by kernel_rfl) (fun _ _ _ h => h) (Or.inl ⟨by rfl, ?_⟩) (by assumption) ?_
      rotate_left
      · (intro w0 hSw; go_simp); try with_reducible rfl
      try simp only [Act.put, List.setIfInBounds_toArray, List.set_cons_zero, List.set_cons_succ]
      refine wpAnyH_take (i := 1) (oi := { dst := some 118, op := Op.binOp BinOp.eql 3 (Operand.tmp 117) (Operand.const (Value.int IntKind.i64 0)) 3, type := 4, pos := "outright.go:74", after := #[{ on := 0, ground := Ground.data }], guard := none }) (v := ?_) rfl (by kernel_rfl) (by kernel_rfl) (by kernel_rfl) (fun _ _ _ h => h) (Or.inl ⟨by rfl, ?_⟩) (by assumption) ?_
      rotate_left
      · (intro w0 hSw; go_simp); try with_reducible rfl
      try simp only [Act.put, List.setIfInBounds_toArray, List.set_cons_zero, List.set_cons_succ]
      refine wpAnyH_take (i := 2) (oi := { dst := some 119, op := Op.move (Operand.tmp 118), type := 4, pos := "outright.go:74", after := #[{ on := 1, ground := Ground.data }], guard := none }) (v := ?_) rfl (by kernel_rfl) (by kernel_rfl) (by kernel_rfl) (fun _ _ _ h => h) (Or.inl ⟨by rfl, ?_⟩) (by assumption) ?_
      rotate_left
      · (intro w0 hSw; go_simp); try with_reducible rfl
      try simp only [Act.put, List.setIfInBounds_toArray, List.set_cons_zero, List.set_cons_succ]
      refine wpAnyH_take (i := 3) (oi := { dst := some 120, op := Op.move (Operand.tmp 14), type := 40, pos := "outright.go:74", after := #[{ on := 2, ground := Ground.guard }], guard := some (2, true) }) (v := ?_) rfl (by kernel_rfl) (by kernel_rfl) (by kernel_rfl) (fun _ _ _ h => h) (Or.inl ⟨by rfl, ?_⟩) (by assumption) ?_
      rotate_left
      · (intro w0 hSw; go_simp); try with_reducible rfl
      try simp only [Act.put, List.setIfInBounds_toArray, List.set_cons_zero, List.set_cons_succ]
      refine wpAnyH_take (i := 4) (oi := { dst := some 121, op := Op.binOp BinOp.eql 40 (Operand.tmp 120) (Operand.const (Value.int IntKind.i64 0)) 40, type := 4, pos := "outright.go:74", after := #[{ on := 3, ground := Ground.data }, { on := 2, ground := Ground.guard }], guard := some (2, true) }) (v := ?_) rfl (by kernel_rfl) (by kernel_rfl) (by kernel_rfl) (fun _ _ _ h => h) (Or.inl ⟨by rfl, ?_⟩) (by assumption) ?_
      rotate_left
      · (intro w0 hSw; go_simp); try with_reducible rfl
      try simp only [Act.put, List.setIfInBounds_toArray, List.set_cons_zero, List.set_cons_succ]
      refine wpAnyH_take (i := 5) (oi := { dst := some 122, op := Op.pick (Operand.tmp 119) (Operand.tmp 121) (Operand.const (Value.bool false)), type := 4, pos := "outright.go:74", after := #[{ on := 2, ground := Ground.data }, { on := 4, ground := Ground.data }], guard := none }) (v := ?_) rfl (by kernel_rfl) (by kernel_rfl) (by kernel_rfl) (fun _ _ _ h => h) (Or.inl ⟨by rfl, ?_⟩) (by assumption) ?_
      rotate_left
      · (intro w0 hSw; go_simp); try with_reducible rfl
      try simp only [Act.put, List.setIfInBounds_toArray, List.set_cons_zero, List.set_cons_succ]
      refine wpAnyH_take (i := 6) (oi := { dst := some 123, op := Op.move (Operand.tmp 122), type := 4, pos := "outright.go:74", after := #[{ on := 5, ground := Ground.data }, { on := 2, ground := Ground.chain }], guard := none }) (v := ?_) rfl (by kernel_rfl) (by kernel_rfl) (by kernel_rfl) (fun _ _ _ h => h) (Or.inl ⟨by rfl, ?_⟩) (by assumption) ?_
      rotate_left
      · (intro w0 hSw; go_simp); try with_reducible rfl
      try simp only [Act.put, List.setIfInBounds_toArray, List.set_cons_zero, List.set_cons_succ]
      refine wpAnyH_take (i := 7) (oi := { dst := some 124, op := Op.move (Operand.tmp 2), type := 9, pos := "outright.go:74", after := #[{ on := 6, ground := Ground.guard }], guard := some (6, true) }) (v := ?_) rfl (by kernel_rfl) (by kernel_rfl) (by kernel_rfl) (fun _ _ _ h => h) (Or.inl ⟨by rfl, ?_⟩) (by assumption) ?_
      rotate_left
      · (intro w0 hSw; go_simp); try with_reducible rfl
      try simp only [Act.put, List.setIfInBounds_toArray, List.set_cons_zero, List.set_cons_succ]
      refine wpAnyH_take (i := 10) (oi := { dst := some 127, op := Op.move (Operand.tmp 2), type := 9, pos := "outright.go:74", after := #[{ on := 6, ground := Ground.guard }], guard := some (6, true) }) (v := ?_) rfl (by kernel_rfl) (by kernel_rfl) (by kernel_rfl) (fun _ _ _ h => h) (Or.inl ⟨by rfl, ?_⟩) (by assumption) ?_
      rotate_left
      · (intro w0 hSw; go_simp); try with_reducible rfl
      try simp only [Act.put, List.setIfInBounds_toArray, List.set_cons_zero, List.set_cons_succ]
      refine wpAnyH_ready (rs := [8]) (by kernel_rfl) (by simp) ?_
      refine AllReadyH.cons (o := { dst := some 125, op := Op.call { callee := Callee.value (Operand.func 25), args := #[Operand.tmp 124], argTypes := #[9] }, type := 31, pos := "outright.go:74", after := #[{ on := 7, ground := Ground.data }, { on := 6, ground := Ground.chain }, { on := 6, ground := Ground.guard }], guard := some (6, true) }) rfl (fun K hK => ?_) ?_
      rotate_left
      · exact AllReadyH.nil
      go_simp
      (refine (HFS.out _).mono ?_; rintro e wa ⟨aa, ca, rfl, hoa, hba⟩; have HOA := Lib.hid hoa.toCells; have HBX := Lib.hid (after HBX.out hba); clear hoa)
      clear hba
      go_wp2_with fail
      refine hK.out _ _ ?_ (fun hHeld => ?_)
      · trivial
      clear hK K
      try simp only [Act.put, List.setIfInBounds_toArray, List.set_cons_zero, List.set_cons_succ]
      refine wpAnyH_ready (rs := [9]) (by kernel_rfl) (by simp) ?_
      refine AllReadyH.cons (o := { dst := some 126, op := Op.call { callee := Callee.value (Operand.func 32), args := #[Operand.tmp 125], argTypes := #[31] }, type := 9, pos := "outright.go:74", after := #[{ on := 8, ground := Ground.data }, { on := 8, ground := Ground.chain }, { on := 6, ground := Ground.guard }], guard := some (6, true) }) rfl (fun K hK => ?_) ?_
      rotate_left
      · exact AllReadyH.nil
      go_simp
      (refine (HTT.out _ _ _ HOA.out).mono ?_; rintro e wb ⟨rfl, hbb⟩; have HBX := Lib.hid (after HBX.out hbb))
      clear hbb
      go_wp2_with fail
      refine hK.out _ _ ?_ (fun hHeld => ?_)
      · trivial
      clear hK K
      try simp only [Act.put, List.setIfInBounds_toArray, List.set_cons_zero, List.set_cons_succ]
      refine wpAnyH_ready (rs := [11]) (by kernel_rfl) (by simp) ?_
      refine AllReadyH.cons (o := { dst := some 128, op := Op.call { callee := Callee.value (Operand.func 33), args := #[Operand.tmp 127], argTypes := #[9] }, type := 9, pos := "outright.go:74", after := #[{ on := 10, ground := Ground.data }, { on := 9, ground := Ground.chain }, { on := 6, ground := Ground.guard }], guard := some (6, true) }) rfl (fun K hK => ?_) ?_
      rotate_left
      · exact AllReadyH.nil
      go_simp
      (refine (HMD.out _).mono ?_; rintro e wm ⟨rfl, hbm⟩; have HBX := Lib.hid (after HBX.out hbm))
      clear hbm
      go_wp2_with fail
      refine hK.out _ _ ?_ (fun hHeld => ?_)
      · trivial
      clear hK K
      try simp only [Act.put, List.setIfInBounds_toArray, List.set_cons_zero, List.set_cons_succ]
      refine wpAnyH_take (i := 12) (oi := { dst := some 129, op := Op.binOp BinOp.eql 9 (Operand.tmp 126) (Operand.tmp 128) 9, type := 4, pos := "outright.go:74", after := #[{ on := 9, ground := Ground.data }, { on := 11, ground := Ground.data }, { on := 6, ground := Ground.guard }], guard := some (6, true) }) (v := ?_) rfl (by kernel_rfl) (by kernel_rfl) (by kernel_rfl) (fun _ _ _ h => h) (Or.inl ⟨by rfl, ?_⟩) (by assumption) ?_
      rotate_left
      · (intro w0 hSw; go_simp); try with_reducible rfl
      try simp only [Act.put, List.setIfInBounds_toArray, List.set_cons_zero, List.set_cons_succ]
      refine wpAnyH_take (i := 13) (oi := { dst := some 130, op := Op.pick (Operand.tmp 123) (Operand.tmp 129) (Operand.const (Value.bool false)), type := 4, pos := "outright.go:74", after := #[{ on := 6, ground := Ground.data }, { on := 12, ground := Ground.data }], guard := none }) (v := ?_) rfl (by kernel_rfl) (by kernel_rfl) (by kernel_rfl) (fun _ _ _ h => h) (Or.inl ⟨by rfl, ?_⟩) (by assumption) ?_
      rotate_left
      · (intro w0 hSw; go_simp); try with_reducible rfl
      try simp only [Act.put, List.setIfInBounds_toArray, List.set_cons_zero, List.set_cons_succ]
      refine wpAnyH_take (i := 14) (oi := { dst := some 131, op := Op.move (Operand.tmp 130), type := 4, pos := "outright.go:74", after := #[{ on := 13, ground := Ground.data }, { on := 11, ground := Ground.chain }], guard := none }) (v := ?_) rfl (by kernel_rfl) (by kernel_rfl) (by kernel_rfl) (fun _ _ _ h => h) (Or.inl ⟨by rfl, ?_⟩) (by assumption) ?_
      rotate_left
      · (intro w0 hSw; go_simp); try with_reducible rfl
      try simp only [Act.put, List.setIfInBounds_toArray, List.set_cons_zero, List.set_cons_succ]
      refine wpAnyH_take (i := 15) (oi := { dst := some 132, op := Op.move (Operand.tmp 2), type := 9, pos := "outright.go:74", after := #[{ on := 14, ground := Ground.guard }], guard := some (14, true) }) (v := ?_) rfl (by kernel_rfl) (by kernel_rfl) (by kernel_rfl) (fun _ _ _ h => h) (Or.inl ⟨by rfl, ?_⟩) (by assumption) ?_
      rotate_left
      · (intro w0 hSw; go_simp); try with_reducible rfl
      try simp only [Act.put, List.setIfInBounds_toArray, List.set_cons_zero, List.set_cons_succ]
      refine wpAnyH_take (i := 18) (oi := { dst := some 135, op := Op.move (Operand.tmp 2), type := 9, pos := "outright.go:74", after := #[{ on := 14, ground := Ground.guard }], guard := some (14, true) }) (v := ?_) rfl (by kernel_rfl) (by kernel_rfl) (by kernel_rfl) (fun _ _ _ h => h) (Or.inl ⟨by rfl, ?_⟩) (by assumption) ?_
      rotate_left
      · (intro w0 hSw; go_simp); try with_reducible rfl
      try simp only [Act.put, List.setIfInBounds_toArray, List.set_cons_zero, List.set_cons_succ]
      refine wpAnyH_ready (rs := [16, 19]) (by kernel_rfl) (by simp) ?_
      refine AllReadyH.cons (o := { dst := some 133, op := Op.call { callee := Callee.value (Operand.func 25), args := #[Operand.tmp 132], argTypes := #[9] }, type := 31, pos := "outright.go:74", after := #[{ on := 15, ground := Ground.data }, { on := 14, ground := Ground.chain }, { on := 14, ground := Ground.guard }], guard := some (14, true) }) rfl (fun K hK => ?_) ?_
      · skip
        go_simp
        (refine (HFS.out _).mono ?_; rintro e wa2 ⟨aa, ca, rfl, hoa, hba⟩; have HOA := Lib.hid hoa.toCells; have HBX := Lib.hid (after HBX.out hba); clear hoa)
        clear hba
        go_wp2_with fail
        refine hK.out _ _ ?_ (fun hHeld => ?_)
        · trivial
        clear hK K
        try simp only [Act.put, List.setIfInBounds_toArray, List.set_cons_zero, List.set_cons_succ]
        refine wpAnyH_ready (rs := [17, 19]) (by kernel_rfl) (by simp) ?_
        refine AllReadyH.cons (o := { dst := some 134, op := Op.call { callee := Callee.value (Operand.func 32), args := #[Operand.tmp 133], argTypes := #[31] }, type := 9, pos := "outright.go:74", after := #[{ on := 16, ground := Ground.data }, { on := 16, ground := Ground.chain }, { on := 14, ground := Ground.guard }], guard := some (14, true) }) rfl (fun K hK => ?_) ?_
        · skip
          go_simp
          (refine (HTT.out _ _ _ HOA.out).mono ?_; rintro e wb2 ⟨rfl, hbb⟩; have HBX := Lib.hid (after HBX.out hbb))
          clear hbb
          go_wp2_with fail
          refine hK.out _ _ ?_ (fun hHeld => ?_)
          · trivial
          clear hK K
          try simp only [Act.put, List.setIfInBounds_toArray, List.set_cons_zero, List.set_cons_succ]
          refine wpAnyH_ready (rs := [19]) (by kernel_rfl) (by simp) ?_
          refine AllReadyH.cons (o := { dst := some 136, op := Op.convert 9 30 (Operand.tmp 135), type := 30, pos := "outright.go:74", after := #[{ on := 18, ground := Ground.data }, { on := 14, ground := Ground.guard }], guard := some (14, true) }) rfl (fun K hK => ?_) ?_
          rotate_left
          · exact AllReadyH.nil
          go_simp
          have HCW := Lib.hid (HNW.out wb2)
          have HBX := Lib.hid (after HBX.out HCW.out.2)
          have HCC := Lib.hid (Below.refl (nw wb2).heap.size (nw wb2))
          refine hK.out _ _ ?_ (fun hHeld => ?_)
          · trivial
          clear hK K
          try simp only [Act.put, List.setIfInBounds_toArray, List.set_cons_zero, List.set_cons_succ]
          refine wpAnyH_ready (rs := [20]) (by kernel_rfl) (by simp) ?_
          refine AllReadyH.cons (o := { dst := some 137, op := Op.convert 30 9 (Operand.tmp 136), type := 9, pos := "outright.go:74", after := #[{ on := 19, ground := Ground.data }, { on := 14, ground := Ground.guard }], guard := some (14, true) }) rfl (fun K hK => ?_) ?_
          rotate_left
          · exact AllReadyH.nil
          go_simp
          rw [HCB.out _ _ HCC.out]
          go_simp
          refine hK.out _ _ ?_ (fun hHeld => ?_)
          · trivial
          clear hK K
          try simp only [Act.put, List.setIfInBounds_toArray, List.set_cons_zero, List.set_cons_succ]
          refine wpAnyH_take (i := 21) (oi := { dst := some 138, op := Op.binOp BinOp.eql 9 (Operand.tmp 134) (Operand.tmp 137) 9, type := 4, pos := "outright.go:74", after := #[{ on := 17, ground := Ground.data }, { on := 20, ground := Ground.data }, { on := 14, ground := Ground.guard }], guard := some (14, true) }) (v := ?_) rfl (by kernel_rfl) (by kernel_rfl) (by kernel_rfl) (fun _ _ _ h => h) (Or.inl ⟨by rfl, ?_⟩) (by assumption) ?_
          rotate_left
          · (intro w0 hSw; go_simp); try with_reducible rfl
          try simp only [Act.put, List.setIfInBounds_toArray, List.set_cons_zero, List.set_cons_succ]
          refine wpAnyH_take (i := 22) (oi := { dst := some 139, op := Op.pick (Operand.tmp 131) (Operand.tmp 138) (Operand.const (Value.bool false)), type := 4, pos := "outright.go:74", after := #[{ on := 14, ground := Ground.data }, { on := 21, ground := Ground.data }], guard := none }) (v := ?_) rfl (by kernel_rfl) (by kernel_rfl) (by kernel_rfl) (fun _ _ _ h => h) (Or.inl ⟨by rfl, ?_⟩) (by assumption) ?_
          rotate_left
          · (intro w0 hSw; go_simp); try with_reducible rfl
          try simp only [Act.put, List.setIfInBounds_toArray, List.set_cons_zero, List.set_cons_succ]
          refine wpAnyH_take (i := 23) (oi := { dst := some 140, op := Op.move (Operand.tmp 139), type := 4, pos := "outright.go:74", after := #[{ on := 22, ground := Ground.data }, { on := 17, ground := Ground.chain }], guard := none }) (v := ?_) rfl (by kernel_rfl) (by kernel_rfl) (by kernel_rfl) (fun _ _ _ h => h) (Or.inl ⟨by rfl, ?_⟩) (by assumption) ?_
          rotate_left
          · (intro w0 hSw; go_simp); try with_reducible rfl
          try simp only [Act.put, List.setIfInBounds_toArray, List.set_cons_zero, List.set_cons_succ]
          refine wpAnyH_ready (rs := [24]) (by kernel_rfl) (by simp) ?_
          refine AllReadyH.cons (o := { dst := some 141, op := Op.call { callee := Callee.value (Operand.func 20), args := #[], argTypes := #[] }, type := 4, pos := "outright.go:74", after := #[{ on := 23, ground := Ground.chain }, { on := 23, ground := Ground.guard }], guard := some (23, true) }) rfl (fun K hK => ?_) ?_
          rotate_left
          · exact AllReadyH.nil
          go_simp
          (refine (awake_any _).mono ?_; rintro e wk ⟨rfl, hbk⟩; have HBX := Lib.hid (after HBX.out hbk))
          clear hbk
          go_wp2_with fail
          refine hK.out _ _ ?_ (fun hHeld => ?_)
          · trivial
          clear hK K
          try simp only [Act.put, List.setIfInBounds_toArray, List.set_cons_zero, List.set_cons_succ]
          refine wpAnyH_take (i := 25) (oi := { dst := some 142, op := Op.pick (Operand.tmp 140) (Operand.tmp 141) (Operand.const (Value.bool false)), type := 4, pos := "outright.go:74", after := #[{ on := 23, ground := Ground.data }, { on := 24, ground := Ground.data }], guard := none }) (v := ?_) rfl (by kernel_rfl) (by kernel_rfl) (by kernel_rfl) (fun _ _ _ h => h) (Or.inl ⟨by rfl, ?_⟩) (by assumption) ?_
          rotate_left
          · (intro w0 hSw; go_simp); try with_reducible rfl
          try simp only [Act.put, List.setIfInBounds_toArray, List.set_cons_zero, List.set_cons_succ]
          refine wpAnyH_take (i := 26) (oi := { dst := some 6, op := Op.assign (Operand.tmp 142), type := 4, pos := "outright.go:74", after := #[{ on := 25, ground := Ground.data }, { on := 24, ground := Ground.chain }, { on := 0, ground := Ground.phase }, { on := 1, ground := Ground.phase }, { on := 2, ground := Ground.phase }, { on := 3, ground := Ground.phase }, { on := 4, ground := Ground.phase }, { on := 5, ground := Ground.phase }, { on := 6, ground := Ground.phase }, { on := 7, ground := Ground.phase }, { on := 8, ground := Ground.phase }, { on := 9, ground := Ground.phase }, { on := 10, ground := Ground.phase }, { on := 11, ground := Ground.phase }, { on := 12, ground := Ground.phase }, { on := 13, ground := Ground.phase }, { on := 14, ground := Ground.phase }, { on := 15, ground := Ground.phase }, { on := 16, ground := Ground.phase }, { on := 17, ground := Ground.phase }, { on := 18, ground := Ground.phase }, { on := 19, ground := Ground.phase }, { on := 20, ground := Ground.phase }, { on := 21, ground := Ground.phase }, { on := 22, ground := Ground.phase }, { on := 23, ground := Ground.phase }, { on := 24, ground := Ground.phase }, { on := 25, ground := Ground.phase }], guard := none }) (v := ?_) rfl (by kernel_rfl) (by kernel_rfl) (by kernel_rfl) (fun _ _ _ h => h) (Or.inl ⟨by rfl, ?_⟩) (by assumption) ?_
          rotate_left
          · (intro w0 hSw; go_simp); try with_reducible rfl
          try simp only [Act.put, List.setIfInBounds_toArray, List.set_cons_zero, List.set_cons_succ]
          refine wpAnyH_done (by kernel_rfl) ?_ _
          refine NoPanic.normal ?_
          go_wp2_with fail
          go_ret
          exact ⟨rfl, HBX.out⟩
        refine AllReadyH.cons (o := { dst := some 136, op := Op.convert 9 30 (Operand.tmp 135), type := 30, pos := "outright.go:74", after := #[{ on := 18, ground := Ground.data }, { on := 14, ground := Ground.guard }], guard := some (14, true) }) rfl (fun K hK => ?_) ?_
        · skip
          go_simp
          have HCW := Lib.hid (HNW.out wa2)
          have HBX := Lib.hid (after HBX.out HCW.out.2)
          have HCC := Lib.hid (Below.refl (nw wa2).heap.size (nw wa2))
          have HOA := Lib.hid (HOA.out.below HCW.out.2)
          refine hK.out _ _ ?_ (fun hHeld => ?_)
          · trivial
          clear hK K
          try simp only [Act.put, List.setIfInBounds_toArray, List.set_cons_zero, List.set_cons_succ]
          refine wpAnyH_ready (rs := [17, 20]) (by kernel_rfl) (by simp) ?_
          refine AllReadyH.cons (o := { dst := some 134, op := Op.call { callee := Callee.value (Operand.func 32), args := #[Operand.tmp 133], argTypes := #[31] }, type := 9, pos := "outright.go:74", after := #[{ on := 16, ground := Ground.data }, { on := 16, ground := Ground.chain }, { on := 14, ground := Ground.guard }], guard := some (14, true) }) rfl (fun K hK => ?_) ?_
          · skip
            go_simp
            (refine (HTT.out _ _ _ HOA.out).mono ?_; rintro e wb2 ⟨rfl, hbb⟩; have HBX := Lib.hid (after HBX.out hbb))
            have HCC := Lib.hid (after HCC.out hbb)
            clear hbb
            go_wp2_with fail
            refine hK.out _ _ ?_ (fun hHeld => ?_)
            · trivial
            clear hK K
            try simp only [Act.put, List.setIfInBounds_toArray, List.set_cons_zero, List.set_cons_succ]
            refine wpAnyH_ready (rs := [20]) (by kernel_rfl) (by simp) ?_
            refine AllReadyH.cons (o := { dst := some 137, op := Op.convert 30 9 (Operand.tmp 136), type := 9, pos := "outright.go:74", after := #[{ on := 19, ground := Ground.data }, { on := 14, ground := Ground.guard }], guard := some (14, true) }) rfl (fun K hK => ?_) ?_
            rotate_left
            · exact AllReadyH.nil
            go_simp
            rw [HCB.out _ _ HCC.out]
            go_simp
            refine hK.out _ _ ?_ (fun hHeld => ?_)
            · trivial
            clear hK K
            try simp only [Act.put, List.setIfInBounds_toArray, List.set_cons_zero, List.set_cons_succ]
            refine wpAnyH_take (i := 21) (oi := { dst := some 138, op := Op.binOp BinOp.eql 9 (Operand.tmp 134) (Operand.tmp 137) 9, type := 4, pos := "outright.go:74", after := #[{ on := 17, ground := Ground.data }, { on := 20, ground := Ground.data }, { on := 14, ground := Ground.guard }], guard := some (14, true) }) (v := ?_) rfl (by kernel_rfl) (by kernel_rfl) (by kernel_rfl) (fun _ _ _ h => h) (Or.inl ⟨by rfl, ?_⟩) (by assumption) ?_
            rotate_left
            · (intro w0 hSw; go_simp); try with_reducible rfl
            try simp only [Act.put, List.setIfInBounds_toArray, List.set_cons_zero, List.set_cons_succ]
            refine wpAnyH_take (i := 22) (oi := { dst := some 139, op := Op.pick (Operand.tmp 131) (Operand.tmp 138) (Operand.const (Value.bool false)), type := 4, pos := "outright.go:74", after := #[{ on := 14, ground := Ground.data }, { on := 21, ground := Ground.data }], guard := none }) (v := ?_) rfl (by kernel_rfl) (by kernel_rfl) (by kernel_rfl) (fun _ _ _ h => h) (Or.inl ⟨by rfl, ?_⟩) (by assumption) ?_
            rotate_left
            · (intro w0 hSw; go_simp); try with_reducible rfl
            try simp only [Act.put, List.setIfInBounds_toArray, List.set_cons_zero, List.set_cons_succ]
            refine wpAnyH_take (i := 23) (oi := { dst := some 140, op := Op.move (Operand.tmp 139), type := 4, pos := "outright.go:74", after := #[{ on := 22, ground := Ground.data }, { on := 17, ground := Ground.chain }], guard := none }) (v := ?_) rfl (by kernel_rfl) (by kernel_rfl) (by kernel_rfl) (fun _ _ _ h => h) (Or.inl ⟨by rfl, ?_⟩) (by assumption) ?_
            rotate_left
            · (intro w0 hSw; go_simp); try with_reducible rfl
            try simp only [Act.put, List.setIfInBounds_toArray, List.set_cons_zero, List.set_cons_succ]
            refine wpAnyH_ready (rs := [24]) (by kernel_rfl) (by simp) ?_
            refine AllReadyH.cons (o := { dst := some 141, op := Op.call { callee := Callee.value (Operand.func 20), args := #[], argTypes := #[] }, type := 4, pos := "outright.go:74", after := #[{ on := 23, ground := Ground.chain }, { on := 23, ground := Ground.guard }], guard := some (23, true) }) rfl (fun K hK => ?_) ?_
            rotate_left
            · exact AllReadyH.nil
            go_simp
            (refine (awake_any _).mono ?_; rintro e wk ⟨rfl, hbk⟩; have HBX := Lib.hid (after HBX.out hbk))
            clear hbk
            go_wp2_with fail
            refine hK.out _ _ ?_ (fun hHeld => ?_)
            · trivial
            clear hK K
            try simp only [Act.put, List.setIfInBounds_toArray, List.set_cons_zero, List.set_cons_succ]
            refine wpAnyH_take (i := 25) (oi := { dst := some 142, op := Op.pick (Operand.tmp 140) (Operand.tmp 141) (Operand.const (Value.bool false)), type := 4, pos := "outright.go:74", after := #[{ on := 23, ground := Ground.data }, { on := 24, ground := Ground.data }], guard := none }) (v := ?_) rfl (by kernel_rfl) (by kernel_rfl) (by kernel_rfl) (fun _ _ _ h => h) (Or.inl ⟨by rfl, ?_⟩) (by assumption) ?_
            rotate_left
            · (intro w0 hSw; go_simp); try with_reducible rfl
            try simp only [Act.put, List.setIfInBounds_toArray, List.set_cons_zero, List.set_cons_succ]
            refine wpAnyH_take (i := 26) (oi := { dst := some 6, op := Op.assign (Operand.tmp 142), type := 4, pos := "outright.go:74", after := #[{ on := 25, ground := Ground.data }, { on := 24, ground := Ground.chain }, { on := 0, ground := Ground.phase }, { on := 1, ground := Ground.phase }, { on := 2, ground := Ground.phase }, { on := 3, ground := Ground.phase }, { on := 4, ground := Ground.phase }, { on := 5, ground := Ground.phase }, { on := 6, ground := Ground.phase }, { on := 7, ground := Ground.phase }, { on := 8, ground := Ground.phase }, { on := 9, ground := Ground.phase }, { on := 10, ground := Ground.phase }, { on := 11, ground := Ground.phase }, { on := 12, ground := Ground.phase }, { on := 13, ground := Ground.phase }, { on := 14, ground := Ground.phase }, { on := 15, ground := Ground.phase }, { on := 16, ground := Ground.phase }, { on := 17, ground := Ground.phase }, { on := 18, ground := Ground.phase }, { on := 19, ground := Ground.phase }, { on := 20, ground := Ground.phase }, { on := 21, ground := Ground.phase }, { on := 22, ground := Ground.phase }, { on := 23, ground := Ground.phase }, { on := 24, ground := Ground.phase }, { on := 25, ground := Ground.phase }], guard := none }) (v := ?_) rfl (by kernel_rfl) (by kernel_rfl) (by kernel_rfl) (fun _ _ _ h => h) (Or.inl ⟨by rfl, ?_⟩) (by assumption) ?_
            rotate_left
            · (intro w0 hSw; go_simp); try with_reducible rfl
            try simp only [Act.put, List.setIfInBounds_toArray, List.set_cons_zero, List.set_cons_succ]
            refine wpAnyH_done (by kernel_rfl) ?_ _
            refine NoPanic.normal ?_
            go_wp2_with fail
            go_ret
            exact ⟨rfl, HBX.out⟩
          refine AllReadyH.cons (o := { dst := some 137, op := Op.convert 30 9 (Operand.tmp 136), type := 9, pos := "outright.go:74", after := #[{ on := 19, ground := Ground.data }, { on := 14, ground := Ground.guard }], guard := some (14, true) }) rfl (fun K hK => ?_) ?_
          · skip
            go_simp
            rw [HCB.out _ _ HCC.out]
            go_simp
            refine hK.out _ _ ?_ (fun hHeld => ?_)
            · trivial
            clear hK K
            try simp only [Act.put, List.setIfInBounds_toArray, List.set_cons_zero, List.set_cons_succ]
            refine wpAnyH_ready (rs := [17]) (by kernel_rfl) (by simp) ?_
            refine AllReadyH.cons (o := { dst := some 134, op := Op.call { callee := Callee.value (Operand.func 32), args := #[Operand.tmp 133], argTypes := #[31] }, type := 9, pos := "outright.go:74", after := #[{ on := 16, ground := Ground.data }, { on := 16, ground := Ground.chain }, { on := 14, ground := Ground.guard }], guard := some (14, true) }) rfl (fun K hK => ?_) ?_
            rotate_left
            · exact AllReadyH.nil
            go_simp
            (refine (HTT.out _ _ _ HOA.out).mono ?_; rintro e wb2 ⟨rfl, hbb⟩; have HBX := Lib.hid (after HBX.out hbb))
            have HCC := Lib.hid (after HCC.out hbb)
            clear hbb
            go_wp2_with fail
            refine hK.out _ _ ?_ (fun hHeld => ?_)
            · trivial
            clear hK K
            try simp only [Act.put, List.setIfInBounds_toArray, List.set_cons_zero, List.set_cons_succ]
            refine wpAnyH_take (i := 21) (oi := { dst := some 138, op := Op.binOp BinOp.eql 9 (Operand.tmp 134) (Operand.tmp 137) 9, type := 4, pos := "outright.go:74", after := #[{ on := 17, ground := Ground.data }, { on := 20, ground := Ground.data }, { on := 14, ground := Ground.guard }], guard := some (14, true) }) (v := ?_) rfl (by kernel_rfl) (by kernel_rfl) (by kernel_rfl) (fun _ _ _ h => h) (Or.inl ⟨by rfl, ?_⟩) (by assumption) ?_
            rotate_left
            · (intro w0 hSw; go_simp); try with_reducible rfl
            try simp only [Act.put, List.setIfInBounds_toArray, List.set_cons_zero, List.set_cons_succ]
            refine wpAnyH_take (i := 22) (oi := { dst := some 139, op := Op.pick (Operand.tmp 131) (Operand.tmp 138) (Operand.const (Value.bool false)), type := 4, pos := "outright.go:74", after := #[{ on := 14, ground := Ground.data }, { on := 21, ground := Ground.data }], guard := none }) (v := ?_) rfl (by kernel_rfl) (by kernel_rfl) (by kernel_rfl) (fun _ _ _ h => h) (Or.inl ⟨by rfl, ?_⟩) (by assumption) ?_
            rotate_left
            · (intro w0 hSw; go_simp); try with_reducible rfl
            try simp only [Act.put, List.setIfInBounds_toArray, List.set_cons_zero, List.set_cons_succ]
            refine wpAnyH_take (i := 23) (oi := { dst := some 140, op := Op.move (Operand.tmp 139), type := 4, pos := "outright.go:74", after := #[{ on := 22, ground := Ground.data }, { on := 17, ground := Ground.chain }], guard := none }) (v := ?_) rfl (by kernel_rfl) (by kernel_rfl) (by kernel_rfl) (fun _ _ _ h => h) (Or.inl ⟨by rfl, ?_⟩) (by assumption) ?_
            rotate_left
            · (intro w0 hSw; go_simp); try with_reducible rfl
            try simp only [Act.put, List.setIfInBounds_toArray, List.set_cons_zero, List.set_cons_succ]
            refine wpAnyH_ready (rs := [24]) (by kernel_rfl) (by simp) ?_
            refine AllReadyH.cons (o := { dst := some 141, op := Op.call { callee := Callee.value (Operand.func 20), args := #[], argTypes := #[] }, type := 4, pos := "outright.go:74", after := #[{ on := 23, ground := Ground.chain }, { on := 23, ground := Ground.guard }], guard := some (23, true) }) rfl (fun K hK => ?_) ?_
            rotate_left
            · exact AllReadyH.nil
            go_simp
            (refine (awake_any _).mono ?_; rintro e wk ⟨rfl, hbk⟩; have HBX := Lib.hid (after HBX.out hbk))
            clear hbk
            go_wp2_with fail
            refine hK.out _ _ ?_ (fun hHeld => ?_)
            · trivial
            clear hK K
            try simp only [Act.put, List.setIfInBounds_toArray, List.set_cons_zero, List.set_cons_succ]
            refine wpAnyH_take (i := 25) (oi := { dst := some 142, op := Op.pick (Operand.tmp 140) (Operand.tmp 141) (Operand.const (Value.bool false)), type := 4, pos := "outright.go:74", after := #[{ on := 23, ground := Ground.data }, { on := 24, ground := Ground.data }], guard := none }) (v := ?_) rfl (by kernel_rfl) (by kernel_rfl) (by kernel_rfl) (fun _ _ _ h => h) (Or.inl ⟨by rfl, ?_⟩) (by assumption) ?_
            rotate_left
            · (intro w0 hSw; go_simp); try with_reducible rfl
            try simp only [Act.put, List.setIfInBounds_toArray, List.set_cons_zero, List.set_cons_succ]
            refine wpAnyH_take (i := 26) (oi := { dst := some 6, op := Op.assign (Operand.tmp 142), type := 4, pos := "outright.go:74", after := #[{ on := 25, ground := Ground.data }, { on := 24, ground := Ground.chain }, { on := 0, ground := Ground.phase }, { on := 1, ground := Ground.phase }, { on := 2, ground := Ground.phase }, { on := 3, ground := Ground.phase }, { on := 4, ground := Ground.phase }, { on := 5, ground := Ground.phase }, { on := 6, ground := Ground.phase }, { on := 7, ground := Ground.phase }, { on := 8, ground := Ground.phase }, { on := 9, ground := Ground.phase }, { on := 10, ground := Ground.phase }, { on := 11, ground := Ground.phase }, { on := 12, ground := Ground.phase }, { on := 13, ground := Ground.phase }, { on := 14, ground := Ground.phase }, { on := 15, ground := Ground.phase }, { on := 16, ground := Ground.phase }, { on := 17, ground := Ground.phase }, { on := 18, ground := Ground.phase }, { on := 19, ground := Ground.phase }, { on := 20, ground := Ground.phase }, { on := 21, ground := Ground.phase }, { on := 22, ground := Ground.phase }, { on := 23, ground := Ground.phase }, { on := 24, ground := Ground.phase }, { on := 25, ground := Ground.phase }], guard := none }) (v := ?_) rfl (by kernel_rfl) (by kernel_rfl) (by kernel_rfl) (fun _ _ _ h => h) (Or.inl ⟨by rfl, ?_⟩) (by assumption) ?_
            rotate_left
            · (intro w0 hSw; go_simp); try with_reducible rfl
            try simp only [Act.put, List.setIfInBounds_toArray, List.set_cons_zero, List.set_cons_succ]
            refine wpAnyH_done (by kernel_rfl) ?_ _
            refine NoPanic.normal ?_
            go_wp2_with fail
            go_ret
            exact ⟨rfl, HBX.out⟩
          exact AllReadyH.nil
        exact AllReadyH.nil
      refine AllReadyH.cons (o := { dst := some 136, op := Op.convert 9 30 (Operand.tmp 135), type := 30, pos := "outright.go:74", after := #[{ on := 18, ground := Ground.data }, { on := 14, ground := Ground.guard }], guard := some (14, true) }) rfl (fun K hK => ?_) ?_
      · skip
        go_simp
        have HCW := Lib.hid (HNW.out wm)
        have HBX := Lib.hid (after HBX.out HCW.out.2)
        have HCC := Lib.hid (Below.refl (nw wm).heap.size (nw wm))
        refine hK.out _ _ ?_ (fun hHeld => ?_)
        · trivial
        clear hK K
        try simp only [Act.put, List.setIfInBounds_toArray, List.set_cons_zero, List.set_cons_succ]
        refine wpAnyH_ready (rs := [16, 20]) (by kernel_rfl) (by simp) ?_
        refine AllReadyH.cons (o := { dst := some 133, op := Op.call { callee := Callee.value (Operand.func 25), args := #[Operand.tmp 132], argTypes := #[9] }, type := 31, pos := "outright.go:74", after := #[{ on := 15, ground := Ground.data }, { on := 14, ground := Ground.chain }, { on := 14, ground := Ground.guard }], guard := some (14, true) }) rfl (fun K hK => ?_) ?_
        · skip
          go_simp
          (refine (HFS.out _).mono ?_; rintro e wa2 ⟨aa, ca, rfl, hoa, hba⟩; have HOA := Lib.hid hoa.toCells; have HBX := Lib.hid (after HBX.out hba); clear hoa)
          have HCC := Lib.hid (after HCC.out hba)
          clear hba
          go_wp2_with fail
          refine hK.out _ _ ?_ (fun hHeld => ?_)
          · trivial
          clear hK K
          try simp only [Act.put, List.setIfInBounds_toArray, List.set_cons_zero, List.set_cons_succ]
          refine wpAnyH_ready (rs := [17, 20]) (by kernel_rfl) (by simp) ?_
          refine AllReadyH.cons (o := { dst := some 134, op := Op.call { callee := Callee.value (Operand.func 32), args := #[Operand.tmp 133], argTypes := #[31] }, type := 9, pos := "outright.go:74", after := #[{ on := 16, ground := Ground.data }, { on := 16, ground := Ground.chain }, { on := 14, ground := Ground.guard }], guard := some (14, true) }) rfl (fun K hK => ?_) ?_
          · skip
            go_simp
            (refine (HTT.out _ _ _ HOA.out).mono ?_; rintro e wb2 ⟨rfl, hbb⟩; have HBX := Lib.hid (after HBX.out hbb))
            have HCC := Lib.hid (after HCC.out hbb)
            clear hbb
            go_wp2_with fail
            refine hK.out _ _ ?_ (fun hHeld => ?_)
            · trivial
            clear hK K
            try simp only [Act.put, List.setIfInBounds_toArray, List.set_cons_zero, List.set_cons_succ]
            refine wpAnyH_ready (rs := [20]) (by kernel_rfl) (by simp) ?_
            refine AllReadyH.cons (o := { dst := some 137, op := Op.convert 30 9 (Operand.tmp 136), type := 9, pos := "outright.go:74", after := #[{ on := 19, ground := Ground.data }, { on := 14, ground := Ground.guard }], guard := some (14, true) }) rfl (fun K hK => ?_) ?_
            rotate_left
            · exact AllReadyH.nil
            go_simp
            rw [HCB.out _ _ HCC.out]
            go_simp
            refine hK.out _ _ ?_ (fun hHeld => ?_)
            · trivial
            clear hK K
            try simp only [Act.put, List.setIfInBounds_toArray, List.set_cons_zero, List.set_cons_succ]
            refine wpAnyH_take (i := 21) (oi := { dst := some 138, op := Op.binOp BinOp.eql 9 (Operand.tmp 134) (Operand.tmp 137) 9, type := 4, pos := "outright.go:74", after := #[{ on := 17, ground := Ground.data }, { on := 20, ground := Ground.data }, { on := 14, ground := Ground.guard }], guard := some (14, true) }) (v := ?_) rfl (by kernel_rfl) (by kernel_rfl) (by kernel_rfl) (fun _ _ _ h => h) (Or.inl ⟨by rfl, ?_⟩) (by assumption) ?_
            rotate_left
            · (intro w0 hSw; go_simp); try with_reducible rfl
            try simp only [Act.put, List.setIfInBounds_toArray, List.set_cons_zero, List.set_cons_succ]
            refine wpAnyH_take (i := 22) (oi := { dst := some 139, op := Op.pick (Operand.tmp 131) (Operand.tmp 138) (Operand.const (Value.bool false)), type := 4, pos := "outright.go:74", after := #[{ on := 14, ground := Ground.data }, { on := 21, ground := Ground.data }], guard := none }) (v := ?_) rfl (by kernel_rfl) (by kernel_rfl) (by kernel_rfl) (fun _ _ _ h => h) (Or.inl ⟨by rfl, ?_⟩) (by assumption) ?_
            rotate_left
            · (intro w0 hSw; go_simp); try with_reducible rfl
            try simp only [Act.put, List.setIfInBounds_toArray, List.set_cons_zero, List.set_cons_succ]
            refine wpAnyH_take (i := 23) (oi := { dst := some 140, op := Op.move (Operand.tmp 139), type := 4, pos := "outright.go:74", after := #[{ on := 22, ground := Ground.data }, { on := 17, ground := Ground.chain }], guard := none }) (v := ?_) rfl (by kernel_rfl) (by kernel_rfl) (by kernel_rfl) (fun _ _ _ h => h) (Or.inl ⟨by rfl, ?_⟩) (by assumption) ?_
            rotate_left
            · (intro w0 hSw; go_simp); try with_reducible rfl
            try simp only [Act.put, List.setIfInBounds_toArray, List.set_cons_zero, List.set_cons_succ]
            refine wpAnyH_ready (rs := [24]) (by kernel_rfl) (by simp) ?_
            refine AllReadyH.cons (o := { dst := some 141, op := Op.call { callee := Callee.value (Operand.func 20), args := #[], argTypes := #[] }, type := 4, pos := "outright.go:74", after := #[{ on := 23, ground := Ground.chain }, { on := 23, ground := Ground.guard }], guard := some (23, true) }) rfl (fun K hK => ?_) ?_
            rotate_left
            · exact AllReadyH.nil
            go_simp
            (refine (awake_any _).mono ?_; rintro e wk ⟨rfl, hbk⟩; have HBX := Lib.hid (after HBX.out hbk))
            clear hbk
            go_wp2_with fail
            refine hK.out _ _ ?_ (fun hHeld => ?_)
            · trivial
            clear hK K
            try simp only [Act.put, List.setIfInBounds_toArray, List.set_cons_zero, List.set_cons_succ]
            refine wpAnyH_take (i := 25) (oi := { dst := some 142, op := Op.pick (Operand.tmp 140) (Operand.tmp 141) (Operand.const (Value.bool false)), type := 4, pos := "outright.go:74", after := #[{ on := 23, ground := Ground.data }, { on := 24, ground := Ground.data }], guard := none }) (v := ?_) rfl (by kernel_rfl) (by kernel_rfl) (by kernel_rfl) (fun _ _ _ h => h) (Or.inl ⟨by rfl, ?_⟩) (by assumption) ?_
            rotate_left
            · (intro w0 hSw; go_simp); try with_reducible rfl
            try simp only [Act.put, List.setIfInBounds_toArray, List.set_cons_zero, List.set_cons_succ]
            refine wpAnyH_take (i := 26) (oi := { dst := some 6, op := Op.assign (Operand.tmp 142), type := 4, pos := "outright.go:74", after := #[{ on := 25, ground := Ground.data }, { on := 24, ground := Ground.chain }, { on := 0, ground := Ground.phase }, { on := 1, ground := Ground.phase }, { on := 2, ground := Ground.phase }, { on := 3, ground := Ground.phase }, { on := 4, ground := Ground.phase }, { on := 5, ground := Ground.phase }, { on := 6, ground := Ground.phase }, { on := 7, ground := Ground.phase }, { on := 8, ground := Ground.phase }, { on := 9, ground := Ground.phase }, { on := 10, ground := Ground.phase }, { on := 11, ground := Ground.phase }, { on := 12, ground := Ground.phase }, { on := 13, ground := Ground.phase }, { on := 14, ground := Ground.phase }, { on := 15, ground := Ground.phase }, { on := 16, ground := Ground.phase }, { on := 17, ground := Ground.phase }, { on := 18, ground := Ground.phase }, { on := 19, ground := Ground.phase }, { on := 20, ground := Ground.phase }, { on := 21, ground := Ground.phase }, { on := 22, ground := Ground.phase }, { on := 23, ground := Ground.phase }, { on := 24, ground := Ground.phase }, { on := 25, ground := Ground.phase }], guard := none }) (v := ?_) rfl (by kernel_rfl) (by kernel_rfl) (by kernel_rfl) (fun _ _ _ h => h) (Or.inl ⟨by rfl, ?_⟩) (by assumption) ?_
            rotate_left
            · (intro w0 hSw; go_simp); try with_reducible rfl
            try simp only [Act.put, List.setIfInBounds_toArray, List.set_cons_zero, List.set_cons_succ]
            refine wpAnyH_done (by kernel_rfl) ?_ _
            refine NoPanic.normal ?_
            go_wp2_with fail
            go_ret
            exact ⟨rfl, HBX.out⟩
          refine AllReadyH.cons (o := { dst := some 137, op := Op.convert 30 9 (Operand.tmp 136), type := 9, pos := "outright.go:74", after := #[{ on := 19, ground := Ground.data }, { on := 14, ground := Ground.guard }], guard := some (14, true) }) rfl (fun K hK => ?_) ?_
          · skip
            go_simp
            rw [HCB.out _ _ HCC.out]
            go_simp
            refine hK.out _ _ ?_ (fun hHeld => ?_)
            · trivial
            clear hK K
            try simp only [Act.put, List.setIfInBounds_toArray, List.set_cons_zero, List.set_cons_succ]
            refine wpAnyH_ready (rs := [17]) (by kernel_rfl) (by simp) ?_
            refine AllReadyH.cons (o := { dst := some 134, op := Op.call { callee := Callee.value (Operand.func 32), args := #[Operand.tmp 133], argTypes := #[31] }, type := 9, pos := "outright.go:74", after := #[{ on := 16, ground := Ground.data }, { on := 16, ground := Ground.chain }, { on := 14, ground := Ground.guard }], guard := some (14, true) }) rfl (fun K hK => ?_) ?_
            rotate_left
            · exact AllReadyH.nil
            go_simp
            (refine (HTT.out _ _ _ HOA.out).mono ?_; rintro e wb2 ⟨rfl, hbb⟩; have HBX := Lib.hid (after HBX.out hbb))
            have HCC := Lib.hid (after HCC.out hbb)
            clear hbb
            go_wp2_with fail
            refine hK.out _ _ ?_ (fun hHeld => ?_)
            · trivial
            clear hK K
            try simp only [Act.put, List.setIfInBounds_toArray, List.set_cons_zero, List.set_cons_succ]
            refine wpAnyH_take (i := 21) (oi := { dst := some 138, op := Op.binOp BinOp.eql 9 (Operand.tmp 134) (Operand.tmp 137) 9, type := 4, pos := "outright.go:74", after := #[{ on := 17, ground := Ground.data }, { on := 20, ground := Ground.data }, { on := 14, ground := Ground.guard }], guard := some (14, true) }) (v := ?_) rfl (by kernel_rfl) (by kernel_rfl) (by kernel_rfl) (fun _ _ _ h => h) (Or.inl ⟨by rfl, ?_⟩) (by assumption) ?_
            rotate_left
            · (intro w0 hSw; go_simp); try with_reducible rfl
            try simp only [Act.put, List.setIfInBounds_toArray, List.set_cons_zero, List.set_cons_succ]
            refine wpAnyH_take (i := 22) (oi := { dst := some 139, op := Op.pick (Operand.tmp 131) (Operand.tmp 138) (Operand.const (Value.bool false)), type := 4, pos := "outright.go:74", after := #[{ on := 14, ground := Ground.data }, { on := 21, ground := Ground.data }], guard := none }) (v := ?_) rfl (by kernel_rfl) (by kernel_rfl) (by kernel_rfl) (fun _ _ _ h => h) (Or.inl ⟨by rfl, ?_⟩) (by assumption) ?_
            rotate_left
            · (intro w0 hSw; go_simp); try with_reducible rfl
            try simp only [Act.put, List.setIfInBounds_toArray, List.set_cons_zero, List.set_cons_succ]
            refine wpAnyH_take (i := 23) (oi := { dst := some 140, op := Op.move (Operand.tmp 139), type := 4, pos := "outright.go:74", after := #[{ on := 22, ground := Ground.data }, { on := 17, ground := Ground.chain }], guard := none }) (v := ?_) rfl (by kernel_rfl) (by kernel_rfl) (by kernel_rfl) (fun _ _ _ h => h) (Or.inl ⟨by rfl, ?_⟩) (by assumption) ?_
            rotate_left
            · (intro w0 hSw; go_simp); try with_reducible rfl
            try simp only [Act.put, List.setIfInBounds_toArray, List.set_cons_zero, List.set_cons_succ]
            refine wpAnyH_ready (rs := [24]) (by kernel_rfl) (by simp) ?_
            refine AllReadyH.cons (o := { dst := some 141, op := Op.call { callee := Callee.value (Operand.func 20), args := #[], argTypes := #[] }, type := 4, pos := "outright.go:74", after := #[{ on := 23, ground := Ground.chain }, { on := 23, ground := Ground.guard }], guard := some (23, true) }) rfl (fun K hK => ?_) ?_
            rotate_left
            · exact AllReadyH.nil
            go_simp
            (refine (awake_any _).mono ?_; rintro e wk ⟨rfl, hbk⟩; have HBX := Lib.hid (after HBX.out hbk))
            clear hbk
            go_wp2_with fail
            refine hK.out _ _ ?_ (fun hHeld => ?_)
            · trivial
            clear hK K
            try simp only [Act.put, List.setIfInBounds_toArray, List.set_cons_zero, List.set_cons_succ]
            refine wpAnyH_take (i := 25) (oi := { dst := some 142, op := Op.pick (Operand.tmp 140) (Operand.tmp 141) (Operand.const (Value.bool false)), type := 4, pos := "outright.go:74", after := #[{ on := 23, ground := Ground.data }, { on := 24, ground := Ground.data }], guard := none }) (v := ?_) rfl (by kernel_rfl) (by kernel_rfl) (by kernel_rfl) (fun _ _ _ h => h) (Or.inl ⟨by rfl, ?_⟩) (by assumption) ?_
            rotate_left
            · (intro w0 hSw; go_simp); try with_reducible rfl
            try simp only [Act.put, List.setIfInBounds_toArray, List.set_cons_zero, List.set_cons_succ]
            refine wpAnyH_take (i := 26) (oi := { dst := some 6, op := Op.assign (Operand.tmp 142), type := 4, pos := "outright.go:74", after := #[{ on := 25, ground := Ground.data }, { on := 24, ground := Ground.chain }, { on := 0, ground := Ground.phase }, { on := 1, ground := Ground.phase }, { on := 2, ground := Ground.phase }, { on := 3, ground := Ground.phase }, { on := 4, ground := Ground.phase }, { on := 5, ground := Ground.phase }, { on := 6, ground := Ground.phase }, { on := 7, ground := Ground.phase }, { on := 8, ground := Ground.phase }, { on := 9, ground := Ground.phase }, { on := 10, ground := Ground.phase }, { on := 11, ground := Ground.phase }, { on := 12, ground := Ground.phase }, { on := 13, ground := Ground.phase }, { on := 14, ground := Ground.phase }, { on := 15, ground := Ground.phase }, { on := 16, ground := Ground.phase }, { on := 17, ground := Ground.phase }, { on := 18, ground := Ground.phase }, { on := 19, ground := Ground.phase }, { on := 20, ground := Ground.phase }, { on := 21, ground := Ground.phase }, { on := 22, ground := Ground.phase }, { on := 23, ground := Ground.phase }, { on := 24, ground := Ground.phase }, { on := 25, ground := Ground.phase }], guard := none }) (v := ?_) rfl (by kernel_rfl) (by kernel_rfl) (by kernel_rfl) (fun _ _ _ h => h) (Or.inl ⟨by rfl, ?_⟩) (by assumption) ?_
            rotate_left
            · (intro w0 hSw; go_simp); try with_reducible rfl
            try simp only [Act.put, List.setIfInBounds_toArray, List.set_cons_zero, List.set_cons_succ]
            refine wpAnyH_done (by kernel_rfl) ?_ _
            refine NoPanic.normal ?_
            go_wp2_with fail
            go_ret
            exact ⟨rfl, HBX.out⟩
          exact AllReadyH.nil
        refine AllReadyH.cons (o := { dst := some 137, op := Op.convert 30 9 (Operand.tmp 136), type := 9, pos := "outright.go:74", after := #[{ on := 19, ground := Ground.data }, { on := 14, ground := Ground.guard }], guard := some (14, true) }) rfl (fun K hK => ?_) ?_
        · skip
          go_simp
          rw [HCB.out _ _ HCC.out]
          go_simp
          refine hK.out _ _ ?_ (fun hHeld => ?_)
          · trivial
          clear hK K
          try simp only [Act.put, List.setIfInBounds_toArray, List.set_cons_zero, List.set_cons_succ]
          refine wpAnyH_ready (rs := [16]) (by kernel_rfl) (by simp) ?_
          refine AllReadyH.cons (o := { dst := some 133, op := Op.call { callee := Callee.value (Operand.func 25), args := #[Operand.tmp 132], argTypes := #[9] }, type := 31, pos := "outright.go:74", after := #[{ on := 15, ground := Ground.data }, { on := 14, ground := Ground.chain }, { on := 14, ground := Ground.guard }], guard := some (14, true) }) rfl (fun K hK => ?_) ?_
          rotate_left
          · exact AllReadyH.nil
          go_simp
          (refine (HFS.out _).mono ?_; rintro e wa2 ⟨aa, ca, rfl, hoa, hba⟩; have HOA := Lib.hid hoa.toCells; have HBX := Lib.hid (after HBX.out hba); clear hoa)
          have HCC := Lib.hid (after HCC.out hba)
          clear hba
          go_wp2_with fail
          refine hK.out _ _ ?_ (fun hHeld => ?_)
          · trivial
          clear hK K
          try simp only [Act.put, List.setIfInBounds_toArray, List.set_cons_zero, List.set_cons_succ]
          refine wpAnyH_ready (rs := [17]) (by kernel_rfl) (by simp) ?_
          refine AllReadyH.cons (o := { dst := some 134, op := Op.call { callee := Callee.value (Operand.func 32), args := #[Operand.tmp 133], argTypes := #[31] }, type := 9, pos := "outright.go:74", after := #[{ on := 16, ground := Ground.data }, { on := 16, ground := Ground.chain }, { on := 14, ground := Ground.guard }], guard := some (14, true) }) rfl (fun K hK => ?_) ?_
          rotate_left
          · exact AllReadyH.nil
          go_simp
          (refine (HTT.out _ _ _ HOA.out).mono ?_; rintro e wb2 ⟨rfl, hbb⟩; have HBX := Lib.hid (after HBX.out hbb))
          have HCC := Lib.hid (after HCC.out hbb)
          clear hbb
          go_wp2_with fail
          refine hK.out _ _ ?_ (fun hHeld => ?_)
          · trivial
          clear hK K
          try simp only [Act.put, List.setIfInBounds_toArray, List.set_cons_zero, List.set_cons_succ]
          refine wpAnyH_take (i := 21) (oi := { dst := some 138, op := Op.binOp BinOp.eql 9 (Operand.tmp 134) (Operand.tmp 137) 9, type := 4, pos := "outright.go:74", after := #[{ on := 17, ground := Ground.data }, { on := 20, ground := Ground.data }, { on := 14, ground := Ground.guard }], guard := some (14, true) }) (v := ?_) rfl (by kernel_rfl) (by kernel_rfl) (by kernel_rfl) (fun _ _ _ h => h) (Or.inl ⟨by rfl, ?_⟩) (by assumption) ?_
          rotate_left
          · (intro w0 hSw; go_simp); try with_reducible rfl
          try simp only [Act.put, List.setIfInBounds_toArray, List.set_cons_zero, List.set_cons_succ]
          refine wpAnyH_take (i := 22) (oi := { dst := some 139, op := Op.pick (Operand.tmp 131) (Operand.tmp 138) (Operand.const (Value.bool false)), type := 4, pos := "outright.go:74", after := #[{ on := 14, ground := Ground.data }, { on := 21, ground := Ground.data }], guard := none }) (v := ?_) rfl (by kernel_rfl) (by kernel_rfl) (by kernel_rfl) (fun _ _ _ h => h) (Or.inl ⟨by rfl, ?_⟩) (by assumption) ?_
          rotate_left
          · (intro w0 hSw; go_simp); try with_reducible rfl
          try simp only [Act.put, List.setIfInBounds_toArray, List.set_cons_zero, List.set_cons_succ]
          refine wpAnyH_take (i := 23) (oi := { dst := some 140, op := Op.move (Operand.tmp 139), type := 4, pos := "outright.go:74", after := #[{ on := 22, ground := Ground.data }, { on := 17, ground := Ground.chain }], guard := none }) (v := ?_) rfl (by kernel_rfl) (by kernel_rfl) (by kernel_rfl) (fun _ _ _ h => h) (Or.inl ⟨by rfl, ?_⟩) (by assumption) ?_
          rotate_left
          · (intro w0 hSw; go_simp); try with_reducible rfl
          try simp only [Act.put, List.setIfInBounds_toArray, List.set_cons_zero, List.set_cons_succ]
          refine wpAnyH_ready (rs := [24]) (by kernel_rfl) (by simp) ?_
          refine AllReadyH.cons (o := { dst := some 141, op := Op.call { callee := Callee.value (Operand.func 20), args := #[], argTypes := #[] }, type := 4, pos := "outright.go:74", after := #[{ on := 23, ground := Ground.chain }, { on := 23, ground := Ground.guard }], guard := some (23, true) }) rfl (fun K hK => ?_) ?_
          rotate_left
          · exact AllReadyH.nil
          go_simp
          (refine (awake_any _).mono ?_; rintro e wk ⟨rfl, hbk⟩; have HBX := Lib.hid (after HBX.out hbk))
          clear hbk
          go_wp2_with fail
          refine hK.out _ _ ?_ (fun hHeld => ?_)
          · trivial
          clear hK K
          try simp only [Act.put, List.setIfInBounds_toArray, List.set_cons_zero, List.set_cons_succ]
          refine wpAnyH_take (i := 25) (oi := { dst := some 142, op := Op.pick (Operand.tmp 140) (Operand.tmp 141) (Operand.const (Value.bool false)), type := 4, pos := "outright.go:74", after := #[{ on := 23, ground := Ground.data }, { on := 24, ground := Ground.data }], guard := none }) (v := ?_) rfl (by kernel_rfl) (by kernel_rfl) (by kernel_rfl) (fun _ _ _ h => h) (Or.inl ⟨by rfl, ?_⟩) (by assumption) ?_
          rotate_left
          · (intro w0 hSw; go_simp); try with_reducible rfl
          try simp only [Act.put, List.setIfInBounds_toArray, List.set_cons_zero, List.set_cons_succ]
          refine wpAnyH_take (i := 26) (oi := { dst := some 6, op := Op.assign (Operand.tmp 142), type := 4, pos := "outright.go:74", after := #[{ on := 25, ground := Ground.data }, { on := 24, ground := Ground.chain }, { on := 0, ground := Ground.phase }, { on := 1, ground := Ground.phase }, { on := 2, ground := Ground.phase }, { on := 3, ground := Ground.phase }, { on := 4, ground := Ground.phase }, { on := 5, ground := Ground.phase }, { on := 6, ground := Ground.phase }, { on := 7, ground := Ground.phase }, { on := 8, ground := Ground.phase }, { on := 9, ground := Ground.phase }, { on := 10, ground := Ground.phase }, { on := 11, ground := Ground.phase }, { on := 12, ground := Ground.phase }, { on := 13, ground := Ground.phase }, { on := 14, ground := Ground.phase }, { on := 15, ground := Ground.phase }, { on := 16, ground := Ground.phase }, { on := 17, ground := Ground.phase }, { on := 18, ground := Ground.phase }, { on := 19, ground := Ground.phase }, { on := 20, ground := Ground.phase }, { on := 21, ground := Ground.phase }, { on := 22, ground := Ground.phase }, { on := 23, ground := Ground.phase }, { on := 24, ground := Ground.phase }, { on := 25, ground := Ground.phase }], guard := none }) (v := ?_) rfl (by kernel_rfl) (by kernel_rfl) (by kernel_rfl) (fun _ _ _ h => h) (Or.inl ⟨by rfl, ?_⟩) (by assumption) ?_
          rotate_left
          · (intro w0 hSw; go_simp); try with_reducible rfl
          try simp only [Act.put, List.setIfInBounds_toArray, List.set_cons_zero, List.set_cons_succ]
          refine wpAnyH_done (by kernel_rfl) ?_ _
          refine NoPanic.normal ?_
          go_wp2_with fail
          go_ret
          exact ⟨rfl, HBX.out⟩
        exact AllReadyH.nil
      exact AllReadyH.nil

end Go.Proofs.Ytmdcbpdmkonmlaa
