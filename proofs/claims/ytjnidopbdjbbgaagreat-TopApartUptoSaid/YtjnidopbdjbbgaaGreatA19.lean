/-
  A sequence of some runs (sequence): walked.
-/
import Derived.Test.YtjnidopbdjbbgaaGreatA16
import Derived.Test.YtjnidopbdjbbgaaGreatA09
import Derived.Test.YtjnidopbdjbbgaaGreatA10
import Derived.Deep.RegionLaw
import Derived.Laws.Small
namespace Go.Proofs.YtjnidopbdjbbgaaGreat
open Go.RowKit
set_option linter.unusedVariables false
attribute [local go_sem] Oper.semAt_some

/-- The runs of a slice that is read. -/
theorem runs_at {w : World} {a : Option Addr} {R : List Rn} (h : Cells w a (runsV R)) {k : Nat} {r : Rn} (hr : R[k]? = some r) :
    ∃ b off, a = some ⟨b, off, none⟩ ∧ w.cell? ⟨b, off + k * 3, none⟩ = some (.int .i64 r.f) ∧ w.cell? ⟨b, off + k * 3 + 1, none⟩ = some (.int .i64 r.t) ∧ w.cell? ⟨b, off + k * 3 + 2, none⟩ = some (.int .i8 r.lv) := by
  obtain ⟨h1, h2, h3⟩ := runsV_at R k r hr
  have hne : runsV R ≠ [] := by
    intro e
    rw [e] at h1
    simp at h1
  obtain ⟨b, off, rfl, hc⟩ := h hne
  exact ⟨b, off, rfl, hc _ _ h1, by rw [Nat.add_assoc]; exact hc _ _ h2, by rw [Nat.add_assoc]; exact hc _ _ h3⟩

def zero75 : Obj := .cells #[.slice none 0 0, .slice none 0 0, .int .i8 0, .int .u8 0, .int .u8 0] 75
def sqCs (t : Tx) (ps : List Nat) : List Nat := ps.map fun p => knownOf (t.nw.getD p 0)
theorem sqCs_snoc (t : Tx) (ps : List Nat) {x c : Nat} (h : t.nw[x]? = some c) : sqCs t (ps ++ [x]) = sqCs t ps ++ [knownOf c] := by
  unfold sqCs
  rw [List.map_append]
  simp [h]

theorem sqCs_len (t : Tx) (ps : List Nat) : (sqCs t ps).length = ps.length := by unfold sqCs; rw [List.length_map]

/-- What the gathering holds. -/
structure GI (t : Tx) (W0 : World) (B : Nat) (lv : Int) (ps : List Nat) (pa : Option Addr) (pc : Nat) (ca : Option Addr) (cc : Nat) (W : World) : Prop where
  g : Gath B B ps (sqCs t ps) lv pa pc ca cc W
  b : Below B W0 W

theorem ite_maxN (v u : Nat) [Decidable ((v : Int) < (u : Int))] : (if (v : Int) < (u : Int) then (u : Int) else (v : Int)) = ((max v u : Nat) : Int) := by split <;> omega
theorem ite_maxNG (v u : Nat) [Decidable ((u : Int) > (v : Int))] : (if (u : Int) > (v : Int) then (u : Int) else (v : Int)) = ((max v u : Nat) : Int) := by split <;> omega
theorem ite_maxNN (v u : Nat) [Decidable (v < u)] : (if v < u then (u : Int) else (v : Int)) = ((max v u : Nat) : Int) := by split <;> omega
theorem cellN {V w : World} {n : Nat} (hV : w.drewN n = V) {p : Addr} {x : Option Value} (h : w.cell? p = x) : V.cell? p = x := by subst hV; exact h
theorem frozenN {V w : World} {n : Nat} (hV : w.drewN n = V) {p : Addr} {x : Bool} (h : w.frozen? p = x) : V.frozen? p = x := by subst hV; exact h
theorem belowN {V w : World} {n : Nat} (hV : w.drewN n = V) : Below w.heap.size w V := by subst hV; exact below_drewN (Below.refl _ _) n
attribute [local go_sem] ite_maxN ite_maxNG ite_maxNN
/-- The sequence of some places. -/
def sqOf (t : Tx) (v : Nat) (ps : List Nat) : Sq := { ps := ps, cs := sqCs t ps, lv := v, sos := wayOf (max v (t.atN ((t.ix.getD (ps.getD 0 0) 0 : Int) - 1))), eos := wayOf (max v (t.behind (ps.getD (ps.length - 1) 0))) }

structure GI5 (t : Tx) (W0 : World) (B : Nat) (lv : Int) (ps cs : List Nat) (pa : Option Addr) (pc : Nat) (ca : Option Addr) (cc : Nat) (W : World) : Prop where
  g : Gath B B ps cs lv pa pc ca cc W
  b : Below B W0 W

set_option maxRecDepth 20000 in
set_option maxHeartbeats 4000000 in
theorem seq_any (w : World) (t : Tx) (ht : t.Ok) (p : Tp) (tb : Nat) (h : TextAt t p tb w) (R : List Rn) (ra : Option Addr) (rc : Nat) (hR : Cells w ra (runsV R)) (r0 : Rn) (hr0 : R[0]? = some r0) (v : Nat) (hv : r0.lv = v) (hv2 : v ≤ 126)
    (hin : ∀ r ∈ R, r.f ≤ r.t ∧ r.t ≤ t.cl.length) (hRl : R.length ≤ 1048576) (hpos : 0 < (placesOf t.cl R).length) (hlt : ∀ x ∈ placesOf t.cl R, x < t.cl.length) :
    Calls Tryz.prog 73 #[.pointer (some ⟨tb, 0, none⟩), .slice ra R.length rc] w fun e w' => ∃ pa pc ca cc, e = .returned ((sqOf t v (placesOf t.cl R)).val pa pc ca cc) ∧ Own w' w.heap.size 1 pa (placesOf t.cl R).length pc ((placesOf t.cl R).map natV) ∧
      Own w' w.heap.size 1 ca (placesOf t.cl R).length cc ((sqCs t (placesOf t.cl R)).map u8V) ∧ (∀ g ∈ blk pa, g ∉ blk ca) ∧ Below w.heap.size w w' := by
  obtain ⟨ia, hia, hza0, hza1, hza2⟩ := info_parts info3
  obtain ⟨ib2, hib, hzb0, hzb1, hzb2⟩ := info_parts info35
  obtain ⟨ib, io, rfl, hc0, hc1, hc2⟩ := runs_at hR hr0
  obtain ⟨m, hm⟩ : ∃ m, m = R.length := ⟨_, rfl⟩
  have HM := Lib.hid hm
  have HIN := Lib.hid hin
  have HR0 := Lib.hid hr0
  have HOK := Lib.hid ht
  have HV := Lib.hid hv
  have HPOS := Lib.hid hpos
  have HLTS := Lib.hid hlt
  have HVL := Lib.hid hv2
  have HKL := Lib.hid (show (placesOf t.cl R).length ≤ 1099511627776 from by have h1 := placesOf_le t.cl t.cl.length R (fun r hr => (hin r hr).2); have h2 : R.length * t.cl.length ≤ 1048576 * 1048576 := Nat.mul_le_mul hRl ht.big; omega)
  have hm1 : 0 < m := by rw [hm]; exact (List.getElem?_eq_some_iff.1 hr0).1
  rw [← hm] at hRl ⊢
  have hm2 : (0 : Int) < (m : Int) := by omega
  simp only [Nat.zero_mul, Nat.add_zero] at hc0 hc1 hc2
  have HT := Lib.hid h
  have HR := Lib.hid hR
  obtain ⟨O1, hO1⟩ : ∃ O, O = Obj.cells #[.slice none 0 0, .slice none 0 0, .int .i8 r0.lv, .int .u8 0, .int .u8 0] 75 := ⟨_, rfl⟩
  have hbw : Below w.heap.size w ((w.alloc zero75).alloc O1) := ((Below.refl _ _).alloc (Nat.le_refl _) _).alloc (by simp) _
  have hy1 : ((w.alloc zero75).alloc O1).heap[w.heap.size + 1]? = some O1 := by
    have := heap_alloc_new (w.alloc zero75) O1
    rwa [World.size_alloc] at this
  have hy0 : ((w.alloc zero75).alloc O1).heap[w.heap.size]? = some zero75 := (Below.heap_alloc _ _ _ (by simp)).trans (heap_alloc_new w _)
  replace hc2 := (((Below.refl w.heap.size w).alloc (Nat.le_refl _) zero75).cell (World.block_lt_of_cell? w _ hc2)).trans hc2
  subst hO1
  obtain ⟨W0, hW0⟩ : ∃ W0, W0 = (w.alloc zero75).alloc (Obj.cells #[.slice none 0 0, .slice none 0 0, .int .i8 r0.lv, .int .u8 0, .int .u8 0] 75) := ⟨_, rfl⟩
  rw [← hW0] at hbw hy1 hy0
  have HG0 : Hid (GI t W0 (w.heap.size + 1) r0.lv [] none 0 none 0 W0) := Lib.hid ⟨⟨hy1, Own.nil _ _ _, Own.nil _ _ _, by simp [blk_none], by simp [blk_none], by simp [blk_none], Nat.le_refl _⟩, Below.refl _ _⟩
  have HY0 := Lib.hid hy0
  have HBW := Lib.hid hbw
  have HS0 := Lib.hid (Array.getElem?_eq_some_iff.1 hy1).1
  have HW0 := Lib.hid hW0
  unfold zero75 at hc2
  clear h hR hm hr0 hc0 hc1 hin ht hbw hy1 hy0 hW0 hv hv2 hpos hlt
  go_enter Tryz.func73, Tryz.ntmps73
  go_wp2
  go_loopg [19] m (fun r i wr => ∃ (k pc cc : Nat) (pa ca : Option Addr), k + r = m ∧ i = .int .i64 k ∧ GI t W0 (w.heap.size + 1) r0.lv (placesOf t.cl (R.take k)) pa pc ca cc wr)
  case atStart => exact ⟨0, 0, 0, none, none, by omega, rfl, by have := HG0.out; rw [HW0.out] at this ⊢; exact this⟩
  case round =>
    obtain ⟨k, pc, cc, pa, ca, hk, rfl, hG⟩ := hrel
    by_cases hlt : k < m
    · obtain ⟨r, hr⟩ : ∃ r, R[k]? = some r := ⟨_, List.getElem?_eq_getElem (by rw [← HM.out]; exact hlt)⟩
      obtain ⟨hft, htn⟩ := HIN.out r (List.mem_of_getElem? hr)
      have hbx : Below w.heap.size w wr := HBW.out.trans (hG.b.mono (by omega))
      obtain ⟨_, _, he, hc0, hc1, hc2⟩ := runs_at (HR.out.below hbx) hr
      cases he
      have HG := Lib.hid hG
      have HK := Lib.hid hk
      have HRK := Lib.hid hr
      have hk0 : (0 : Int) ≤ (k : Int) := by omega
      have hk1 : (k : Int) < (m : Int) := by omega
      have hd1 : (wr.alloc (.cells #[.int .i64 r.f, .int .i64 r.t, .int .i8 r.lv] 140)).heap[wr.heap.size]? = some (.cells #[.int .i64 r.f, .int .i64 r.t, .int .i8 r.lv] 140) := heap_alloc_new _ _
      clear hG hk hr
      go_wp2
      have hW1 : GI t W0 (w.heap.size + 1) r0.lv (placesOf t.cl (R.take k) ++ segTo t.cl r.f r.f) pa pc ca cc (wr.alloc (.cells #[.int .i64 r.f, .int .i64 r.t, .int .i8 r.lv] 140)) := by
        rw [segTo_nil, List.append_nil]
        exact ⟨HG.out.g.below ((Below.refl _ _).alloc (Nat.le_refl _) _), HG.out.b.trans ((Below.refl _ _).alloc (by have := HG.out.g.lt; omega) _)⟩
      have hD1 : wr.heap.size ∉ blk pa ∧ wr.heap.size ∉ blk ca := ⟨fun h => by have := (HG.out.g.ps.blk_lt _ h).2; omega, fun h => by have := (HG.out.g.cs.blk_lt _ h).2; omega⟩
      have HW1 := Lib.hid hW1
      have HD1 := Lib.hid hD1
      have HHD := Lib.hid hd1
      have HDN := Lib.hid (show w.heap.size + 1 < wr.heap.size from HG.out.g.lt)
      have HDB := Lib.hid (show w.heap.size + 1 ≤ wr.heap.size from Nat.le_of_lt HG.out.g.lt)
      have HKT := Lib.hid (fun x (hx : x ≤ t.cl.length) => placesOf_take (l := t.cl) (f := r.f) (M := m) (fun r hr => (HIN.out r hr).2) HOK.out.big hlt hRl hx)
      have HLT := Lib.hid hlt
      obtain ⟨G, hGG⟩ : ∃ G, G = gk := ⟨_, rfl⟩
      subst hGG
      obtain ⟨D, hDD⟩ : ∃ D, wr.heap.size = D := ⟨_, rfl⟩
      rw [hDD] at HD1 HHD HDN HDB ⊢
      clear hDD hW1 hD1 hd1 hlt hbx hc0 hc1 hc2
      go_loopg [8] (r.t - r.f) (fun q i wq => ∃ (x pc cc : Nat) (pa ca : Option Addr), x + q = r.t ∧ r.f ≤ x ∧ i = .int .i64 x ∧ GI t W0 (w.heap.size + 1) r0.lv (placesOf t.cl (R.take k) ++ segTo t.cl r.f x) pa pc ca cc wq ∧ wq.heap[D]? = some (.cells #[.int .i64 r.f, .int .i64 r.t, .int .i8 r.lv] 140) ∧ D ∉ blk pa ∧ D ∉ blk ca)
      case atStart => exact ⟨r.f, pc, cc, pa, ca, by omega, Nat.le_refl _, rfl, HW1.out, HHD.out, HD1.out.1, HD1.out.2⟩
      case round =>
        obtain ⟨x, pc, cc, pa, ca, hxq, hfx, rfl, hG, hD, hDp, hDc⟩ := hrel
        have dd1 := cells_at hD 1
        by_cases hlt : x < r.t
        · obtain ⟨c, hc⟩ : ∃ c, t.cl[x]? = some c := ⟨_, List.getElem?_eq_getElem (by omega)⟩
          obtain ⟨nc, hnc⟩ : ∃ c, t.nw[x]? = some c := ⟨_, List.getElem?_eq_getElem (by rw [HOK.out.nw]; omega)⟩
          have hbx : Below w.heap.size w wr := HBW.out.trans (hG.b.mono (by omega))
          have hTx := HT.out.below hbx
          obtain ⟨cb, co, hca, hcc⟩ := hTx.cl.getm hc
          obtain ⟨nb, no, hna, hcn⟩ := hTx.nw.getm hnc
          have t0 := cells_at hTx.box 0
          have t1 := cells_at hTx.box 1
          rw [hca] at t0
          rw [hna] at t1
          have g0 := cells_at hG.g.box 0
          have g1 := cells_at hG.g.box 1
          have k0 := frozen_at hG.g.box 0
          have k1 := frozen_at hG.g.box 1
          unfold u8V at hcc hcn
          obtain ⟨hc1, hc23⟩ := HOK.out.cl c (List.mem_of_getElem? hc)
          have hsn := segTo_succ hfx hc
          have hpl := HKT.out x (by omega)
          have HG2 := Lib.hid hG
          have HTX := Lib.hid hTx
          have HD2 := Lib.hid hD
          have HDP := Lib.hid hDp
          have HDC := Lib.hid hDc
          have HXQ := Lib.hid hxq
          have HR31 := Lib.hid (fun w => removed_any w c hc1 hc23)
          have HR83 := Lib.hid (fun w => (knownS_any w nc).mono (R' := fun e w' => e = .returned (.int .u8 (knownOf nc)) ∧ w' = w) (fun e w' h => ⟨h.1, h.2.symm⟩))
          have HNC := Lib.hid hnc
          have hx0 : (0 : Int) ≤ (x : Int) := by omega
          have hx1 : (x : Int) < (r.t : Int) := by omega
          have hx2 : (x : Int) < (t.cl.length : Int) := by omega
          have hx3 : x + 1 ≤ 1048577 := by have := HOK.out.big; omega
          obtain ⟨n, hn⟩ : ∃ n, n = t.cl.length := ⟨_, rfl⟩
          rw [← hn] at t0 t1 hx2
          have HN := Lib.hid hn.symm
          obtain ⟨ps, hps⟩ : ∃ ps, ps = placesOf t.cl (R.take k) ++ segTo t.cl r.f x := ⟨_, rfl⟩
          rw [← hps] at HG2 hpl g0 g1
          have HPS := Lib.hid hps
          clear hn hps hG hTx hD hDp hDc hxq hbx hnc hc hca hna
          cases hr : rem c with
          | true =>
            rw [hr, if_pos rfl, List.append_nil] at hsn
            have HSN := Lib.hid hsn
            have HR2 : Hid (∀ w, Calls Tryz.prog 31 #[.int .u8 c] w fun e w' => e = .returned (.bool true) ∧ w = w') := Lib.hid fun w => by have := HR31.out w; unfold rem at hr; rw [hr] at this; exact this
            clear hsn hr HR31
            go_wp2_with (go_at_call 31; refine (HR2.out _).mono ?_; rintro e w2 ⟨rfl, rfl⟩)
            go_roundg (gk - 1)
            case measure => have := HXQ.out; omega
            case rel => exact ⟨x + 1, pc, cc, pa, ca, by have := HXQ.out; omega, by omega, by go_num, by rw [HSN.out, ← HPS.out]; exact HG2.out, HD2.out, HDP.out, HDC.out⟩
          | false =>
            rw [hr, if_neg (by decide)] at hsn
            have HSN := Lib.hid hsn
            have HR2 : Hid (∀ w, Calls Tryz.prog 31 #[.int .u8 c] w fun e w' => e = .returned (.bool false) ∧ w = w') := Lib.hid fun w => by have := HR31.out w; unfold rem at hr; rw [hr] at this; exact this
            clear hsn hr HR31
            go_wp2_with (first | (go_at_call 31; refine (HR2.out _).mono ?_; rintro e w2 ⟨rfl, rfl⟩) | (at_builtin; refine wpList_push rfl _ _ 33 rfl 3 ia (.int .i64 0) 8 Tryz.underlying33 hia hza0 hza1 hza2 rfl rfl (w.heap.size + 1) pa ps.length pc _ rfl wr _ rfl HG2.out.g.ps _ rfl rfl rfl (by omega) (by decide) (Nat.le_of_lt HG2.out.g.lt) ?_; intro a4 c4 w4 hown4 hap4 hb4; have HQ := Lib.hid (HG2.out.g.pushP (Nat.le_of_lt HG2.out.g.lt) x hown4 hap4); have HQD := Lib.hid (HG2.out.g.heldP hap4 (j := 0) (v := .slice a4 (ps.length + 1) c4) (Array.getElem?_eq_some_iff.1 HD2.out).1 HDP.out (by have := HDN.out; omega)); have e0 := cells_at (HQ.out.2.2.trans HG2.out.g.box) 0; have e1 := frozen_at (HQ.out.2.2.trans HG2.out.g.box) 0; clear hown4 hap4 hb4))
            have hG5 : GI5 t W0 (w.heap.size + 1) r0.lv (ps ++ [x]) (sqCs t ps) a4 c4 ca cc (w4.setCell ⟨w.heap.size + 1, 0, none⟩ (.slice a4 (ps.length + 1) c4)) := ⟨HQ.out.1, HG2.out.b.trans HQ.out.2.1⟩
            have hD5 := HQD.out.1.trans HD2.out
            have hDP5 := HQD.out.2
            clear e0 e1 g0 g1 k0 k1 t0 t1 hcn hcc
            generalize (w4.setCell ⟨w.heap.size + 1, 0, none⟩ (.slice a4 (ps.length + 1) c4)) = w5 at *
            have hbx5 : Below w.heap.size w w5 := HBW.out.trans (hG5.b.mono (by omega))
            have hT5 := HT.out.below hbx5
            obtain ⟨nb', no', hna', hcn⟩ := hT5.nw.getm HNC.out
            have t1 := cells_at hT5.box 1
            rw [hna', HN.out] at t1
            have g1 := cells_at hG5.g.box 1
            have k1 := frozen_at hG5.g.box 1
            unfold u8V at hcn
            clear hbx5 hT5 hna'
            have HG5 := Lib.hid hG5
            have HD5 := Lib.hid hD5
            have HDP5 := Lib.hid hDP5
            clear hG5 hD5 hDP5 HQ HQD
            have g1a : (w5.alloc (.cells #[.int .u8 (knownOf nc)] 35)).cell? ⟨w.heap.size + 1, 1, none⟩ = some (.slice ca (sqCs t ps).length cc) := (((Below.refl w5.heap.size w5).alloc (Nat.le_refl _) _).cell HG5.out.g.lt).trans g1
            have HG6 : Hid (GI5 t W0 (w.heap.size + 1) r0.lv (ps ++ [x]) (sqCs t ps) a4 c4 ca cc w5.drew) := Lib.hid ⟨HG5.out.g.drew, HG5.out.b.drew⟩
            have HD6 : Hid (w5.drew.heap[D]? = _) := Lib.hid HD5.out
            have HBB : Hid (∀ o, w.heap.size + 1 ≤ (w5.drew.alloc o).heap.size) := Lib.hid fun o => by rw [World.size_alloc]; exact Nat.le_trans (Nat.le_of_lt HG6.out.g.lt) (Nat.le_succ _)
            go_region_law (first | (go_simp; refine (HR83.out _).mono ?_; rintro e w6 ⟨rfl, rfl⟩; dsimp only) | (refine step_app (by rfl) _ _ 22 22 (by rfl) 35 ib2 (.int .u8 0) 1 1 Tryz.underlying22 hib hzb0 hzb1 hzb2 rfl (by simp [Value.cells, Value.oneCell']) (w.heap.size + 1) ca (sqCs t ps).length cc _ (by rfl) (HG6.out.g.cs.alloc _) _ 1 [.int .u8 (knownOf nc)] (by rfl) (Src.ofCells Tryz.underlying22 _ _ _ _ rfl (Cells.new w5.drew [.int .u8 (knownOf nc)] 35) (by simp [Value.oneCell']) (by decide)) (by rw [sqCs_len]; simp only [maxLen]; omega) (by rw [sqCs_len]; omega) (HBB.out _) ?_; intro a7 c7 w7 hown7 hap7; have HQ := Lib.hid (HG6.out.g.pushC (Nat.le_of_lt HG6.out.g.lt) (knownOf nc) hown7 hap7); have HQD := Lib.hid (HG6.out.g.heldC hap7 (j := 1) (v := .slice a7 ((sqCs t ps).length + 1) c7) (Array.getElem?_eq_some_iff.1 HD6.out).1 HDC.out (by have := HDN.out; omega)); have e0 := cells_at (HQ.out.2.2.trans HG6.out.g.box) 1; have e1 := frozen_at (HQ.out.2.2.trans HG6.out.g.box) 1; clear hown7 hap7))
            all_goals
              go_wp2
              go_roundg (gk - 1)
              case measure => have := HXQ.out; omega
              case rel => exact ⟨x + 1, c4, c7, a4, a7, by have := HXQ.out; omega, by omega, by go_num, by rw [HSN.out, ← List.append_assoc, ← HPS.out]; exact ⟨by rw [sqCs_snoc t ps HNC.out]; exact HQ.out.1, HG6.out.b.trans HQ.out.2.1⟩, HQD.out.1.trans HD6.out, HDP5.out, HQD.out.2⟩
        · obtain rfl : x = r.t := by omega
          have HG2 := Lib.hid hG
          have hnl : ¬ ((r.t : Int) < (r.t : Int)) := by omega
          clear hG hD hDp hDc
          go_wp2
          go_roundg (G - 1)
          case measure => have := HK.out; omega
          case rel => exact ⟨k + 1, pc, cc, pa, ca, by have := HK.out; omega, by go_num, by rw [placesOf_snoc HRK.out]; exact HG2.out⟩
    · obtain rfl : k = m := by omega
      obtain ⟨ps, hps⟩ : ∃ ps, ps = placesOf t.cl R := ⟨_, rfl⟩
      rw [List.take_of_length_le (by rw [← HM.out]; exact Nat.le_refl _)] at hG
      rw [← hps] at hG
      have hpos := HPOS.out
      have hlts := HLTS.out
      rw [← hps] at hpos hlts
      have HPS := Lib.hid hps
      obtain ⟨q, hq⟩ : ∃ q, ps.length = q + 1 := ⟨ps.length - 1, by omega⟩
      obtain ⟨x0, hx0⟩ : ∃ x, ps[0]? = some x := ⟨_, List.getElem?_eq_getElem hpos⟩
      obtain ⟨z, hz⟩ : ∃ x, ps[q]? = some x := ⟨_, List.getElem?_eq_getElem (by omega)⟩
      have hx0n := hlts x0 (List.mem_of_getElem? hx0)
      have hzn := hlts z (List.mem_of_getElem? hz)
      obtain ⟨g, rfl⟩ := hG.g.ps.pos hpos
      obtain ⟨hp0, _⟩ := hG.g.ps.getm hx0
      obtain ⟨hpq, _⟩ := hG.g.ps.getm hz
      have hbx : Below w.heap.size w wr := HBW.out.trans (hG.b.mono (by omega))
      have hTx := HT.out.below hbx
      have g0 := cells_at hG.g.box 0
      have g2 := cells_at hG.g.box 2
      have g3 := cells_at hG.g.box 3
      have g4 := cells_at hG.g.box 4
      have k3 := frozen_at hG.g.box 3
      have k4 := frozen_at hG.g.box 4
      rw [hq] at g0
      rw [HV.out] at g2
      have t0 := cells_at hTx.box 0
      have t3 := cells_at hTx.box 3
      have t5 := cells_at hTx.box 5
      have t6 := cells_at hTx.box 6
      obtain ⟨i0, hi0⟩ : ∃ c, t.ix[x0]? = some c := ⟨_, List.getElem?_eq_getElem (by rw [HOK.out.ix]; omega)⟩
      obtain ⟨iz, hiz⟩ : ∃ c, t.ix[z]? = some c := ⟨_, List.getElem?_eq_getElem (by rw [HOK.out.ix]; omega)⟩
      obtain ⟨cz, hcz⟩ : ∃ c, t.cl[z]? = some c := ⟨_, List.getElem?_eq_getElem (by omega)⟩
      obtain ⟨mz, hmz⟩ : ∃ c, t.mt[z]? = some c := ⟨_, List.getElem?_eq_getElem (by rw [HOK.out.mt]; omega)⟩
      obtain ⟨xb, xo, hxa, hci0⟩ := hTx.ix.getm hi0
      obtain ⟨_, _, hxa2, hciz⟩ := hTx.ix.getm hiz
      rw [hxa] at hxa2
      cases hxa2
      obtain ⟨cb, co, hca, hccz⟩ := hTx.cl.getm hcz
      obtain ⟨mb, mo, hma, hcmz⟩ := hTx.mt.getm hmz
      rw [hxa] at t5
      rw [hca] at t0
      rw [hma] at t6
      have hib0 := HOK.out.ib i0 (List.mem_of_getElem? hi0)
      have hibz := HOK.out.ib iz (List.mem_of_getElem? hiz)
      obtain ⟨hcz1, hcz2⟩ := HOK.out.cl cz (List.mem_of_getElem? hcz)
      unfold natV at hp0 hpq hci0 hciz
      unfold u8V at hccz
      unfold i64V at hcmz
      have hbe : t.behind z = if ([20, 21, 22] : List Nat).contains cz = true ∧ mz = t.cl.length then t.base else t.atN ((iz : Int) + 1) := by
        unfold Tx.behind
        rw [List.getD_eq_getElem?_getD, List.getD_eq_getElem?_getD, List.getD_eq_getElem?_getD, hcz, hmz, hiz]
        rfl
      have hsq : sqOf t v ps = { ps := ps, cs := sqCs t ps, lv := v, sos := wayOf (max v (t.atN ((i0 : Int) - 1))), eos := wayOf (max v (t.behind z)) } := by
        unfold sqOf
        rw [show ps.getD 0 0 = x0 from by rw [List.getD_eq_getElem?_getD, hx0]; rfl, show ps.getD (ps.length - 1) 0 = z from by rw [hq, Nat.add_sub_cancel, List.getD_eq_getElem?_getD, hz]; rfl, show t.ix.getD x0 0 = i0 from by rw [List.getD_eq_getElem?_getD, hi0]; rfl]
      have HSQ := Lib.hid hsq
      have HXB : Hid (xb < w.heap.size) := Lib.hid (by
        obtain ⟨b2, o2, e2, h2⟩ := HT.out.ix.getm hi0
        rw [hxa] at e2
        cases e2
        exact World.block_lt_of_cell? w _ h2)
      have HBE := Lib.hid hbe
      have HG := Lib.hid hG
      have HTX := Lib.hid hTx
      have HAT := Lib.hid (fun W h k hk hk2 => at_any W t HOK.out p tb h k hk hk2)
      have HB72 := Lib.hid (fun W => (begins_any W cz hcz1 hcz2))
      have hnm : ¬ ((k : Int) < (k : Int)) := by omega
      have hql : q + 1 ≤ 1099511627776 := by have := HKL.out; rw [← HPS.out] at this; omega
      have hq0 : (0 : Int) ≤ (q : Int) := by omega
      have hwr := IntWalk.i64_in (q : Int) (by omega)
      have hx00 : (0 : Int) ≤ (x0 : Int) := by omega
      obtain ⟨n, hn⟩ : ∃ n, n = t.cl.length := ⟨_, rfl⟩
      rw [← hn] at t0 t5 t6 hx0n hzn
      have HN := Lib.hid hn.symm
      have hx01 : (x0 : Int) < (n : Int) := by omega
      have hz0 : (0 : Int) ≤ (z : Int) := by omega
      have hz1 : (z : Int) < (n : Int) := by omega
      clear hps hpos hlts hq hx0 hz hbx hTx hi0 hiz hcz hmz hxa hca hma hsq hbe hn hG hlt hk hc2
      go_wp2_with (first | go_quiet (fail) | (go_at_call 116; refine (HAT.out _ (HTX.out.below ((below_drewN (Below.refl _ _) _))) _ (by omega) (by omega)).mono ?_; rintro e w2 ⟨rfl, n2, rfl⟩))
      generalize hV : wr.drewN _ = V
      replace g0 := cellN hV g0
      replace g2 := cellN hV g2
      replace g3 := cellN hV g3
      replace g4 := cellN hV g4
      replace k3 := frozenN hV k3
      replace k4 := frozenN hV k4
      replace t0 := cellN hV t0
      replace t3 := cellN hV t3
      replace t5 := cellN hV t5
      replace t6 := cellN hV t6
      replace hp0 := cellN hV hp0
      replace hpq := cellN hV hpq
      replace hci0 := cellN hV hci0
      replace hciz := cellN hV hciz
      replace hccz := cellN hV hccz
      replace hcmz := cellN hV hcmz
      replace HTX := Lib.hid (HTX.out.below (belowN hV))
      have HGV : Hid (GI t W0 (w.heap.size + 1) r0.lv ps (some ⟨g, 0, none⟩) pc ca cc V) := Lib.hid ⟨HG.out.g.below (belowN hV), HG.out.b.trans ((belowN hV).mono (Nat.le_of_lt HG.out.g.lt))⟩
      clear hV HG
      have hm720 : ∀ b : Bool, ([20, 21, 22] : List Nat).contains cz = b → Hid (∀ W, Calls Tryz.prog 72 #[.int .u8 cz] W fun e w' => e = .returned (.bool b) ∧ w' = W) := fun b hb => Lib.hid fun W => (HB72.out W).mono (fun e w' h => ⟨by rw [← hb]; exact h.1, h.2.symm⟩)
      have hvl := HVL.out
      have htbn : tb ≠ w.heap.size + 1 := by have := (Array.getElem?_eq_some_iff.1 HT.out.box).1; omega
      have hxbn : xb ≠ w.heap.size + 1 := by have := HXB.out; omega
      have hwr0 := IntWalk.i64_in ((i0 : Int) - 1) (by omega)
      have hi01 : (-1 : Int) ≤ (i0 : Int) - 1 := by omega
      have hal := fun k => (HOK.out.at_nat k).2
      have HAL := Lib.hid hal
      clear hal
      by_cases hcb : ([20, 21, 22] : List Nat).contains cz = true
      · have H72 := hm720 _ hcb
        by_cases hmn : mz = (n : Int)
        · have hd : (mz == (n : Int)) = true := by simp [hmn]
          have HBH : Hid (t.behind z = t.base ∧ t.behind z ≤ 126) := Lib.hid (by rw [HBE.out, if_pos ⟨hcb, by rw [HN.out]; exact hmn⟩]; exact ⟨rfl, by have := HOK.out.base; omega⟩)
          clear hm720 hcb HB72 hmn
          go_wp2_with (go_quiet (first | (go_at_call 72; exact Calls.quiet_of_same (H72.out _))))
          rw [← HBH.out.1]
          have hb126 := HBH.out.2
          clear HBH hd H72
          go_wp2_with fail
          generalize hV2 : V.drewN _ = U
          have HGU : Hid (GI t W0 (w.heap.size + 1) r0.lv ps (some ⟨g, 0, none⟩) pc ca cc U) := Lib.hid ⟨HGV.out.g.below (belowN hV2), HGV.out.b.trans ((belowN hV2).mono (Nat.le_of_lt HGV.out.g.lt))⟩
          have HYU := Lib.hid ((HGU.out.b.block w.heap.size (by omega)).trans HY0.out)
          have g0 := cells_at HGU.out.g.box 0
          have g1 := cells_at HGU.out.g.box 1
          rw [sqCs_len] at g1
          replace g2 := cellN hV2 g2
          have g3 := cells_at HGU.out.g.box 3
          have g4 := cells_at HGU.out.g.box 4
          have k3 := frozen_at HGU.out.g.box 3
          have k4 := frozen_at HGU.out.g.box 4
          have hyy := HYU.out
          unfold zero75 at hyy
          have HYY := Lib.hid (fun m => (show (U.drewN m).heap[w.heap.size]? = _ from hyy))
          have y0 := cells_at hyy 0
          have y1 := cells_at hyy 1
          have y2 := cells_at hyy 2
          have y3 := cells_at hyy 3
          have y4 := cells_at hyy 4
          have z0 := frozen_at hyy 0
          have z1 := frozen_at hyy 1
          have z2 := frozen_at hyy 2
          have z3 := frozen_at hyy 3
          have z4 := frozen_at hyy 4
          replace t5 := cellN hV2 t5
          replace hci0 := cellN hV2 hci0
          have HTU := Lib.hid (HTX.out.below (belowN hV2))
          clear hV2 t0 t3 t6 hp0 hpq hciz hccz hcmz hyy HTX
          go_region_held3 (fun w' => w'.cell? ⟨w.heap.size + 1, 2, none⟩ = some (.int .i8 v) ∧ w'.cell? ⟨tb, 5, none⟩ = some (.slice (some ⟨xb, xo, none⟩) n p.xc) ∧ w'.cell? ⟨xb, xo + x0, none⟩ = some (.int .i64 i0)) (first | exact ⟨g2, t5, hci0⟩ | exact ⟨(World.cell?_setCell_other _ _ _ _ (by simp)).trans g2, cell_set (w := World.drewN U _) t5 htbn, cell_set (w := World.drewN U _) hci0 hxbn⟩)
            (first | (go_at_call 116; refine (HAT.out _ (HTU.out.below (below_drewN (Below.refl _ _) 1)) _ (by omega) (by omega)).mono ?_; rintro e w2 ⟨rfl, n2, rfl⟩) | (go_at_call 50; refine (way_any _ _ (by have := HAL.out ((i0 : Int) - 1); omega)).mono ?_; rintro e w3 ⟨rfl, rfl⟩))
          go_wp2_with (go_at_call 50; refine (way_any _ _ (by omega)).mono ?_; rintro e w3 ⟨rfl, rfl⟩)
          have hfin := fun m => heap_set5 (heap_other (heap_other (HYY.out m) (show w.heap.size ≠ w.heap.size + 1 by omega) (j := 3) (.int .u8 (wayOf (max v (t.atN ((i0 : Int) - 1)))))) (show w.heap.size ≠ w.heap.size + 1 by omega) (j := 4) (.int .u8 (wayOf (max v (t.behind z))))) (.slice (some ⟨g, 0, none⟩) ps.length pc) (.slice ca ps.length cc) (.int .i8 v) (.int .u8 (wayOf (max v (t.atN ((i0 : Int) - 1))))) (.int .u8 (wayOf (max v (t.behind z))))
          have n1 : w.heap.size ∉ blk (some ⟨g, 0, none⟩) := fun h => by have := (HGU.out.g.ps.blk_lt _ h).1; omega
          have n2 : w.heap.size ∉ blk ca := fun h => by have := (HGU.out.g.cs.blk_lt _ h).1; omega
          have e1 : ∀ g2, (some ⟨g, 0, none⟩ : Option Addr) = some ⟨g2, 0, none⟩ → g2 ≠ w.heap.size + 1 := fun g2 hg e => HGU.out.g.np (by rw [blk_mem, blockOf_some hg, e])
          have e2 : ∀ g2, ca = some ⟨g2, 0, none⟩ → g2 ≠ w.heap.size + 1 := fun g2 hg e => HGU.out.g.nc (by rw [blk_mem, blockOf_some hg, e])
          have o1 := fun m => ((((HGU.out.g.ps.below (below_drewN (Below.refl _ _) m)).stored_other ⟨w.heap.size + 1, 3, none⟩ (.int .u8 (wayOf (max v (t.atN ((i0 : Int) - 1))))) e1).stored_other ⟨w.heap.size + 1, 4, none⟩ (.int .u8 (wayOf (max v (t.behind z)))) e1).set5 n1 (.slice (some ⟨g, 0, none⟩) ps.length pc) (.slice ca ps.length cc) (.int .i8 v) (.int .u8 (wayOf (max v (t.atN ((i0 : Int) - 1))))) (.int .u8 (wayOf (max v (t.behind z))))).mono (Nat.le_succ w.heap.size)
          have o2 := fun m => (((((HGU.out.g.cs.eqN (sqCs_len t ps)).below (below_drewN (Below.refl _ _) m)).stored_other ⟨w.heap.size + 1, 3, none⟩ (.int .u8 (wayOf (max v (t.atN ((i0 : Int) - 1))))) e2).stored_other ⟨w.heap.size + 1, 4, none⟩ (.int .u8 (wayOf (max v (t.behind z)))) e2).set5 n2 (.slice (some ⟨g, 0, none⟩) ps.length pc) (.slice ca ps.length cc) (.int .i8 v) (.int .u8 (wayOf (max v (t.atN ((i0 : Int) - 1))))) (.int .u8 (wayOf (max v (t.behind z))))).mono (Nat.le_succ w.heap.size)
          have bb := fun m => below_set5 (((below_drewN (HBW.out.trans (HGU.out.b.mono (Nat.le_succ _))) m).setCell (p := ⟨w.heap.size + 1, 3, none⟩) (Nat.le_succ _) (.int .u8 (wayOf (max v (t.atN ((i0 : Int) - 1)))))).setCell (p := ⟨w.heap.size + 1, 4, none⟩) (Nat.le_succ _) (.int .u8 (wayOf (max v (t.behind z))))) (Nat.le_refl w.heap.size) (.slice (some ⟨g, 0, none⟩) ps.length pc) (.slice ca ps.length cc) (.int .i8 v) (.int .u8 (wayOf (max v (t.atN ((i0 : Int) - 1))))) (.int .u8 (wayOf (max v (t.behind z))))
          exact bodyPost_ret (results_cell_row (P := Tryz.prog) rfl _ _ (w.heap.size) 75 _ (0, 0) _ rfl (hfin _) Tryz.underlying75 rfl (by kernel_rfl)) rfl ⟨some ⟨g, 0, none⟩, pc, ca, cc, by rw [← HPS.out, HSQ.out]; rfl, by rw [← HPS.out]; exact o1 _, by rw [← HPS.out]; exact o2 _, HGU.out.g.ap, bb _⟩
        · have hd : (mz == (n : Int)) = false := by simp [hmn]
          have HBH : Hid (t.behind z = t.atN ((iz : Int) + 1) ∧ t.behind z ≤ 126) := Lib.hid (by rw [HBE.out, if_neg (fun h => hmn (by rw [← HN.out]; exact h.2))]; exact ⟨rfl, HAL.out _⟩)
          clear hm720 hcb HB72 hmn
          go_wp2_with (go_quiet (first | (go_at_call 72; exact Calls.quiet_of_same (H72.out _))))
          rw [← HBH.out.1]
          have hb126 := HBH.out.2
          clear HBH hd H72
          go_wp2_with fail
          generalize hV2 : V.drewN _ = U
          have HGU : Hid (GI t W0 (w.heap.size + 1) r0.lv ps (some ⟨g, 0, none⟩) pc ca cc U) := Lib.hid ⟨HGV.out.g.below (belowN hV2), HGV.out.b.trans ((belowN hV2).mono (Nat.le_of_lt HGV.out.g.lt))⟩
          have HYU := Lib.hid ((HGU.out.b.block w.heap.size (by omega)).trans HY0.out)
          have g0 := cells_at HGU.out.g.box 0
          have g1 := cells_at HGU.out.g.box 1
          rw [sqCs_len] at g1
          replace g2 := cellN hV2 g2
          have g3 := cells_at HGU.out.g.box 3
          have g4 := cells_at HGU.out.g.box 4
          have k3 := frozen_at HGU.out.g.box 3
          have k4 := frozen_at HGU.out.g.box 4
          have hyy := HYU.out
          unfold zero75 at hyy
          have HYY := Lib.hid (fun m => (show (U.drewN m).heap[w.heap.size]? = _ from hyy))
          have y0 := cells_at hyy 0
          have y1 := cells_at hyy 1
          have y2 := cells_at hyy 2
          have y3 := cells_at hyy 3
          have y4 := cells_at hyy 4
          have z0 := frozen_at hyy 0
          have z1 := frozen_at hyy 1
          have z2 := frozen_at hyy 2
          have z3 := frozen_at hyy 3
          have z4 := frozen_at hyy 4
          replace t5 := cellN hV2 t5
          replace hci0 := cellN hV2 hci0
          have HTU := Lib.hid (HTX.out.below (belowN hV2))
          clear hV2 t0 t3 t6 hp0 hpq hciz hccz hcmz hyy HTX
          go_region_held3 (fun w' => w'.cell? ⟨w.heap.size + 1, 2, none⟩ = some (.int .i8 v) ∧ w'.cell? ⟨tb, 5, none⟩ = some (.slice (some ⟨xb, xo, none⟩) n p.xc) ∧ w'.cell? ⟨xb, xo + x0, none⟩ = some (.int .i64 i0)) (first | exact ⟨g2, t5, hci0⟩ | exact ⟨(World.cell?_setCell_other _ _ _ _ (by simp)).trans g2, cell_set (w := World.drewN U _) t5 htbn, cell_set (w := World.drewN U _) hci0 hxbn⟩)
            (first | (go_at_call 116; refine (HAT.out _ (HTU.out.below (below_drewN (Below.refl _ _) 1)) _ (by omega) (by omega)).mono ?_; rintro e w2 ⟨rfl, n2, rfl⟩) | (go_at_call 50; refine (way_any _ _ (by have := HAL.out ((i0 : Int) - 1); omega)).mono ?_; rintro e w3 ⟨rfl, rfl⟩))
          go_wp2_with (go_at_call 50; refine (way_any _ _ (by omega)).mono ?_; rintro e w3 ⟨rfl, rfl⟩)
          have hfin := fun m => heap_set5 (heap_other (heap_other (HYY.out m) (show w.heap.size ≠ w.heap.size + 1 by omega) (j := 3) (.int .u8 (wayOf (max v (t.atN ((i0 : Int) - 1)))))) (show w.heap.size ≠ w.heap.size + 1 by omega) (j := 4) (.int .u8 (wayOf (max v (t.behind z))))) (.slice (some ⟨g, 0, none⟩) ps.length pc) (.slice ca ps.length cc) (.int .i8 v) (.int .u8 (wayOf (max v (t.atN ((i0 : Int) - 1))))) (.int .u8 (wayOf (max v (t.behind z))))
          have n1 : w.heap.size ∉ blk (some ⟨g, 0, none⟩) := fun h => by have := (HGU.out.g.ps.blk_lt _ h).1; omega
          have n2 : w.heap.size ∉ blk ca := fun h => by have := (HGU.out.g.cs.blk_lt _ h).1; omega
          have e1 : ∀ g2, (some ⟨g, 0, none⟩ : Option Addr) = some ⟨g2, 0, none⟩ → g2 ≠ w.heap.size + 1 := fun g2 hg e => HGU.out.g.np (by rw [blk_mem, blockOf_some hg, e])
          have e2 : ∀ g2, ca = some ⟨g2, 0, none⟩ → g2 ≠ w.heap.size + 1 := fun g2 hg e => HGU.out.g.nc (by rw [blk_mem, blockOf_some hg, e])
          have o1 := fun m => ((((HGU.out.g.ps.below (below_drewN (Below.refl _ _) m)).stored_other ⟨w.heap.size + 1, 3, none⟩ (.int .u8 (wayOf (max v (t.atN ((i0 : Int) - 1))))) e1).stored_other ⟨w.heap.size + 1, 4, none⟩ (.int .u8 (wayOf (max v (t.behind z)))) e1).set5 n1 (.slice (some ⟨g, 0, none⟩) ps.length pc) (.slice ca ps.length cc) (.int .i8 v) (.int .u8 (wayOf (max v (t.atN ((i0 : Int) - 1))))) (.int .u8 (wayOf (max v (t.behind z))))).mono (Nat.le_succ w.heap.size)
          have o2 := fun m => (((((HGU.out.g.cs.eqN (sqCs_len t ps)).below (below_drewN (Below.refl _ _) m)).stored_other ⟨w.heap.size + 1, 3, none⟩ (.int .u8 (wayOf (max v (t.atN ((i0 : Int) - 1))))) e2).stored_other ⟨w.heap.size + 1, 4, none⟩ (.int .u8 (wayOf (max v (t.behind z)))) e2).set5 n2 (.slice (some ⟨g, 0, none⟩) ps.length pc) (.slice ca ps.length cc) (.int .i8 v) (.int .u8 (wayOf (max v (t.atN ((i0 : Int) - 1))))) (.int .u8 (wayOf (max v (t.behind z))))).mono (Nat.le_succ w.heap.size)
          have bb := fun m => below_set5 (((below_drewN (HBW.out.trans (HGU.out.b.mono (Nat.le_succ _))) m).setCell (p := ⟨w.heap.size + 1, 3, none⟩) (Nat.le_succ _) (.int .u8 (wayOf (max v (t.atN ((i0 : Int) - 1)))))).setCell (p := ⟨w.heap.size + 1, 4, none⟩) (Nat.le_succ _) (.int .u8 (wayOf (max v (t.behind z))))) (Nat.le_refl w.heap.size) (.slice (some ⟨g, 0, none⟩) ps.length pc) (.slice ca ps.length cc) (.int .i8 v) (.int .u8 (wayOf (max v (t.atN ((i0 : Int) - 1))))) (.int .u8 (wayOf (max v (t.behind z))))
          exact bodyPost_ret (results_cell_row (P := Tryz.prog) rfl _ _ (w.heap.size) 75 _ (0, 0) _ rfl (hfin _) Tryz.underlying75 rfl (by kernel_rfl)) rfl ⟨some ⟨g, 0, none⟩, pc, ca, cc, by rw [← HPS.out, HSQ.out]; rfl, by rw [← HPS.out]; exact o1 _, by rw [← HPS.out]; exact o2 _, HGU.out.g.ap, bb _⟩
      · have hcb2 : ([20, 21, 22] : List Nat).contains cz = false := by simpa using hcb
        have H72 := hm720 _ hcb2
        have HBH : Hid (t.behind z = t.atN ((iz : Int) + 1) ∧ t.behind z ≤ 126) := Lib.hid (by rw [HBE.out, if_neg (fun h => hcb h.1)]; exact ⟨rfl, HAL.out _⟩)
        clear hm720 hcb hcb2 HB72
        go_wp2_with (go_quiet (first | (go_at_call 72; exact Calls.quiet_of_same (H72.out _))))
        rw [← HBH.out.1]
        have hb126 := HBH.out.2
        clear HBH H72
        go_wp2_with fail
        generalize hV2 : V.drewN _ = U
        have HGU : Hid (GI t W0 (w.heap.size + 1) r0.lv ps (some ⟨g, 0, none⟩) pc ca cc U) := Lib.hid ⟨HGV.out.g.below (belowN hV2), HGV.out.b.trans ((belowN hV2).mono (Nat.le_of_lt HGV.out.g.lt))⟩
        have HYU := Lib.hid ((HGU.out.b.block w.heap.size (by omega)).trans HY0.out)
        have g0 := cells_at HGU.out.g.box 0
        have g1 := cells_at HGU.out.g.box 1
        rw [sqCs_len] at g1
        replace g2 := cellN hV2 g2
        have g3 := cells_at HGU.out.g.box 3
        have g4 := cells_at HGU.out.g.box 4
        have k3 := frozen_at HGU.out.g.box 3
        have k4 := frozen_at HGU.out.g.box 4
        have hyy := HYU.out
        unfold zero75 at hyy
        have HYY := Lib.hid (fun m => (show (U.drewN m).heap[w.heap.size]? = _ from hyy))
        have y0 := cells_at hyy 0
        have y1 := cells_at hyy 1
        have y2 := cells_at hyy 2
        have y3 := cells_at hyy 3
        have y4 := cells_at hyy 4
        have z0 := frozen_at hyy 0
        have z1 := frozen_at hyy 1
        have z2 := frozen_at hyy 2
        have z3 := frozen_at hyy 3
        have z4 := frozen_at hyy 4
        replace t5 := cellN hV2 t5
        replace hci0 := cellN hV2 hci0
        have HTU := Lib.hid (HTX.out.below (belowN hV2))
        clear hV2 t0 t3 t6 hp0 hpq hciz hccz hcmz hyy HTX
        go_region_held3 (fun w' => w'.cell? ⟨w.heap.size + 1, 2, none⟩ = some (.int .i8 v) ∧ w'.cell? ⟨tb, 5, none⟩ = some (.slice (some ⟨xb, xo, none⟩) n p.xc) ∧ w'.cell? ⟨xb, xo + x0, none⟩ = some (.int .i64 i0)) (first | exact ⟨g2, t5, hci0⟩ | exact ⟨(World.cell?_setCell_other _ _ _ _ (by simp)).trans g2, cell_set (w := World.drewN U _) t5 htbn, cell_set (w := World.drewN U _) hci0 hxbn⟩)
          (first | (go_at_call 116; refine (HAT.out _ (HTU.out.below (below_drewN (Below.refl _ _) 1)) _ (by omega) (by omega)).mono ?_; rintro e w2 ⟨rfl, n2, rfl⟩) | (go_at_call 50; refine (way_any _ _ (by have := HAL.out ((i0 : Int) - 1); omega)).mono ?_; rintro e w3 ⟨rfl, rfl⟩))
        go_wp2_with (go_at_call 50; refine (way_any _ _ (by omega)).mono ?_; rintro e w3 ⟨rfl, rfl⟩)
        have hfin := fun m => heap_set5 (heap_other (heap_other (HYY.out m) (show w.heap.size ≠ w.heap.size + 1 by omega) (j := 3) (.int .u8 (wayOf (max v (t.atN ((i0 : Int) - 1)))))) (show w.heap.size ≠ w.heap.size + 1 by omega) (j := 4) (.int .u8 (wayOf (max v (t.behind z))))) (.slice (some ⟨g, 0, none⟩) ps.length pc) (.slice ca ps.length cc) (.int .i8 v) (.int .u8 (wayOf (max v (t.atN ((i0 : Int) - 1))))) (.int .u8 (wayOf (max v (t.behind z))))
        have n1 : w.heap.size ∉ blk (some ⟨g, 0, none⟩) := fun h => by have := (HGU.out.g.ps.blk_lt _ h).1; omega
        have n2 : w.heap.size ∉ blk ca := fun h => by have := (HGU.out.g.cs.blk_lt _ h).1; omega
        have e1 : ∀ g2, (some ⟨g, 0, none⟩ : Option Addr) = some ⟨g2, 0, none⟩ → g2 ≠ w.heap.size + 1 := fun g2 hg e => HGU.out.g.np (by rw [blk_mem, blockOf_some hg, e])
        have e2 : ∀ g2, ca = some ⟨g2, 0, none⟩ → g2 ≠ w.heap.size + 1 := fun g2 hg e => HGU.out.g.nc (by rw [blk_mem, blockOf_some hg, e])
        have o1 := fun m => ((((HGU.out.g.ps.below (below_drewN (Below.refl _ _) m)).stored_other ⟨w.heap.size + 1, 3, none⟩ (.int .u8 (wayOf (max v (t.atN ((i0 : Int) - 1))))) e1).stored_other ⟨w.heap.size + 1, 4, none⟩ (.int .u8 (wayOf (max v (t.behind z)))) e1).set5 n1 (.slice (some ⟨g, 0, none⟩) ps.length pc) (.slice ca ps.length cc) (.int .i8 v) (.int .u8 (wayOf (max v (t.atN ((i0 : Int) - 1))))) (.int .u8 (wayOf (max v (t.behind z))))).mono (Nat.le_succ w.heap.size)
        have o2 := fun m => (((((HGU.out.g.cs.eqN (sqCs_len t ps)).below (below_drewN (Below.refl _ _) m)).stored_other ⟨w.heap.size + 1, 3, none⟩ (.int .u8 (wayOf (max v (t.atN ((i0 : Int) - 1))))) e2).stored_other ⟨w.heap.size + 1, 4, none⟩ (.int .u8 (wayOf (max v (t.behind z)))) e2).set5 n2 (.slice (some ⟨g, 0, none⟩) ps.length pc) (.slice ca ps.length cc) (.int .i8 v) (.int .u8 (wayOf (max v (t.atN ((i0 : Int) - 1))))) (.int .u8 (wayOf (max v (t.behind z))))).mono (Nat.le_succ w.heap.size)
        have bb := fun m => below_set5 (((below_drewN (HBW.out.trans (HGU.out.b.mono (Nat.le_succ _))) m).setCell (p := ⟨w.heap.size + 1, 3, none⟩) (Nat.le_succ _) (.int .u8 (wayOf (max v (t.atN ((i0 : Int) - 1)))))).setCell (p := ⟨w.heap.size + 1, 4, none⟩) (Nat.le_succ _) (.int .u8 (wayOf (max v (t.behind z))))) (Nat.le_refl w.heap.size) (.slice (some ⟨g, 0, none⟩) ps.length pc) (.slice ca ps.length cc) (.int .i8 v) (.int .u8 (wayOf (max v (t.atN ((i0 : Int) - 1))))) (.int .u8 (wayOf (max v (t.behind z))))
        exact bodyPost_ret (results_cell_row (P := Tryz.prog) rfl _ _ (w.heap.size) 75 _ (0, 0) _ rfl (hfin _) Tryz.underlying75 rfl (by kernel_rfl)) rfl ⟨some ⟨g, 0, none⟩, pc, ca, cc, by rw [← HPS.out, HSQ.out]; rfl, by rw [← HPS.out]; exact o1 _, by rw [← HPS.out]; exact o2 _, HGU.out.g.ap, bb _⟩

end Go.Proofs.YtjnidopbdjbbgaaGreat
