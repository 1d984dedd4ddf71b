/-
  The engine over the text's characters: walked.
-/
import Derived.Test.YtjnidopbdjbbgaaGreatB40
import Derived.Test.YtjnidopbdjbbgaaGreatB26
import Derived.Test.YtjnidopbdjbbgaaGreatB32
section
namespace Go.Proofs.YtjnidopbdjbbgaaGreat
open Go.RowKit
set_option linter.unusedVariables false
set_option maxRecDepth 20000
set_option maxHeartbeats 4000000
attribute [local go_sem] Oper.semAt_some
theorem res18 {B:Nat} (x y z:Value) (e:Int):∀ (tmps:Array Value) (W':World),W'.heap[B]? = some (.cells #[x,y,z] 29)→tmps.getD 6 undef = .pointer (some ⟨B,0,none⟩)→tmps.getD 7 undef = .int .i64 e→(results Tryz.f18 tmps).run Tryz.prog W' = .ok (.tuple #[.agg #[x,y,z],.int .i64 e]) W':=by
 intro tmps W' h1 h2 h3
 rw [results_cell_tmp rfl]
 have hlv:=run_loadVar_row (P:=Tryz.prog) _ B 29 29 _ _ _ h1 Tryz.underlying29 rfl (by kernel_rfl)
 rw [h2,h3]
 simp [asAddr,hlv]
theorem runes_any (w:World) (hb:Nat) (ta:Option Addr) (tc:Nat) (ht:Cells w ta (textT.map i32V)) (hh:Cells w (some ⟨hb,0,none⟩) (chV handC)):
 Calls Tryz.prog 18 #[.iface 52 (propsV hb),.slice ta 7 tc,.int .i8 (-1)] w fun e w' => ∃ ka kc la lc,e = .returned (.tuple #[.agg #[.int .i8 0,.slice ka 7 kc,.slice la 7 lc],.int .i64 0])∧Own w' w.heap.size 1 la 7 lc (levelsT.map i8V)∧Below w.heap.size w w':=by
 have HPA:=Lib.hid (fun w h1 h2 => para_any w hb ta tc h1 h2)
 have HWH:=Lib.hid (fun w (a:Option Addr) c h => whole_any w a c firstC ta 7 tc (.inr (by decide)) (by decide) h)
 have HLV:=Lib.hid (fun w (ca:Option Addr) cc h b1 b2 h1 h2 h3 h4 => levels_text w ca cc h b1 b2 hb ta tc h1 h2 h3 h4)
 have HT:=Lib.hid ht
 have HH:=Lib.hid hh
 obtain ⟨W0,hW0⟩:∃ W0,W0 = ((w.alloc (.cells #[.iface 52 (propsV hb)] 71)).alloc (.cells #[.slice ta 7 tc] 54)).alloc (.cells #[.int .i8 0,.slice none 0 0,.slice none 0 0] 29):=⟨_,rfl⟩
 have hA:Below w.heap.size w (w.alloc (.cells #[.iface 52 (propsV hb)] 71)):=(Below.refl _ _).alloc (Nat.le_refl _) _
 have hA2:Below (w.heap.size + 1) (w.alloc (.cells #[.iface 52 (propsV hb)] 71)) ((w.alloc (.cells #[.iface 52 (propsV hb)] 71)).alloc (.cells #[.slice ta 7 tc] 54)):=(Below.refl _ _).alloc (by simp) _
 have hA3:Below (w.heap.size + 2) ((w.alloc (.cells #[.iface 52 (propsV hb)] 71)).alloc (.cells #[.slice ta 7 tc] 54)) W0:=by rw [hW0];exact (Below.refl _ _).alloc (by simp) _
 have HB0:=Lib.hid (hA.trans ((hA2.mono (by omega)).trans (hA3.mono (by omega))))
 have x1:W0.heap[w.heap.size]? = some (.cells #[.iface 52 (propsV hb)] 71):=(hA3.block _ (by omega)).trans ((hA2.block _ (by omega)).trans (heap_alloc_new w _))
 have x2:W0.heap[w.heap.size + 1]? = some (.cells #[.slice ta 7 tc] 54):=by
  have:=heap_alloc_new (w.alloc (.cells #[.iface 52 (propsV hb)] 71)) (.cells #[.slice ta 7 tc] 54)
  rw [World.size_alloc] at this
  exact (hA3.block _ (by omega)).trans this
 have x3:W0.heap[w.heap.size + 2]? = some (.cells #[.int .i8 0,.slice none 0 0,.slice none 0 0] 29):=by
  have:=heap_alloc_new ((w.alloc (.cells #[.iface 52 (propsV hb)] 71)).alloc (.cells #[.slice ta 7 tc] 54)) (.cells #[.int .i8 0,.slice none 0 0,.slice none 0 0] 29)
  rw [World.size_alloc,World.size_alloc] at this
  rw [hW0]
  exact this
 have HX1:=Lib.hid x1
 have HX2:=Lib.hid x2
 have HX3:=Lib.hid x3
 have k1:=cells_at x1 0
 have k2:=cells_at x2 0
 have HW0:=Lib.hid hW0
 clear ht hh hA hA2 hA3 x1 x2 x3
 rw [hW0] at k1 k2
 clear hW0
 go_enter Tryz.func18,Tryz.ntmps18
 go_wp2_with fail
 rw [← HW0.out] at k1 k2 ⊢
 refine (may_any W0 (-1)).mono ?_
 rintro e w0 ⟨rfl,rfl⟩
 rw [show mayB (-1) = true from rfl]
 go_wp2_with fail
 refine (HPA.out W0 (HT.out.below HB0.out) (HH.out.below HB0.out)).mono ?_
 rintro e w1 ⟨ka,kc,rfl,ho1,hb1⟩
 have HO1:=Lib.hid ho1
 have HB1:=Lib.hid (HB0.out.trans (hb1.mono HB0.out.size))
 have Y1:=Lib.hid ((hb1.block _ (Array.getElem?_eq_some_iff.1 HX1.out).1).trans HX1.out)
 have Y2:=Lib.hid ((hb1.block _ (Array.getElem?_eq_some_iff.1 HX2.out).1).trans HX2.out)
 have Y3:=Lib.hid ((hb1.block _ (Array.getElem?_eq_some_iff.1 HX3.out).1).trans HX3.out)
 clear ho1 hb1 k1 k2
 have k1:=cells_at Y1.out 0
 have k2:=cells_at Y2.out 0
 go_wp2_with fail
 refine (HWH.out w1 ka kc HO1.out.toCells).mono ?_
 rintro e w2 ⟨rfl,rfl⟩
 rw [show lastB firstC = true from rfl]
 go_wp2_with fail
 refine (HLV.out w1 ka kc HO1.out.toCells w.heap.size (w.heap.size + 1) (cells_at Y1.out 0) (cells_at Y2.out 0) (HT.out.below HB1.out) (HH.out.below HB1.out)).mono ?_
 rintro e w3 ⟨ka',kc',la,lc,rfl,ho3,hb3⟩
 have HO3:=Lib.hid ho3
 have HB3:=Lib.hid (HB1.out.trans (hb3.mono HB1.out.size))
 have Z3:=Lib.hid ((hb3.block _ (Array.getElem?_eq_some_iff.1 Y3.out).1).trans Y3.out)
 have HLT:=Lib.hid (Array.getElem?_eq_some_iff.1 Y3.out).1
 clear ho3 hb3 k1 k2
 have e0:=cells_at Z3.out 0
 have e1:=cells_at Z3.out 1
 have e2:=cells_at Z3.out 2
 have f0:=frozen_at Z3.out 0
 have f1:=frozen_at Z3.out 1
 have f2:=frozen_at Z3.out 2
 go_wp2
 have hfin:=heap_set3 Z3.out (.int .i8 0) (.slice ka' 7 kc') (.slice la 7 lc)
 have nl:∀ g,la = some ⟨g,0,none⟩→g≠w.heap.size + 2:=fun g hg e => by have h1:=(HO3.out.blk_lt g (blk_mem.2 (blockOf_some hg))).1;have:=HLT.out;omega
 exact bodyPost_ret (res18 _ _ _ _ _ _ hfin rfl rfl) rfl ⟨ka',kc',la,lc,rfl,(((HO3.out.stored_other _ _ nl).stored_other _ _ nl).stored_other _ _ nl).mono (HB1.out.size),((HB3.out.setCell (p:=⟨w.heap.size + 2,0,none⟩) (Nat.le_add_right _ 2) _).setCell (p:=⟨w.heap.size + 2,1,none⟩) (Nat.le_add_right _ 2) _).setCell (p:=⟨w.heap.size + 2,2,none⟩) (Nat.le_add_right _ 2) _⟩
end Go.Proofs.YtjnidopbdjbbgaaGreat
end
/-
  The self-test: walked.
-/
section
namespace Go.Proofs.YtjnidopbdjbbgaaGreat
open Go.RowKit
set_option linter.unusedVariables false
set_option maxRecDepth 20000
set_option maxHeartbeats 4000000
attribute [local go_sem] Oper.semAt_some
theorem runsT_any (w:World):Calls Tryz.prog 5 #[] w fun e w' => e = .returned (.bool true)∧Below w.heap.size w w':=by
 have HHA:=Lib.hid (fun w => hand_any w)
 have HRU:=Lib.hid (fun w hb ta tc h1 h2 => runes_any w hb ta tc h1 h2)
 go_enter Tryz.func5,Tryz.ntmps5
 go_wp2_with fail
 refine (HHA.out w).mono ?_
 rintro e w1 ⟨hb,rfl,hc,hb1⟩
 have HC:=Lib.hid hc
 have HB1:=Lib.hid hb1
 clear hc hb1
 unfold propsV
 go_wp2_with fail
 have hcs:=Cells.new w1 (textT.map i32V) 21
 obtain ⟨W1,hW1⟩:∃ W1,W1 = w1.alloc (.cells (textT.map i32V).toArray 21):=⟨_,rfl⟩
 rw [← hW1] at hcs
 have hbw:Below w1.heap.size w1 W1:=by rw [hW1];exact (Below.refl _ _).alloc (Nat.le_refl _) _
 have HCS:=Lib.hid hcs
 have HBW:=Lib.hid hbw
 clear hcs hbw
 show Calls _ _ _ (w1.alloc (.cells (textT.map i32V).toArray 21)) _
 rw [← hW1]
 refine (HRU.out W1 hb _ 7 HCS.out (HC.out.below HBW.out)).mono ?_
 rintro e w2 ⟨ka,kc,la,lc,rfl,ho,hb2⟩
 have HO:=Lib.hid ho
 have HB2:=Lib.hid (HB1.out.trans ((HBW.out.mono HB1.out.size).trans (hb2.mono (Nat.le_trans HB1.out.size HBW.out.size))))
 clear ho hb2 hW1
 go_wp2_with fail
 have hs2:=Cells.new (w2.alloc (.cells #[.int .i8 0,.slice ka 7 kc,.slice la 7 lc] 29)) (levelsT.map i8V) 26
 rw [World.size_alloc] at hs2
 have hbe:Below w2.heap.size w2 ((w2.alloc (.cells #[.int .i8 0,.slice ka 7 kc,.slice la 7 lc] 29)).alloc (.cells (levelsT.map i8V).toArray 26)):=((Below.refl _ _).alloc (Nat.le_refl _) _).alloc (by simp) _
 have hsm:=same_any _ la (some ⟨w2.heap.size + 1,0,none⟩) lc 7 levelsT 7 rfl (by decide) (HO.out.toCells.below hbe) hs2
 refine hsm.mono ?_
 rintro e w3 ⟨rfl,hb3⟩
 have HB3:=Lib.hid (HB2.out.trans ((hbe.mono HB2.out.size).trans (hb3.mono (Nat.le_trans HB2.out.size hbe.size))))
 clear hb3
 go_wp2
 go_ret
 exact ⟨rfl,HB3.out⟩
end Go.Proofs.YtjnidopbdjbbgaaGreat
end
