/-
  The steps of the engine over characters: walked.
-/
import Derived.Test.YtjnidopbdjbbgaaGreatB33
import Derived.Test.YtjnidopbdjbbgaaGreatB26
namespace Go.Proofs.YtjnidopbdjbbgaaGreat
open Go.RowKit
set_option linter.unusedVariables false
set_option maxRecDepth 20000
set_option maxHeartbeats 4000000
attribute [local go_sem] Oper.semAt_some
/-- The middle step: the brackets. -/
theorem step37_any (w:World) (b1 b2 b3:Nat) (hb:Nat) (ta:Option Addr) (tc:Nat) (pa ca:Option Addr) (pc cc:Nat) (fb fo fc:Nat)
 (h1:w.cell? ⟨b1,0,none⟩ = some (.iface 52 (propsV hb))) (h2:w.cell? ⟨b2,0,none⟩ = some (.slice ta 7 tc)) (h3:w.cell? ⟨b3,0,none⟩ = some (.slice (some ⟨fb,fo,none⟩) 7 fc))
 (hi:seqT1.In w pa ca) (ht:Cells w ta (textT.map i32V)) (hh:Cells w (some ⟨hb,0,none⟩) (chV handC)) (hf:Cells w (some ⟨fb,fo,none⟩) (firstC.map u8V)):
 Calls Tryz.prog 37 #[seqT1.val pa pc ca cc,.pointer (some ⟨b1,0,none⟩),.pointer (some ⟨b2,0,none⟩),.pointer (some ⟨b3,0,none⟩)] w fun e w' => ∃ pa' pc' ca' cc',e = .returned (.tuple #[seqT2.val pa' pc' ca' cc',.int .i64 0])∧seqT2.In w' pa' ca'∧Below w.heap.size w w'∧FreshA w.heap.size pa'∧FreshA w.heap.size ca':=by
 have HRS:Hid (∀ w,seqT1.In w pa ca→Cells w ta (textT.map i32V)→Cells w (some ⟨hb,0,none⟩) (chV handC)→Cells w (some ⟨fb,fo,none⟩) (firstC.map u8V)→Calls Tryz.prog 38 #[.iface 52 (propsV hb),.slice ta 7 tc,.slice (some ⟨fb,fo,none⟩) 7 fc,.agg #[.slice pa 7 pc,.slice ca 7 cc,.int .i8 0,.int .u8 1,.int .u8 1]] w fun e w' => ∃ pa' pc' ca' cc',e = .returned (.tuple #[.agg #[.slice pa' 7 pc',.slice ca' 7 cc',.int .i8 0,.int .u8 1,.int .u8 1],.int .i64 0])∧seqT2.In w' pa' ca'∧Below w.heap.size w w'∧FreshA w.heap.size pa'∧FreshA w.heap.size ca'):=
  Lib.hid (fun w h1 h2 h3 h4 => presolve_any w hb ta tc pa ca pc cc fb fo fc h1 h2 h3 h4)
 have hv:seqT1.val pa pc ca cc = .agg #[.slice pa 7 pc,.slice ca 7 cc,.int .i8 0,.int .u8 1,.int .u8 1]:=rfl
 rw [hv]
 obtain ⟨O1,hO1⟩:∃ O,O = Obj.cells #[.slice pa 7 pc,.slice ca 7 cc,.int .i8 0,.int .u8 1,.int .u8 1] 75:=⟨_,rfl⟩
 obtain ⟨O2,hO2⟩:∃ O,O = Obj.cells #[.slice none 0 0,.slice none 0 0,.int .i8 0,.int .u8 0,.int .u8 0] 75:=⟨_,rfl⟩
 obtain ⟨W0,hW0⟩:∃ W0,W0 = (w.alloc O1).alloc O2:=⟨_,rfl⟩
 have hs0:W0.heap.size = w.heap.size + 2:=by rw [hW0];simp
 have hx1:W0.heap[w.heap.size]? = some O1:=by
  rw [hW0]
  exact (((Below.refl (w.alloc O1).heap.size (w.alloc O1)).alloc (Nat.le_refl _) O2).block w.heap.size (by simp)).trans (heap_alloc_new w O1)
 have hx2:W0.heap[w.heap.size + 1]? = some O2:=by
  rw [hW0]
  have:=heap_alloc_new (w.alloc O1) O2
  rwa [World.size_alloc] at this
 have hb0:Below w.heap.size w W0:=by rw [hW0];exact ((Below.refl _ _).alloc (Nat.le_refl _) _).alloc (by simp) _
 have k1:=(hb0.cell (p:=⟨b1,0,none⟩) (World.block_lt_of_cell? w _ h1)).trans h1
 have k2:=(hb0.cell (p:=⟨b2,0,none⟩) (World.block_lt_of_cell? w _ h2)).trans h2
 have k3:=(hb0.cell (p:=⟨b3,0,none⟩) (World.block_lt_of_cell? w _ h3)).trans h3
 have HIN:=Lib.hid hi
 have HT:=Lib.hid ht
 have HH:=Lib.hid hh
 have HF:=Lib.hid hf
 have HS0:=Lib.hid hs0
 have HX2:=Lib.hid hx2
 have HB0:=Lib.hid hb0
 have HW0:=Lib.hid hW0
 subst hO1
 subst hO2
 have c0:=cells_at hx1 0
 have c1:=cells_at hx1 1
 have c2:=cells_at hx1 2
 have c3:=cells_at hx1 3
 have c4:=cells_at hx1 4
 clear hi ht hh hf hv hs0 hx1 hx2 hb0 hW0 h1 h2 h3
 rw [HW0.out] at k1 k2 k3 c0 c1 c2 c3 c4
 go_enter Tryz.func37,Tryz.ntmps37
 go_wp2_with fail
 rw [← HW0.out]
 refine (HRS.out W0 (HIN.out.below HB0.out) (HT.out.below HB0.out) (HH.out.below HB0.out) (HF.out.below HB0.out)).mono ?_
 rintro e w1 ⟨pa',pc',ca',cc',rfl,hin,hb1,hf1,hf2⟩
 have HI1:=Lib.hid hin
 have HB1:=Lib.hid (HB0.out.trans (hb1.mono (by have:=HS0.out;omega)))
 have HX:=Lib.hid ((hb1.block (w.heap.size + 1) (by have:=HS0.out;omega)).trans HX2.out)
 have HF1:=Lib.hid hf1
 have HF2:=Lib.hid hf2
 have r0:=cells_at HX.out 0
 have r1:=cells_at HX.out 1
 have r2:=cells_at HX.out 2
 have r3:=cells_at HX.out 3
 have r4:=cells_at HX.out 4
 have f0:=frozen_at HX.out 0
 have f1:=frozen_at HX.out 1
 have f2:=frozen_at HX.out 2
 have f3:=frozen_at HX.out 3
 have f4:=frozen_at HX.out 4
 clear hin hb1 hf1 hf2 c0 c1 c2 c3 c4 k1 k2 k3
 go_wp2
 have hfin:=heap_set5 HX.out (.slice pa' 7 pc') (.slice ca' 7 cc') (.int .i8 0) (.int .u8 1) (.int .u8 1)
 have hres:∀ (tmps:Array Value) (W':World),W'.heap[w.heap.size + 1]? = some (.cells #[.slice pa' 7 pc',.slice ca' 7 cc',.int .i8 0,.int .u8 1,.int .u8 1] 75)→tmps.getD 5 undef = .pointer (some ⟨w.heap.size + 1,0,none⟩)→tmps.getD 6 undef = .int .i64 0→(results Tryz.f37 tmps).run Tryz.prog W' = .ok (.tuple #[.agg #[.slice pa' 7 pc',.slice ca' 7 cc',.int .i8 0,.int .u8 1,.int .u8 1],.int .i64 0]) W':=by
  intro tmps W' h1 h2 h3
  rw [results_cell_tmp rfl]
  have hlv:=run_loadVar_row (P:=Tryz.prog) _ (w.heap.size + 1) 75 75 _ _ _ h1 Tryz.underlying75 rfl (by kernel_rfl)
  rw [h2,h3]
  simp [asAddr,hlv]
 have n1:Away pa' (w.heap.size + 1):=HF1.out.away (by have:=HS0.out;omega)
 have n2:Away ca' (w.heap.size + 1):=HF2.out.away (by have:=HS0.out;omega)
 exact bodyPost_ret (hres _ _ hfin rfl rfl) rfl ⟨pa',pc',ca',cc',rfl,⟨HI1.out.ps.away5 n1 _ _ _ _ _,HI1.out.cs.away5 n2 _ _ _ _ _⟩,below_set5 HB1.out (by omega) _ _ _ _ _,HF1.out.mono (by have:=HS0.out;omega),HF2.out.mono (by have:=HS0.out;omega)⟩
/-- The steps: the weak rules, the brackets, the neutral ones. -/
def stepsP (b1 b2 b3:Nat):List Value:=[.func (.func 25) #[] #[],.func (.func 37) #[] #[.pointer (some ⟨b1,0,none⟩),.pointer (some ⟨b2,0,none⟩),.pointer (some ⟨b3,0,none⟩)],.func (.func 26) #[] #[]]
theorem steps36_any (w:World) (b1 b2:Nat) (fa:Option Addr) (n fc:Nat):Calls Tryz.prog 36 #[.slice fa n fc,.pointer (some ⟨b1,0,none⟩),.pointer (some ⟨b2,0,none⟩)] w fun e w' => e = .returned (.slice (some ⟨w.heap.size + 1,0,none⟩) 3 3) ∧
 w' = (w.alloc (.cells #[.slice fa n fc] 22)).alloc (.cells (stepsP b1 b2 w.heap.size).toArray 91):=by
 go_enter Tryz.func36,Tryz.ntmps36
 go_wp2
 go_ret
 exact ⟨by simp,rfl⟩
/-- What the sequence of the text holds behind each step. -/
def seqT3:Sq:=⟨[0,1,2,3,4,5,6],[1,1,2,2,2,2,4],0,1,1⟩
def cfP (s:Sq):Nat→List Nat
 | 0 => s.cs
 | 1 => weakOf s.sos s.cs
 | 2 => seqT2.cs
 | _ + 3 => seqT3.cs
theorem seq_text:seqsOf firstC (nwsOf (baseOf (-1) firstC) firstC) (lvsOf (baseOf (-1) firstC) firstC) (baseOf (-1) firstC) = [seqT1]:=by rfl
theorem nws_text:nwsOf (baseOf (-1) firstC) firstC = firstC:=by rfl
theorem lay_text:layAll (lvsOf (baseOf (-1) firstC) firstC) [seqT1] cfP 3 = [0,0,1,1,1,1,2]:=by rfl
theorem seqT2_ok:seqT2.Ok:=⟨by decide,by decide,by decide,by decide,by decide,by unfold seqT2 Cl;decide,by decide,by decide,by decide⟩
theorem seqT3_ok:seqT3.Ok:=⟨by decide,by decide,by decide,by decide,by decide,by unfold seqT3 Cl;decide,by decide,by decide,by decide⟩
theorem seqT2_soft:∀ c∈seqT2.cs,Settled c∨neutralB c = true:=by unfold seqT2 Settled;decide
theorem stepsP_ok (Sx:Nat→Prop) (W0:World) (b1 b2 b3:Nat) (hb:Nat) (ta:Option Addr) (tc:Nat) (fb fo fc:Nat)
 (h1:W0.cell? ⟨b1,0,none⟩ = some (.iface 52 (propsV hb))) (h2:W0.cell? ⟨b2,0,none⟩ = some (.slice ta 7 tc)) (h3:W0.cell? ⟨b3,0,none⟩ = some (.slice (some ⟨fb,fo,none⟩) 7 fc))
 (ht:Cells W0 ta (textT.map i32V)) (hh:Cells W0 (some ⟨hb,0,none⟩) (chV handC)) (hf:Cells W0 (some ⟨fb,fo,none⟩) (firstC.map u8V))
 (n1:¬ Sx b1) (n2:¬ Sx b2) (n3:¬ Sx b3) (nt:∀ g∈blk ta,¬ Sx g) (nh:¬ Sx hb) (nf:¬ Sx fb):StepsOk Sx W0 (stepsP b1 b2 b3) [seqT1] cfP:=by
 refine ⟨fun s hs k v hv => ?_⟩
 obtain rfl:s = seqT1:=by simpa using hs
 match k,hv with
 | 0,hv =>
  simp [stepsP] at hv
  subst hv
  refine ⟨25,#[],rfl,enters_of Tryz.func25 (by kernel_rfl) rfl,fun W _ pa pc ca cc hin => ?_⟩
  rw [Array.append_empty]
  exact weak_fresh W seqT1 seqT1_ok pa ca pc cc hin
 | 1,hv =>
  simp [stepsP] at hv
  subst hv
  refine ⟨37,#[.pointer (some ⟨b1,0,none⟩),.pointer (some ⟨b2,0,none⟩),.pointer (some ⟨b3,0,none⟩)],rfl,enters_of Tryz.func37 (by kernel_rfl) rfl,fun W hk pa pc ca cc hin => ?_⟩
  have one:∀ {b:Nat},¬ Sx b→∀ g∈blk (some (⟨b,0,none⟩:Addr)),¬ Sx g:=fun {b} h g hg => by rw [blk_some] at hg;simp at hg;subst hg;exact h
  exact step37_any W b1 b2 b3 hb ta tc pa ca pc cc fb fo fc (hk.cell h1 n1) (hk.cell h2 n2) (hk.cell h3 n3) hin (hk.cells ht nt) (hk.cells hh (one nh)) (hk.cells hf (fun g hg => by rw [blk_some] at hg;simp at hg;subst hg;exact nf))
 | 2,hv =>
  simp [stepsP] at hv
  subst hv
  refine ⟨26,#[],rfl,enters_of Tryz.func26 (by kernel_rfl) rfl,fun W _ pa pc ca cc hin => ?_⟩
  rw [Array.append_empty]
  exact rest_any W seqT2 seqT2_ok seqT2_soft pa ca pc cc hin
 | k + 3,hv => simp [stepsP] at hv
def levelsT:List Int:=[0,0,1,1,1,1,2]
theorem levels_text (w:World) (ca:Option Addr) (cc:Nat) (hc:Cells w ca (firstC.map u8V)) (b1 b2 hb:Nat) (ta:Option Addr) (tc:Nat)
 (h1:w.cell? ⟨b1,0,none⟩ = some (.iface 52 (propsV hb))) (h2:w.cell? ⟨b2,0,none⟩ = some (.slice ta 7 tc)) (ht:Cells w ta (textT.map i32V)) (hh:Cells w (some ⟨hb,0,none⟩) (chV handC)):
 Calls Tryz.prog 23 #[.slice ca 7 cc,.int .i8 (-1),.func (.func 36) #[] #[.pointer (some ⟨b1,0,none⟩),.pointer (some ⟨b2,0,none⟩)]] w fun e w' => ∃ ka kc la lc,e = .returned (.tuple #[.agg #[.int .i8 0,.slice ka 7 kc,.slice la 7 lc],.int .i64 0]) ∧
  Own w' w.heap.size 1 la 7 lc (levelsT.map i8V)∧Below w.heap.size w w':=by
 have hg:=levels_gen w ca cc firstC (-1) (.inl rfl) (by decide) hc (by decide) ((lastB_iff firstC).1 rfl) 36 #[.pointer (some ⟨b1,0,none⟩),.pointer (some ⟨b2,0,none⟩)] (enters_of Tryz.func36 (by kernel_rfl) rfl) 3 (by decide) cfP (fun s => rfl) (fun W hbW Sx na nc hSx hcn => ?_) (fun s hs => ?_)
 · refine hg.mono ?_
   rintro e w' ⟨ka,kc,la,lc,rfl,_,ho,hb⟩
   rw [seq_text,lay_text] at ho
   exact ⟨ka,kc,la,lc,rfl,ho,hb⟩
 · rw [nws_text] at hcn
   obtain ⟨fb,fo,rfl,_⟩:=hcn.getm (k:=0) (x:=1) rfl
   refine (steps36_any W b1 b2 (some ⟨fb,fo,none⟩) 7 nc).mono ?_
   rintro e w' ⟨rfl,rfl⟩
   have hA:Below W.heap.size W (W.alloc (.cells #[.slice (some ⟨fb,fo,none⟩) 7 nc] 22)):=(Below.refl _ _).alloc (Nat.le_refl _) _
   have hB:Below W.heap.size W ((W.alloc (.cells #[.slice (some ⟨fb,fo,none⟩) 7 nc] 22)).alloc (.cells (stepsP b1 b2 W.heap.size).toArray 91)):=hA.alloc (by simp) _
   have hx:((W.alloc (.cells #[.slice (some ⟨fb,fo,none⟩) 7 nc] 22)).alloc (.cells (stepsP b1 b2 W.heap.size).toArray 91)).heap[W.heap.size]? = some (.cells #[.slice (some ⟨fb,fo,none⟩) 7 nc] 22):=
    (((Below.refl (W.alloc (.cells #[.slice (some ⟨fb,fo,none⟩) 7 nc] 22)).heap.size _).alloc (Nat.le_refl _) _).block W.heap.size (by simp)).trans (heap_alloc_new W _)
   have hw2:=hbW.trans (hB.mono hbW.size)
   have old:∀ g,g < w.heap.size→¬ Sx g:=fun g hg hs => by have:=(hSx g hs).1;omega
   have hcs:=Cells.new (W.alloc (.cells #[.slice (some ⟨fb,fo,none⟩) 7 nc] 22)) (stepsP b1 b2 W.heap.size) 91
   rw [World.size_alloc] at hcs
   refine ⟨_,_,stepsP b1 b2 W.heap.size,rfl,rfl,hcs,?_,hB,fun g hg => by rw [blk_some] at hg;simp at hg;omega⟩
   rw [seq_text]
   have lt:∀ g∈blk ta,g < w.heap.size:=fun g hg => by
    obtain ⟨b,o,he,h6⟩:=ht.getm (k:=0) (x:=97) rfl
    rw [he,blk_some] at hg
    simp at hg
    subst hg
    exact World.block_lt_of_cell? w _ h6
   have lh:hb < w.heap.size:=by
    obtain ⟨b,o,he,h6⟩:=hh.getv (k:=0) rfl
    cases he
    exact World.block_lt_of_cell? w _ h6
   exact stepsP_ok Sx _ b1 b2 W.heap.size hb ta tc fb fo nc ((hw2.cell (World.block_lt_of_cell? w _ h1)).trans h1) ((hw2.cell (World.block_lt_of_cell? w _ h2)).trans h2) (cells_at hx 0) (ht.below hw2) (hh.below hw2) (hcn.below hB)
    (old _ (World.block_lt_of_cell? w _ h1)) (old _ (World.block_lt_of_cell? w _ h2)) (fun h => by have:=(hSx _ h).2.1;omega) (fun g hg => old g (lt g hg)) (old _ lh) (fun h => (hSx _ h).2.2 (by rw [blk_some];simp))
 · rw [seq_text] at hs
   obtain rfl:s = seqT1:=by simpa using hs
   exact ⟨fun k => match k with | 0 => rfl | 1 => rfl | 2 => rfl | _ + 3 => rfl,seqT3_ok,by decide,by unfold Settled;decide⟩
end Go.Proofs.YtjnidopbdjbbgaaGreat
