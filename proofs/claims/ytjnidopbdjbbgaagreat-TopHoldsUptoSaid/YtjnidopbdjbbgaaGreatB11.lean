/-
  The explicit rules: Explicit, walked.
-/
import Derived.Test.YtjnidopbdjbbgaaGreatB09
import Derived.RangeFuncCalls
import Derived.Shelf.Abstract
namespace Go.Proofs.YtjnidopbdjbbgaaGreat
open Go.RowKit Go.Shelf
set_option linter.unusedVariables false
attribute [local go_sem] Oper.semAt_some
/-- All that is asked ahead of Explicit's loop. -/
theorem expl_start (w w1 w2 w3 W0:World) (a:Option Addr) (c n:Nat) (l:List Nat) (base sb mg ag:Nat) (pa:Option Addr) (pc:Nat) (O1 O2:Obj) (hb:base≤1) (hn:n≤1048576) (hN:n = l.length) (hc:Cells w a (l.map u8V)) (h23:∀ x∈l,1≤x∧x≤23) (hB:BLast l)
 (hs1:StackAt w1 (w.alloc O1).heap.size sb pa pc (St.first base)) (hb1:Below w.heap.size w w1) (hr1:w1.heap[w.heap.size]? = some O1) (ho1:O1.isCells = true) (he2:Below w1.heap.size w1 w2) (m:Value) (hmm:∃ ma mn mc,m = .slice ma mn mc)
 (ho2:O2 = .cells #[.slice none 0 0,.slice none 0 0,m] 84) (ha3:Own w3 (w2.alloc O2).heap.size 1 (some ⟨ag,0,none⟩) (n + 1) (n + 1) ((autosOf (matchOf l) 0 l).map n8V)) (he3:Below (w2.alloc O2).heap.size (w2.alloc O2) w3)
 (hW:W0 = ((w3.alloc (.cells #[.pointer (some ⟨sb,0,none⟩)] 123)).alloc (.cells #[.slice a n c] 22)).alloc (.cells #[.slice (some ⟨ag,0,none⟩) (n + 1) (n + 1)] 27)):
 ∃ fx:List Nat,w.heap.size∈fx∧(∀ k∈fx,k < W0.heap.size∧∃ o:Obj,W0.heap[k]? = some o∧o.isCells = true)∧W0.heap[w.heap.size]? = some O1∧w.heap.size≤W0.heap.size ∧
  ExI w sb w2.heap.size fx (explicitOf base l) [] W0∧StT W0 w.heap.size sb fx (St.first base) (l.zip ((autosOf (matchOf l) 0 l).drop 1)) [] W0 ∧
  SeqT Fence.wide 4 Tryz.prog 111 #[.pointer (some ⟨w3.heap.size + 1,0,none⟩),.pointer (some ⟨w3.heap.size,0,none⟩),.pointer (some ⟨w3.heap.size + 2,0,none⟩)] (tellV (explicitOf base l)) (StT W0 w.heap.size sb fx (St.first base) (l.zip ((autosOf (matchOf l) 0 l).drop 1))) (StA w.heap.size sb) (List.range l.length):=by
 subst hN
 have e1:=hs1.ge
 simp only [World.size_alloc] at e1
 have e2:=hs1.lt
 have e3:=hs1.own.blk_lt
 simp only [World.size_alloc] at e3
 have e4:∀ g∈blk pa,g≠sb:=fun g hg e => hs1.apart (by rw [← blk_mem,← e];exact hg)
 have e5:=he2.size
 have e6:=ha3.lt
 simp only [World.size_alloc] at e6
 have e7:=he3.size
 simp only [World.size_alloc] at e7
 have s0:W0.heap.size = w3.heap.size + 3:=by rw [hW];simp
 -- from w3 on
 have f3:∀ k,k < w3.heap.size→W0.heap[k]? = w3.heap[k]?:=fun k hk => by
  rw [hW]
  exact (Below.heap_alloc _ _ k (by simp;omega)).trans ((Below.heap_alloc _ _ k (by simp;omega)).trans (Below.heap_alloc _ _ k hk))
 have f2:∀ k,k < w2.heap.size→W0.heap[k]? = w2.heap[k]?:=fun k hk => (f3 k (by omega)).trans ((he3.block k (by simp;omega)).trans (Below.heap_alloc _ _ k hk))
 have f1:∀ k,k < w1.heap.size→W0.heap[k]? = w1.heap[k]?:=fun k hk => (f2 k (by omega)).trans (he2.block k hk)
 have hx:W0.heap[w2.heap.size]? = some O2:=(f3 _ (by omega)).trans ((he3.block _ (by simp)).trans (heap_alloc_new w2 O2))
 have h3:W0.heap[w3.heap.size]? = some (.cells #[.pointer (some ⟨sb,0,none⟩)] 123):=by
  rw [hW]
  exact (Below.heap_alloc _ _ _ (by simp;omega)).trans ((Below.heap_alloc _ _ _ (by simp)).trans (heap_alloc_new _ _))
 have h4:W0.heap[w3.heap.size + 1]? = some (.cells #[.slice a l.length c] 22):=by
  rw [hW]
  refine (Below.heap_alloc _ _ _ (by simp)).trans ?_
  have:=heap_alloc_new (w3.alloc (.cells #[.pointer (some ⟨sb,0,none⟩)] 123)) (.cells #[.slice a l.length c] 22)
  rwa [World.size_alloc] at this
 have h5:W0.heap[w3.heap.size + 2]? = some (.cells #[.slice (some ⟨ag,0,none⟩) (l.length + 1) (l.length + 1)] 27):=by
  rw [hW]
  have:=heap_alloc_new ((w3.alloc (.cells #[.pointer (some ⟨sb,0,none⟩)] 123)).alloc (.cells #[.slice a l.length c] 22)) (.cells #[.slice (some ⟨ag,0,none⟩) (l.length + 1) (l.length + 1)] 27)
  rwa [World.size_alloc,World.size_alloc] at this
 have hb3:Below w3.heap.size w3 W0:=by
  rw [hW]
  exact (((Below.refl _ _).alloc (Nat.le_refl _) _).alloc (by simp) _).alloc (by simp;omega) _
 have hb0:Below w.heap.size w W0:=after (after ((after hb1 he2).alloc (after hb1 he2).size _) he3) hb3
 have hst:StackAt W0 w.heap.size sb pa pc (St.first base):=by
  have k1:=(hs1.below he2).below ((Below.refl _ w2).alloc (Nat.le_refl _) O2)
  exact ((k1.below he3).below hb3).mono (by simp)
 have hag:∀ (k v:Nat),(autosOf (matchOf l) 0 l)[k]? = some v→W0.cell? ⟨ag,k,none⟩ = some (n8V v):=fun k v hk => by
  rw [World.cell?_of_block (w:=w3) (f3 ag e6.2)]
  exact (ha3.getm hk).1
 have hAl:(autosOf (matchOf l) 0 l).length = l.length + 1:=autos_len _ _ _
 have hfx:∀ k∈[w.heap.size,w3.heap.size,w3.heap.size + 1,w3.heap.size + 2,ag],k < W0.heap.size∧∃ o:Obj,W0.heap[k]? = some o∧o.isCells = true:=by
  intro k hk
  simp only [List.mem_cons,List.not_mem_nil,or_false] at hk
  rcases hk with rfl | rfl | rfl | rfl | rfl
  · exact ⟨by omega,_,(f1 _ (by omega)).trans hr1,ho1⟩
  · exact ⟨by omega,_,h3,rfl⟩
  · exact ⟨by omega,_,h4,rfl⟩
  · exact ⟨by omega,_,h5,rfl⟩
  · refine ⟨by omega,?_⟩
    obtain ⟨v,hv⟩:∃ v,(autosOf (matchOf l) 0 l)[0]? = some v:=⟨_,List.getElem?_eq_getElem (by omega)⟩
    exact cells_of_cell (hag 0 v hv)
 have hpf:∀ k∈[w.heap.size,w3.heap.size,w3.heap.size + 1,w3.heap.size + 2,ag],blockOf pa≠some k:=by
  intro k hk e
  have hm:=e3 k (blk_mem.2 e)
  simp only [List.mem_cons,List.not_mem_nil,or_false] at hk
  omega
 have hans:=explicit_eq base l hB
 have hlen:(explicitOf base l).length = l.length:=by rw [← hans,answers_len,List.length_zip,List.length_drop,hAl];omega
 refine ⟨[w.heap.size,w3.heap.size,w3.heap.size + 1,w3.heap.size + 2,ag],by simp,hfx,(f1 _ (by omega)).trans hr1,by omega,?_,?_,?_⟩
 · subst ho2
   refine ⟨Nat.zero_le _,⟨none,0,none,0,m,hmm,hx,by simpa using Own.nil _ _ _,by simpa using Own.nil _ _ _,.inl rfl,.inl rfl,pa,_,_,_,_,_,hst.box,⟨?_,fun g hg => by simp [blk,blockOf] at hg,fun g hg => by simp [blk,blockOf] at hg,fun g hg e => ?_⟩⟩,hb0,by have:=hb1.size;omega,by omega,fun k hk => ?_⟩
   · simp only [List.mem_cons,List.not_mem_nil,or_false]
     omega
   · have:=e3 g hg;omega
   · rcases List.mem_cons.1 hk with rfl | hk
     · omega
     · exact (hfx k hk).1
 · exact ⟨rfl,⟨pa,pc,hst,hpf⟩,fun k _ => rfl,Below.refl _ _⟩
 · rw [← hans]
   refine steps_seq 4 (by omega) W0 w.heap.size sb w3.heap.size (w3.heap.size + 1) (w3.heap.size + 2) ag c a l (autosOf (matchOf l) 0 l) (St.first base) _ _ (by omega) (by rw [List.length_zip,List.length_drop,hAl];omega) (fun k x hk => ?_) h23 hAl (fun k hk => ?_) (fun W hW' => ?_) hag h3 h4 h5 (by simp) ?_ (fun k hk => (hfx k hk).1)
   · have hkl:=(List.getElem?_eq_some_iff.1 hk).1
     obtain ⟨v,hv⟩:∃ v,(autosOf (matchOf l) 0 l)[k + 1]? = some v:=⟨_,List.getElem?_eq_getElem (by omega)⟩
     refine ⟨v,?_,hv,autos_le _ _ _ v (List.mem_of_getElem? hv)⟩
     rw [List.getElem?_zip_eq_some]
     exact ⟨hk,by rw [List.getElem?_drop,Nat.add_comm];exact hv⟩
   · refine fit_run base hb _ _ ?_ (by omega)
     rw [List.length_take,List.length_zip,List.length_drop,hAl]
     omega
   · exact hc.below (hb0.trans hW')
   · simp only [List.mem_cons,List.not_mem_nil,or_false]
     omega
set_option maxRecDepth 100000 in
set_option maxHeartbeats 8000000 in
theorem explicit_in (w:World) (a:Option Addr) (c:Nat) (l:List Nat) (base:Nat) (hb:base≤1) (hn:l.length≤1048576) (hc:Cells w a (l.map u8V)) (h23:∀ x∈l,1≤x∧x≤23) (hB:BLast l):
 CallsIn Fence.wide 5 Tryz.prog 40 #[.int .i8 base,.slice a l.length c] w fun e w' => ∃ la lc ca cc ma mn mc,e = .returned (.tuple #[.agg #[.slice la l.length lc,.slice ca l.length cc,.slice ma mn mc],.int .i64 0]) ∧
  Own w' w.heap.size 1 la l.length lc ((explicitOf base l).map fun x => i8V (lvI x.1))∧Own w' w.heap.size 1 ca l.length cc ((explicitOf base l).map fun x => u8V x.2)∧(∀ g∈blk la,g ∉ blk ca)∧Below w.heap.size w w':=by
 obtain ⟨ia,hia,hza0,hza1,hza2⟩:=info_parts info26
 obtain ⟨ib,hib,hzb0,hzb1,hzb2⟩:=info_parts info35
 have HNEW:=Lib.hid (fun w => new_any w base hb)
 have HC:=Lib.hid hc
 have HMT:=Lib.hid (fun w h => match_any w a c l (by omega) h h23)
 have HAU:=Lib.hid (fun w mg hc hm => autos_any w a c mg l (matchOf l) (by omega) hc hm (matchOf_len l) (fun i x m => match_behind l i x m))
 have H23:=Lib.hid h23
 have HBL:=Lib.hid hB
 have HBA:=Lib.hid hb
 obtain ⟨n,hnn⟩:∃ n,n = l.length:=⟨_,rfl⟩
 rw [← hnn] at hn HMT HAU ⊢
 have HN:=Lib.hid hnn
 clear hc h23 hB hnn hb
 have hn2:(n:Int)≤1048576:=by omega
 refine callsIn_of_wp_marks Tryz.func40 rfl trivial ?_ rfl
 simp only [Tryz.ntmps40,List.size_toArray,List.length_cons,List.length_nil,Nat.reduceAdd,Nat.reduceSub,Array.replicate_succ,Array.replicate_zero,List.push_toArray,List.append_toArray,List.nil_append,List.cons_append]
 refine wpIn_wide.2 ?_
 go_wp2_with (first | (go_at_call 66;refine (HNEW.out _).mono ?_;rintro e w1 ⟨sb,pa,pc,rfl,hs1,hb1⟩;have HS1:=Lib.hid hs1;have HB1:=Lib.hid (((Below.refl _ w).alloc (Nat.le_refl _) _).trans (hb1.mono (by simp)));have HR1:=Lib.hid ((hb1.block w.heap.size (by simp)).trans (heap_alloc_new w _));clear hs1 hb1) | (go_at_call 67;refine (HMT.out _ (HC.out.below HB1.out)).mono ?_;rintro e w2 ⟨mg,rfl,hown2,hb2⟩;have HM2:=Lib.hid hown2;have HE2:=Lib.hid hb2;clear hown2 hb2) | (go_at_call 69;refine (HAU.out _ mg (HC.out.below (((after HB1.out HE2.out).alloc (after HB1.out HE2.out).size _))) (HM2.out.alloc _).toCells).mono ?_;rintro e w3 ⟨ag,rfl,hown3,hb3⟩;have HA3:=Lib.hid hown3;have HE3:=Lib.hid hb3;clear hown3 hb3) | (go_at_call 68;refine (stepsF_any _ sb a n c ag _ _).mono ?_;rintro e w5 ⟨rfl,rfl⟩))
 obtain ⟨fx,hrb,hfx,hr0,hsz0,hI0,hT0,hseq⟩:=expl_start w w1 w2 w3 _ a c n l base sb mg ag pa pc _ _ HBA.out hn HN.out HC.out H23.out HBL.out HS1.out HB1.out HR1.out rfl HE2.out _ ⟨_,_,_,rfl⟩ rfl HA3.out HE3.out rfl
 obtain ⟨xb,hxb⟩:∃ xb,xb = w2.heap.size:=⟨_,rfl⟩
 obtain ⟨b3,hb3⟩:∃ b3,b3 = w3.heap.size:=⟨_,rfl⟩
 have hlen:(explicitOf base l).length = n:=by rw [← explicit_eq base l HBL.out,answers_len,List.length_zip,List.length_drop,autos_len,HN.out];omega
 rw [← hxb] at hI0
 rw [← hb3] at hseq
 simp only [← hxb,← hb3]
 generalize ((w3.alloc (.cells #[.pointer (some ⟨sb,0,none⟩)] 123)).alloc (.cells #[.slice a n c] 22)).alloc (.cells #[.slice (some ⟨ag,0,none⟩) (n + 1) (n + 1)] 27) = W0 at *
 have HSZ:=Lib.hid hsz0
 have HR0:=Lib.hid hr0
 have HRB:=Lib.hid hrb
 have HFX:=Lib.hid hfx
 have HLEN:=Lib.hid hlen
 clear hsz0 hr0 hrb hfx hlen hxb hb3 HS1 HB1 HR1 HM2 HE2 HA3 HE3 HNEW HMT HAU
 refine (wpIn_wide (n:=5)).1 ?_
 refine wpIn_rangeT rfl (by omega) (gf:=111) (lb:=#[.pointer (some ⟨b3 + 1,0,none⟩),.pointer (some ⟨b3,0,none⟩),.pointer (some ⟨b3 + 2,0,none⟩)]) rfl trivial (enters_of Tryz.func111 (by kernel_rfl) rfl) (encs:=tellV (explicitOf base l)) (fun x => rfl) hseq
  (ExI w sb xb fx (explicitOf base l)) (fun A C h => h.others) (fun pre A C h ha => h.step ha) (ExI.own w sb xb fx _ _ HSZ.out) (StT.own W0 w.heap.size sb fx _ _ _ HSZ.out HSZ.out (fun k hk => (HFX.out k hk).2)) hI0 hT0 ?round ?done
 case round =>
  intro lp pre x W hI hT hpx
  obtain ⟨la,lc,ca,cc,m,hm,h1,h2,h3,h4,h5,pa0,n',pc0,x0,y0,z0,h6,h7⟩:=hI.box
  have hxk:x = pre.length:=by
   have:=hT.range
   rw [List.length_append,List.length_singleton,List.range_succ] at this
   exact (List.append_inj_right' this rfl) |> fun e => by simpa using e
  have hkl:pre.length < (explicitOf base l).length:=by
   have:=hpx.length_le
   rw [List.length_append,List.length_singleton,List.length_range,← HN.out] at this
   rw [HLEN.out];omega
  obtain ⟨o,kc,hok⟩:∃ o kc,(explicitOf base l)[pre.length]? = some (o,kc):=⟨_,_,List.getElem?_eq_getElem hkl⟩
  have htv:tellV (explicitOf base l) x = #[.int .i64 x,.agg #[.int .i8 (lvI o),.int .u8 kc]]:=by
   unfold tellV
   rw [hxk,List.getD_eq_getElem?_getD,hok]
   rfl
  rw [htv]
  have HI:=Lib.hid hI
  have HT:=Lib.hid hT
  have H2:=Lib.hid h2
  have H3:=Lib.hid h3
  have H7:=Lib.hid h7
  have HOK:=Lib.hid hok
  have HKL:Hid (pre.length < n):=Lib.hid (by rw [← HLEN.out];exact hkl)
  clear hI hT h2 h3 h7 hok hpx hkl htv hxk
  gi_wp2
  refine ⟨KeepsOthers.alloc _ _,fun W2 hg hlp ho => ?_⟩
  have hr2:∀ r,some lp = some r→∃ o':Obj,(W.alloc (.cells #[.int .i8 (lvI o),.int .u8 kc] 131)).heap[r]? = some o'∧o'.isCells = false:=fun r e => by cases e;exact ho
  have k1:=cells_others ((Below.heap_alloc W (.cells #[.int .i8 (lvI o),.int .u8 kc] 131) xb HI.out.fresh.2.1).trans h1) hg hr2
  have k6:=cells_others ((Below.heap_alloc W (.cells #[.int .i8 (lvI o),.int .u8 kc] 131) sb (HI.out.fresh.2.2 sb (by simp))).trans h6) hg hr2
  have ks:=cells_others (heap_alloc_new W (.cells #[.int .i8 (lvI o),.int .u8 kc] 131)) hg hr2
  have K2:=Lib.hid ((H2.out.alloc (.cells #[.int .i8 (lvI o),.int .u8 kc] 131)).others hg hr2)
  have K3:=Lib.hid ((H3.out.alloc (.cells #[.int .i8 (lvI o),.int .u8 kc] 131)).others hg hr2)
  have HI2:=Lib.hid (ExI.own w sb xb fx _ _ HSZ.out pre _ W2 (some lp) ((ExI.own w sb xb fx _ _ HSZ.out).alloc _ HI.out) hg (fun r e => by cases e;exact ⟨hlp,ho⟩))
  have HT2:=Lib.hid (StT.own W0 w.heap.size sb fx _ _ _ HSZ.out HSZ.out (fun k hk => (HFX.out k hk).2) _ _ W2 (some lp) ((StT.own W0 w.heap.size sb fx _ _ _ HSZ.out HSZ.out (fun k hk => (HFX.out k hk).2)).alloc _ HT.out) hg (fun r e => by cases e;exact ⟨hlp,ho⟩))
  obtain ⟨sk,hsk⟩:∃ sk,sk = W.heap.size:=⟨_,rfl⟩
  have hsl:sk ∉ blk la:=fun h => by have:=(H2.out.blk_lt sk h).2;omega
  have hsx:sk≠xb:=by have:=HI.out.fresh.2.1;omega
  rw [← hsk] at ks
  simp only [← hsk]
  have HKS:=Lib.hid ks
  have HK1:=Lib.hid k1
  have HK6:=Lib.hid k6
  have HSL:=Lib.hid hsl
  have HSX:=Lib.hid hsx
  have HBW:=Lib.hid HI2.out.below.size
  have hpl:pre.length≤1048576:=by have:=HKL.out;omega
  have c0:=cells_at k1 0
  have d0:=cells_at ks 0
  have HX:=Lib.hid (fun h => (H7.out.l _ h).1 (by simp):xb ∉ blk la)
  have HXC:=Lib.hid (fun h => (H7.out.c _ h).1 (by simp):xb ∉ blk ca)
  clear h1 h6 hg hlp ho hr2 k1 k6 ks HI HT H2 H3 hsl hsx hsk
  gi_wp2_with (first | (gi_at_builtin;refine wpListIn_push rfl _ _ 27 rfl 26 ia (.int .i8 0) 1 Tryz.underlying27 hia hza0 hza1 hza2 rfl rfl w.heap.size la pre.length lc _ rfl W2 _ rfl K2.out _ rfl rfl rfl (by omega) (by decide) HBW.out ?_;intro la' lc' w4 hown4 hap4 hb4;obtain ⟨q1,q2,q3,q4,q5⟩:=expl_mid HK1.out K2.out K3.out h4 HX.out HXC.out (fun g h => (H7.out.l g h).2.1) HI2.out.fresh.1 HBW.out HKS.out HSL.out HSX.out hown4 hap4;have HO4:=Lib.hid hown4;have HP4:=Lib.hid hap4;have HQ3:=Lib.hid q3;have HQ5:=Lib.hid q5;have HQ2:=Lib.hid q2;have e0:=cells_at q1 0;have f0:=frozen_at q1 0;have e1:=cells_at q2 1;have d1:=cells_at q4 1;clear hown4 hap4 hb4 q1 q2 q3 q4 q5) | (gi_at_builtin;refine wpListIn_push rfl _ _ 22 rfl 35 ib (.int .u8 0) 1 Tryz.underlying22 hib hzb0 hzb1 hzb2 rfl rfl w.heap.size ca pre.length cc _ rfl _ _ rfl HQ3.out _ rfl (by simp) rfl (by omega) (by decide) HQ5.out ?_;intro ca' cc' w6 hown6 hap6 hb6;obtain ⟨r1,_⟩:=push_box (j:=1) (u:=.slice ca' (pre.length + 1) cc') HQ3.out h5 HQ2.out HXC.out HI2.out.fresh.1 HQ5.out hown6 hap6;have HO6:=Lib.hid hown6;have HP6:=Lib.hid hap6;have e6:=cells_at r1 1;have f6:=frozen_at r1 1;clear hown6 hap6 hb6 r1))
  exact expl_round hm HI2.out HT2.out HOK.out HK1.out K2.out K3.out h4 h5 HK6.out H7.out HO4.out HP4.out HO6.out HP6.out
 case done =>
  intro D W hD hI hT hK
  obtain ⟨la,lc,ca,cc,m,hm,h1,h2,h3,h4,h5,pa0,n',pc0,x0,y0,z0,h6,h7⟩:=hI.box
  obtain ⟨ma,mn,mc,rfl⟩:=hm
  rw [List.length_range,← HN.out] at h1 h2 h3
  have hrs:W.heap[w.heap.size]? = some (.cells #[.slice none 0 0,.slice none 0 0,.slice none 0 0] 84):=(hT.same _ HRB.out).trans HR0.out
  have c0:=cells_at h1 0
  have c1:=cells_at h1 1
  have c2:=cells_at h1 2
  have d0:=cells_at hrs 0
  have d1:=cells_at hrs 1
  have d2:=cells_at hrs 2
  have f0:=frozen_at hrs 0
  have f1:=frozen_at hrs 1
  have f2:=frozen_at hrs 2
  have HI:=Lib.hid hI
  have HT:=Lib.hid hT
  have HK:=Lib.hid hK
  have HRS:=Lib.hid hrs
  have H2:=Lib.hid h2
  have H3:=Lib.hid h3
  have H7:=Lib.hid h7
  have HD:=Lib.hid hD
  clear hI hT hK h1 h2 h3 h6 h7 hrs hD hT0 hI0 hseq
  go_wp2
  have hfin:=heap_set3 HRS.out (.slice la n lc) (.slice ca n cc) (.slice ma mn mc)
  have hne:D≠w.heap.size:=fun e => by
   have h1:=HK.out
   rw [e,HRS.out] at h1
   cases h1
  have hkd:=heap_other (heap_other (heap_other HK.out hne (j:=0) (.slice la n lc)) hne (j:=1) (.slice ca n cc)) hne (j:=2) (.slice ma mn mc)
  refine ⟨by simp,.inl ⟨_,_,rfl,run_takeDeferred hkd,?_⟩⟩
  have hfin2:=(World.putObj_heap_other (w:=((W.setCell ⟨w.heap.size,0,none⟩ (.slice la n lc)).setCell ⟨w.heap.size,1,none⟩ (.slice ca n cc)).setCell ⟨w.heap.size,2,none⟩ (.slice ma mn mc)) (o:=.deferred none) (Ne.symm hne)).trans hfin
  have hlv:=run_loadVar_row (P:=Tryz.prog) _ w.heap.size 84 84 _ _ _ hfin2 Tryz.underlying84 rfl (by kernel_rfl)
  refine ⟨.tuple #[.agg #[.slice la n lc,.slice ca n cc,.slice ma mn mc],.int .i64 0],?_,la,lc,ca,cc,ma,mn,mc,rfl,?_,?_,?_,?_⟩
  · rw [results_cell_tmp rfl]
    simp [asAddr,hlv]
  · have ne:∀ g,la = some ⟨g,0,none⟩→g≠w.heap.size:=fun g hg e => (H7.out.l g (blk_mem.2 (blockOf_some hg))).1 (by rw [e];simp [HRB.out])
    have h1:=(((H2.out.stored_other ⟨w.heap.size,0,none⟩ (.slice la n lc) ne).stored_other ⟨w.heap.size,1,none⟩ (.slice ca n cc) ne).stored_other ⟨w.heap.size,2,none⟩ (.slice ma mn mc) ne).others (grownBy_putObj' _ D (.deferred none)) (fun r e => by cases e;exact ⟨_,hkd,rfl⟩)
    refine h1.eqL ?_
    rw [List.take_of_length_le (by rw [HLEN.out];exact Nat.le_refl _)]
  · have ne:∀ g,ca = some ⟨g,0,none⟩→g≠w.heap.size:=fun g hg e => (H7.out.c g (blk_mem.2 (blockOf_some hg))).1 (by rw [e];simp [HRB.out])
    have h1:=(((H3.out.stored_other ⟨w.heap.size,0,none⟩ (.slice la n lc) ne).stored_other ⟨w.heap.size,1,none⟩ (.slice ca n cc) ne).stored_other ⟨w.heap.size,2,none⟩ (.slice ma mn mc) ne).others (grownBy_putObj' _ D (.deferred none)) (fun r e => by cases e;exact ⟨_,hkd,rfl⟩)
    refine h1.eqL ?_
    rw [List.take_of_length_le (by rw [HLEN.out];exact Nat.le_refl _)]
  · exact fun g hg => (H7.out.l g hg).2.1
  · have hb:=((HI.out.below.setCell (p:=⟨w.heap.size,0,none⟩) (Nat.le_refl _) (.slice la n lc)).setCell (p:=⟨w.heap.size,1,none⟩) (Nat.le_refl _) (.slice ca n cc)).setCell (p:=⟨w.heap.size,2,none⟩) (Nat.le_refl _) (.slice ma mn mc)
    exact hb.grown (grownBy_putObj' _ D (.deferred none)) hb.size (fun k e => by cases e;have:=HD.out;have:=HSZ.out;omega)
theorem explicit_any (w:World) (a:Option Addr) (c:Nat) (l:List Nat) (base:Nat) (hb:base≤1) (hn:l.length≤1048576) (hc:Cells w a (l.map u8V)) (h23:∀ x∈l,1≤x∧x≤23) (hB:BLast l):
 Calls Tryz.prog 40 #[.int .i8 base,.slice a l.length c] w fun e w' => ∃ la lc ca cc ma mn mc,e = .returned (.tuple #[.agg #[.slice la l.length lc,.slice ca l.length cc,.slice ma mn mc],.int .i64 0]) ∧
  Own w' w.heap.size 1 la l.length lc ((explicitOf base l).map fun x => i8V (lvI x.1))∧Own w' w.heap.size 1 ca l.length cc ((explicitOf base l).map fun x => u8V x.2)∧(∀ g∈blk la,g ∉ blk ca)∧Below w.heap.size w w':=
 callsIn_wide.1 (explicit_in w a c l base hb hn hc h23 hB)
end Go.Proofs.YtjnidopbdjbbgaaGreat
