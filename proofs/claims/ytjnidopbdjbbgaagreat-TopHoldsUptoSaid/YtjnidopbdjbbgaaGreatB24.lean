/-
  The sequences: walked.
-/
import Derived.Test.YtjnidopbdjbbgaaGreatB23
import Derived.Test.YtjnidopbdjbbgaaGreatB19
import Derived.Test.YtjnidopbdjbbgaaGreatB22
import Derived.Test.YtjnidopbdjbbgaaGreatB21
import Derived.RangeFuncCalls
import Derived.Deep.CutBlock
import Derived.Shelf.Abstract
namespace Go.Proofs.YtjnidopbdjbbgaaGreat
open Go.RowKit Go.Shelf Go.Maps
set_option linter.unusedVariables false
attribute [local go_sem] Oper.semAt_some
set_option maxRecDepth 100000 in
set_option maxHeartbeats 8000000 in
theorem seqs_in (w:World) (ca na la:Option Addr) (cc nc lc:Nat) (l nw:List Nat) (lv:List Int) (base:Nat) (hb:base≤1) (hn:l.length≤1048576) (hnw:nw.length = l.length) (hlv:lv.length = l.length) (hc:Cells w ca (l.map u8V)) (hcn:Cells w na (nw.map u8V)) (hcl:Cells w la (lv.map i8V)) (h23:∀ x∈l,1≤x∧x≤23)
 (hlk:∀ x∈keptOf l,∃ v:Nat,lv[x]? = some (v:Int)∧v≤126) (hnk:∀ x∈keptOf l,∃ c,nw[x]? = some c∧1≤c∧c≤23∧rem c = false):
 CallsIn Fence.wide 5 Tryz.prog 42 #[.slice ca l.length cc,.slice na l.length nc,.slice la l.length lc,.int .i8 base] w fun e w' => ∃ oa oc S,e = .returned (.tuple #[.slice oa S.length oc,.int .i64 0])∧S.map (·.q) = seqsOf l nw lv base∧Outs w' w.heap.size oa oc S∧Below w.heap.size w w':=by
 obtain ⟨ia,hia,hza0,hza1,hza2⟩:=info_parts info3
 have HC:=Lib.hid hc
 have HCN:=Lib.hid hcn
 have HLV:=Lib.hid hlv
 have HCL:=Lib.hid hcl
 have HLK:=Lib.hid hlk
 have HNK:=Lib.hid hnk
 have HKI:=Lib.hid (fun x (hx:x∈keptOf l) => (mem_keptOf.1 hx).1)
 have HMT:=Lib.hid (fun w h => match_any w ca cc l (by omega) h h23)
 have HKP:=Lib.hid (fun w h => kept_any w ca cc l (by omega) h h23)
 have H23:=Lib.hid h23
 obtain ⟨n,hnn⟩:∃ n,n = l.length:=⟨_,rfl⟩
 rw [← hnn] at hn HMT HKP ⊢
 have HN:=Lib.hid hnn
 clear hc h23 hnn hcn hcl hlk hnk
 have hn2:(n:Int)≤1048576:=by omega
 refine callsIn_of_wp_marks Tryz.func42 rfl trivial ?_ rfl
 simp only [Tryz.ntmps42,List.size_toArray,List.length_cons,List.length_nil,Nat.reduceAdd,Nat.reduceSub,Array.replicate_succ,Array.replicate_zero,List.push_toArray,List.append_toArray,List.nil_append,List.cons_append]
 refine wpIn_wide.2 ?_
 have hb0:(0:Int)≤(base:Int):=by omega
 obtain ⟨bi,hbi⟩:∃ bi:Int,bi = base:=⟨_,rfl⟩
 rw [← hbi]
 have HBI:=Lib.hid hbi
 clear hbi hb0
 go_wp2
 go_step3
 go_upto_region 2 with (fail)
 go_cut [49] from 32 to 48 (fun s49 wx => s49 = .bool false∧w = wx)
 case first =>
  rcases (show bi = 0∨bi = 1 by have:=HBI.out;omega) with rfl | rfl
  all_goals
   go_wp2
   go_meet
   case rel => exact ⟨rfl,rfl⟩
 case rest =>
 obtain ⟨rfl,rfl⟩:=hcut
 go_wp2_with fail
 go_cut [11] from 50 to 61 (fun s11 wx => ∃ tb ka kc xg mg,s11 = .pointer (some ⟨tb,0,none⟩)∧Made w ca na la cc nc lc n base (keptOf l) (matchOf l) (List.replicate n 0) tb ka kc xg mg wx)
 case first =>
  have hmk:=fun w => mk33 w n hn
  refine wp_region_noPanic ?_
  go_region_with (first | (go_at_call 70;refine (HKP.out _ (HC.out.below (by first | exact (Below.refl _ _).drew | exact ((Below.refl _ _).drew).alloc (Nat.le_refl _) _))).mono ?_;rintro e w1 ⟨ka,kc,rfl,hown1,hb1⟩;have HB1:Hid (Below w.heap.size w w1):=Lib.hid (by first | exact ((Below.refl w.heap.size w).drew).trans (hb1.mono (Nat.le_refl _)) | exact (((Below.refl w.heap.size w).drew).alloc (Nat.le_refl _) _).trans (hb1.mono (by simp)));have K1:=Lib.hid hown1;have B1:=Lib.hid hb1;clear hown1 hb1) | (go_at_call 67;refine (HMT.out _ (HC.out.below (by first | exact HB1.out | exact HB1.out.alloc HB1.out.size _))).mono ?_;rintro e w2 ⟨mg,rfl,hown2,hb2⟩;have K2:=Lib.hid hown2;have B2:=Lib.hid hb2;clear hown2 hb2))
  all_goals
   refine NoPanic.normal ?_
   clear hmk
   go_wp2
   go_meet
   case rel => first | exact ⟨_,_,_,_,_,rfl,made_a hn ((Below.refl w.heap.size w).drew) K1.out B1.out K2.out B2.out _ (by rw [← HBI.out] <;> rfl)⟩ | exact ⟨_,_,_,_,_,rfl,made_b hn ((Below.refl w.heap.size w).drew) K1.out B1.out K2.out B2.out _ (by rw [← HBI.out] <;> rfl)⟩ | exact ⟨_,_,_,_,_,rfl,made_c hn ((Below.refl w.heap.size w).drew) K1.out B1.out K2.out B2.out _ (by rw [← HBI.out] <;> rfl)⟩
 case rest =>
  obtain ⟨tb,ka,kc,xg,mg,rfl,hM⟩:=hcut
  have HM:=Lib.hid hM
  have b4:=cells_at hM.box 4
  obtain ⟨K,hK⟩:∃ K,K = keptOf l:=⟨_,rfl⟩
  rw [← hK] at HM b4 HKI HLK HNK
  have HKK:=Lib.hid hK
  obtain ⟨q,hq⟩:∃ q,q = K.length:=⟨_,rfl⟩
  rw [← hq] at b4
  have HQ:=Lib.hid hq
  have hqn:q≤n:=by rw [hq,hK,HN.out];exact keptTo_le l l.length
  clear hM hK hq
  go_wp2
  go_loopg [67] q (fun r i wr => ∃ k:Nat,k + r = q∧i = .int .i64 k∧Made w ca na la cc nc lc n base K (matchOf l) (ixTo K n k) tb ka kc xg mg wr)
  case atStart => exact ⟨0,by omega,rfl,HM.out⟩
  case round =>
   obtain ⟨k,hk,rfl,hM⟩:=hrel
   by_cases hlt:k < q
   ·
    obtain ⟨x,hx⟩:∃ x,K[k]? = some x:=⟨_,List.getElem?_eq_getElem (by rw [← HQ.out];exact hlt)⟩
    have hxK:=List.mem_of_getElem? hx
    have hxn:=HKI.out x hxK
    rw [← HN.out] at hxn
    obtain ⟨v,hv,hv2⟩:=HLK.out x hxK
    obtain ⟨c,hc,hc1,hc2,hc3⟩:=HNK.out x hxK
    obtain ⟨kb,ko,rfl,hcx⟩:=hM.ks.toCells.getm hx
    obtain ⟨lb,lo,rfl,hcl⟩:=(HCL.out.below hM.below).getm hv
    obtain ⟨nb,no,rfl,hcn⟩:=(HCN.out.below hM.below).getm hc
    have t5:=cells_at hM.box 5
    obtain ⟨i1,i2⟩:=hM.ix.get (k:=x) (u:=natV ((ixTo K n k).getD x 0)) (by
     rw [List.getElem?_map,List.getD_eq_getElem?_getD]
     have hl:(ixTo K n k).length = n:=by have:=hM.ix.len;simpa using this
     rw [List.getElem?_eq_getElem (by omega)]
     rfl)
    have hM2:=hM.store hxn k
    rw [show x = K.getD k 0 from by rw [List.getD_eq_getElem?_getD,hx];rfl,← ixTo_succ,show K.getD k 0 = x from by rw [List.getD_eq_getElem?_getD,hx];rfl] at hM2
    obtain ⟨_,_,he,hcl2⟩:=(HCL.out.below hM2.below).getm hv
    cases he
    obtain ⟨_,_,he,hcn2⟩:=(HCN.out.below hM2.below).getm hc
    cases he
    unfold natV at hcx hM2 i1 hcl2 hcn2
    unfold i8V at hcl hcl2
    unfold u8V at hcn hcn2
    have HM2:=Lib.hid hM2
    have HKR:=Lib.hid hk
    have HR2:Hid (∀ w,Calls Tryz.prog 31 #[.int .u8 c] w fun e w' => e = .returned (.bool false)∧w = w'):=Lib.hid fun w => by have:=removed_any w c hc1 hc2;unfold rem at hc3;rw [hc3] at this;exact this
    have hk0:(0:Int)≤(k:Int):=by omega
    have hk1:(k:Int) < (q:Int):=by omega
    have hx0:(0:Int)≤(x:Int):=by omega
    have hx1:(x:Int) < (n:Int):=by omega
    have hv0:¬ ((v:Int) < 0):=by omega
    have hv1:¬ ((126:Int) < (v:Int)):=by omega
    have hv3:¬ ((v:Int) > 126):=by omega
    clear hM hM2 hk hv hc hx hc3
    go_wp2_with (go_at_call 31;refine (HR2.out _).mono ?_;rintro e w2 ⟨rfl,rfl⟩)
    go_roundg (gk - 1)
    case measure => have:=HKR.out;omega
    case rel => exact ⟨k + 1,by have:=HKR.out;omega,by go_num,HM2.out⟩
   · obtain rfl:k = q:=by omega
     obtain ⟨wo,rfl⟩:∃ wo:World,wo = wr:=⟨_,rfl⟩
     have HM2:=Lib.hid hM
     clear hM hk hlt
     go_wp2_with (go_at_call 71;refine (runsF_any _ _ _ _ _ _ _).mono ?_;rintro e w2 ⟨rfl,rfl⟩)
     obtain ⟨hI0,hS0⟩:=seqs_start (wr:=wo) (ca:=ca) (la:=la) (n:=n) (cc:=cc) (lc:=lc) rfl (HC.out.below HM2.out.below) (HCL.out.below HM2.out.below)
     generalize ((wo.alloc (.cells #[.slice none 0 0] 135)).alloc (.cells #[.slice ca n cc] 22)).alloc (.cells #[.slice la n lc] 27) = W0 at *
     have hseq:=runs_seq 4 (by omega) (CbR wo.heap.size) (wo.heap.size + 1) (wo.heap.size + 2) ca la cc lc l lv HLV.out (by rw [← HN.out];exact hn) H23.out
     rw [HLV.out,← HN.out] at hseq
     have HI0:=Lib.hid hI0
     refine (wpIn_wide (n:=5)).1 ?_
     refine wpIn_rangeC rfl (by omega) (gf:=113) (lb:=#[.pointer (some ⟨wo.heap.size + 1,0,none⟩),.pointer (some ⟨wo.heap.size + 2,0,none⟩)]) rfl trivial (enters_of Tryz.func113 (by kernel_rfl) rfl) (encs:=fun r:Rn => #[r.val]) (fun x => rfl) hseq
      (RunsI wo wo.heap.size wo.heap.size) (fun pre A C h hb => h.adm hb) (fun pre A h => h.lt) (fun A C l o o' => CbR.framed _ A C l o o') (RunsI.own wo wo.heap.size wo.heap.size _ hI0.below.size) hI0 hS0 ?round ?done
     case round =>
      obtain ⟨i4,hi4,hza,hzb,hzc⟩:=info_parts info140
      intro lp pre x W hI hpx
      obtain ⟨a,c,hbx,hown,hra,hac⟩:=hI.box
      have hlen:pre.length≤1048576:=by
       have h1:=hpx.length_le
       have h2:=(runs_cover l lv _ (tail_all l)).2.2
       have h3:=keptTo_le l l.length
       have h4:=HN.out
       simp at h1
       unfold keptOf at h1 h2
       omega
      obtain ⟨xf,xt,xl⟩:=x
      have HI:=Lib.hid hI
      have HOW:=Lib.hid hown
      have HBX:=Lib.hid hbx
      have HRA:=Lib.hid hra
      have hrl:=(Array.getElem?_eq_some_iff.1 hbx).1
      have HLB:=Lib.hid (HI0.out.below.size)
      unfold Rn.val
      obtain ⟨rb,hrb⟩:∃ rb,wo.heap.size = rb:=⟨_,rfl⟩
      rw [hrb] at HI HOW HBX HRA hrl HLB ⊢
      clear hI hown hbx hra hpx hseq hI0 hS0
      gi_wp2
      refine ⟨KeepsOthers.alloc _ _,fun W2 hg hlp ho => ?_⟩
      have hr2:∀ r,some lp = some r→∃ o':Obj,(W.alloc (.cells #[.int .i64 xf,.int .i64 xt,.int .i8 xl] 140)).heap[r]? = some o'∧o'.isCells = false:=fun r e => by cases e;exact ho
      have k1:=cells_others ((Below.heap_alloc W (.cells #[.int .i64 xf,.int .i64 xt,.int .i8 xl] 140) rb hrl).trans HBX.out) hg hr2
      have ks:=cells_others (heap_alloc_new W (.cells #[.int .i64 xf,.int .i64 xt,.int .i8 xl] 140)) hg hr2
      have K2:=Lib.hid ((HOW.out.alloc (.cells #[.int .i64 xf,.int .i64 xt,.int .i8 xl] 140)).others hg hr2)
      have HG:=Lib.hid hg
      have HO:=Lib.hid ho
      have HLP:=Lib.hid hlp
      have c0:=cells_at k1 0
      have f0:=frozen_at k1 0
      have d0:=cells_at ks 0
      have d1:=cells_at ks 1
      have d2:=cells_at ks 2
      have K1:=Lib.hid k1
      have HBW:=Lib.hid (show rb≤W2.heap.size from by have:=hg.size;simp at this;omega)
      clear k1 ks hg ho hlp
      gi_wp2_with (gi_at_builtin;refine wpListIn_push3 rfl _ _ 135 rfl 140 i4 _ 24 Tryz.underlying135 hi4 hza hzb hzc rfl (by simp [Value.cells,Value.oneCell']) rb a pre.length c _ rfl W2 _ _ _ rfl K2.out _ rfl rfl (by simp [Value.oneCell']) (by omega) (by decide) HBW.out ?_;intro a4 c4 w4 hown4 hap4;have HO4:=Lib.hid hown4;have HP4:=Lib.hid hap4;have e0:=cells_at ((hap4.heap (Array.getElem?_eq_some_iff.1 K1.out).1 HRA.out).trans K1.out) 0;have e1:=frozen_at ((hap4.heap (Array.getElem?_eq_some_iff.1 K1.out).1 HRA.out).trans K1.out) 0;clear hown4 hap4)
      exact runs_round (r:=⟨xf,xt,xl⟩) HI.out HG.out (Nat.le_trans HLB.out HLP.out) HO.out HBX.out HOW.out HRA.out hac HO4.out HP4.out
     case done =>
      intro D W hD hI hK
      have HI:=Lib.hid hI
      have HK:=Lib.hid hK
      have HD:=Lib.hid hD
      clear hI hK hD hseq hI0 hS0
      obtain ⟨a,c,hbx,hown,hra,hac⟩:=HI.out.box
      obtain ⟨R,hR⟩:∃ R,R = runsOf lv (keptOf l):=⟨_,rfl⟩
      rw [← hR] at hbx hown HI
      obtain ⟨m,hm⟩:∃ m,m = R.length:=⟨_,rfl⟩
      rw [← hm] at hbx hown
      have HR:=Lib.hid hR
      have HMM:=Lib.hid hm
      have hmn:m≤n:=by
       have h2:=(runs_cover l lv _ (tail_all l)).2.2
       have h3:=keptTo_le l l.length
       have h4:=HN.out
       unfold keptOf at h2 hR
       rw [hm,hR]
       omega
      have HM3:=Lib.hid (HM2.out.later HI.out.below (Nat.le_trans (by have:=(Array.getElem?_eq_some_iff.1 HM2.out.box).1;have:=HM2.out.ge;omega) (Nat.le_refl _)))
      have hxl:(W.alloc (.map #[] 0)).heap[wo.heap.size]? = _:=(Below.heap_alloc W (.map #[] 0) _ (Array.getElem?_eq_some_iff.1 hbx).1).trans hbx
      have c0:=cells_at hxl 0
      have HBX1:=Lib.hid hxl
      have HOW:=Lib.hid hown.toCells
      have HBX:=Lib.hid hbx
      have HB0:=Lib.hid (Array.getElem?_eq_some_iff.1 hbx).1
      clear hxl hown hbx hra hR hm
      have hmm:=@run_makeMap Tryz.prog
      have HMAP:=Lib.hid (show (W.alloc (.map #[] 0)).ownsMap Tryz.prog 3 (plainElem (H:=Unit) Tryz.prog 3) W.heap.size 0 (stM R 0) from World.ownsMap_made _ _ _ _)
      go_wp2_with (at_make;refine wpList_mk rfl _ _ 33 3 rfl ia (.int .i64 0) 8 Tryz.underlying33 hia hza0 hza1 hza2 rfl m (by go_num) (by go_num) (by omega) (by simp only [maxLen];omega) ?_;intro lg w5 hown5 hb5;have HO5:=Lib.hid hown5;have HB5:=Lib.hid hb5;have c5:=cells_at ((hb5.block _ (Array.getElem?_eq_some_iff.1 HBX1.out).1).trans HBX1.out) 0;clear hown5 hb5)
      obtain ⟨hst0,hlB⟩:=StI.start HMM.out rfl HMAP.out HO5.out HB5.out
      have HLB:=Lib.hid hlB
      have HST0:=Lib.hid hst0
      have HRF:=Lib.hid (show ∀ r∈R,r.f < r.t∧r.t≤l.length from by rw [HR.out];exact (runs_cover l lv _ (tail_all l)).2.1)
      clear hst0 hlB HMAP HO5 c0
      go_loopg [113] m (fun r i wq => ∃ k:Nat,k + r = m∧i = .int .i64 k∧StI W W.heap.size lg m R k wq)
      case atStart => exact ⟨0,by omega,rfl,HST0.out⟩
      case round =>
       obtain ⟨k,hk,rfl,hI⟩:=hrel
       by_cases hlt:k < m
       ·
        obtain ⟨⟨f,t,rl⟩,hr⟩:∃ x,R[k]? = some x:=⟨_,List.getElem?_eq_getElem (by rw [← HMM.out];exact hlt)⟩
        obtain ⟨hft,htn⟩:=HRF.out _ (List.mem_of_getElem? hr)
        simp only at hft htn
        obtain ⟨u,rfl⟩:∃ u,t = u + 1:=⟨t - 1,by omega⟩
        obtain ⟨ab,ao,rfl,q0,q1,q2⟩:=runs_at (HOW.out.below hI.below) hr
        simp only at q0 q1 q2
        have hkey:keyOf Tryz.prog 3 (.int .i64 (f:Int)) = some (.int .i64 (f:Int)):=keyOf_int_mk Tryz.underlying3 (WalkArith.wf_i64 (by have:=HN.out;omega))
        have HKEY:=Lib.hid hkey
        have HWK:=Lib.hid (show (Lit.int .i64 (k:Int)).wf = true from WalkArith.wf_i64 (by omega))
        have HII:=Lib.hid hI
        have HKQ:=Lib.hid hk
        have HRK:=Lib.hid hr
        have HUN:=Lib.hid (show u≤1048576 by have:=HN.out;omega)
        have hu0:(u:Int)≤1048576:=by have:=HN.out;omega
        have hk0:(0:Int)≤(k:Int):=by omega
        have hk1:(k:Int) < (m:Int):=by omega
        clear hkey hI hk hr hft htn
        go_wp2_with (at_mapUpdate;refine wpList_mapUpdate_own _ rfl _ _ _ 141 rfl 3 3 law3 Tryz.underlying141 _ W.heap.size k (stM R k) rfl (HII.out.mp.alloc _) (by unfold maxLen;omega) _ _ _ rfl rfl HKEY.out _ [] (plainElem_int Tryz.underlying3 HWK.out) ?_;intro w1 hown1 hgrow1;obtain ⟨z1,z2,⟨zv,z3,z4⟩,z5,z6⟩:=HII.out.store HLB.out HMM.out hlt (Nat.le_refl _) hgrow1;have e1:=cells_at z1 1;have HZ2:=Lib.hid z2;have HZ6:=Lib.hid z6;have HW1:=Lib.hid hown1;clear z1 z2 z6 hown1 hgrow1)
        go_roundg (gk - 1)
        case measure => have:=HKQ.out;omega
        case rel => exact ⟨k + 1,by have:=HKQ.out;omega,by go_num,StI.next HLB.out hlt HRK.out HW1.out HZ2.out HZ6.out⟩
       · obtain rfl:m = k:=by omega
         have HII:=Lib.hid hI
         clear hI hk hlt
         obtain ⟨w2,rfl⟩:∃ w2:World,w2 = wr:=⟨_,rfl⟩
         have HB7:=Lib.hid (HII.out.below)
         have HHX:=Lib.hid ((HII.out.below.block _ HB0.out).trans HBX.out)
         have c0:=cells_at HHX.out 0
         have HRB:=Lib.hid (Nat.lt_of_lt_of_le HB0.out HII.out.below.size)
         clear HST0
         obtain ⟨ib,hib,hzb0,hzb1,hzb2⟩:=info_parts info4
         have tok:True:=trivial
         go_wp2_with (first | (at_make;have _t:=tok;refine wpList_mk rfl _ _ 33 3 rfl ia (.int .i64 0) 8 Tryz.underlying33 hia hza0 hza1 hza2 rfl m (by go_num) (by go_num) (by omega) (by simp only [maxLen];omega) ?_;intro ng w6 hown6 hb6;have HO6:=Lib.hid hown6;have HB6:=Lib.hid hb6;have c6:=cells_at ((hb6.block _ HRB.out).trans HHX.out) 0;clear hown6 hb6 tok) | (at_make;refine wpList_mk rfl _ _ 69 4 rfl ib (.bool false) 1 Tryz.underlying69 hib hzb0 hzb1 hzb2 rfl m (by go_num) (by go_num) (by omega) (by simp only [maxLen];omega) ?_;intro dg w7 hown7 hb7;have HO7:=Lib.hid hown7;have HB7b:=Lib.hid hb7;clear hown7 hb7))
         obtain ⟨hnx0,hne⟩:=NxI.start (nxOf l lv) HO6.out HB6.out HO7.out HB7b.out
         have HNX0:=Lib.hid hnx0
         have HNE:=Lib.hid hne
         have HCR:=Lib.hid (HC.out.below (HM3.out.below.trans (HB7.out.mono (by have:=HB0.out;have:=HM3.out.below.size;omega))))
         have HM4:=Lib.hid (HM3.out.later HB7.out HM3.out.below.size)
         clear hnx0 hne HO6 HB6 HO7 HB7b
         go_loopg [137] m (fun r i wq => ∃ k:Nat,k + r = m∧i = .int .i64 k∧NxI w2 ng dg m (nxOf l lv) k wq)
         case atStart => exact ⟨0,by omega,rfl,HNX0.out⟩
         case round =>
          obtain ⟨j,hj,rfl,hI⟩:=hrel
          by_cases hlt:j < m
          ·
           obtain ⟨⟨f,t,rl⟩,hr⟩:∃ x,R[j]? = some x:=⟨_,List.getElem?_eq_getElem (by rw [← HMM.out];exact hlt)⟩
           obtain ⟨hft,htn⟩:=HRF.out _ (List.mem_of_getElem? hr)
           simp only at hft htn
           obtain ⟨u,rfl⟩:∃ u,t = u + 1:=⟨t - 1,by omega⟩
           obtain ⟨s1,_⟩:=(HII.out.ls.below hI.below).getm (x:=u) (k:=j) (by rw [lastTo_get R (by rw [HMM.out];exact Nat.le_refl _) hlt,getD_get hr];rfl)
           obtain ⟨⟨zv,z1,z2⟩,z3,z4,z5,z6⟩:=hI.first HNE.out hlt
           obtain ⟨c,hc⟩:∃ c,l[u]? = some c:=⟨_,List.getElem?_eq_getElem (by omega)⟩
           have hc23:=H23.out c (List.mem_of_getElem? hc)
           have hcD:l.getD u 0 = c:=by rw [List.getD_eq_getElem?_getD,hc];rfl
           obtain ⟨cb,co,rfl,hcc⟩:=(HCR.out.below z6).getm hc
           have hnx:=nxOf_at (lv:=lv) HR.out hr
           rw [hcD] at hnx
           unfold natV at s1
           unfold u8V at hcc
           have HI3:=Lib.hid hI
           have HJ:=Lib.hid hj
           have hu0:(0:Int)≤(u:Int):=by omega
           have hu1:(u:Int) < (n:Int):=by have:=HN.out;omega
           have hj0:(0:Int)≤(j:Int):=by omega
           have hj1:(j:Int) < (m:Int):=by omega
           have HZ4:=Lib.hid z4
           have HZ5:=Lib.hid z5
           have HZ6:=Lib.hid z6
           clear hI hj hr hft htn z4 z5 z6
           by_cases hb:([20,21,22]:List Nat).contains c = true
           · rw [if_pos hb] at hnx
             have hup:=match_up2 l u (by rw [hcD];exact hb)
             obtain ⟨p,hp⟩:∃ p,(matchOf l)[u]? = some p:=⟨_,List.getElem?_eq_getElem (by rw [matchOf_len];exact (List.getElem?_eq_some_iff.1 hc).1)⟩
             have hpD:(matchOf l).getD u 0 = p:=by rw [List.getD_eq_getElem?_getD,hp];rfl
             rw [hpD] at hnx hup
             obtain ⟨m1,_⟩:=(HM4.out.mt.below HZ6.out).getm hp
             have t6:=cells_at ((HZ6.out.block tb (Array.getElem?_eq_some_iff.1 HM4.out.box).1).trans HM4.out.box) 6
             have HBG:=Lib.hid (fun w => begins_any w c hc23.1 hc23.2)
             rw [hb] at HBG
             have HKEY:=Lib.hid (show keyOf Tryz.prog 3 (.int .i64 p) = some (.int .i64 p) from keyOf_int_mk Tryz.underlying3 (WalkArith.wf_i64 (by have:=HN.out;omega)))
             have HOM:=Lib.hid (ownsMap_below HII.out.mp HZ6.out)
             unfold i64V at m1
             rcases st_tells (R:=R) (by rw [HR.out];exact runs_up l lv _ _ (Nat.le_refl _) (tail_all l)) (fun r hr => (HRF.out r hr).1) p with ⟨hs,hh,hat⟩ | ⟨g,hg,hs,hh,hat⟩
             · rw [hs] at hnx
               rw [← HMM.out] at hh hat
               have HH:=Lib.hid hh
               have HAT:=Lib.hid (hat (.lit (.int .i64 0)))
               have HNXK:=Lib.hid hnx
               clear hs hh hat hnx hp hc hup hpD hcD hb hc23
               go_wp2_with (first | (go_at_call 72;refine (HBG.out _).mono ?_;rintro e w8 ⟨rfl,rfl⟩) | (refine wpList_look rfl _ _ 141 rfl 3 3 .i64 law3 Tryz.underlying141 Tryz.underlying3 (zero3 _) W.heap.size m (stM R m) rfl HOM.out _ _ rfl HKEY.out 0 false HAT.out HH.out ?_))
               go_roundg (gk - 1)
               case measure => have:=HJ.out;omega
               case rel => exact ⟨j + 1,by have:=HJ.out;omega,by go_num,HI3.out.nobody HNE.out hlt HNXK.out⟩
             · rw [hs] at hnx
               rw [← HMM.out] at hh hat hg
               obtain ⟨⟨v1,y1,y2⟩,y3,⟨v2,y4,y5⟩,y6,y7⟩:=NxI.led (X:=(nextTo (nxOf l lv) m j).set j (-1)) (fun y => by rw [List.set_set]) (by rw [List.length_set,nextTo_len]) HZ4.out HZ5.out HZ6.out HNE.out hlt hg hnx
               have HH:=Lib.hid hh
               have HAT:=Lib.hid (hat (.lit (.int .i64 0)))
               have HY7:=Lib.hid y7
               have hg0:(0:Int)≤(g:Int):=by omega
               have hg1:(g:Int) < (m:Int):=by omega
               clear hs hh hat hnx hp hc hup hpD hcD hb hc23 y7
               go_wp2_with (first | (go_at_call 72;refine (HBG.out _).mono ?_;rintro e w8 ⟨rfl,rfl⟩) | (refine wpList_look rfl _ _ 141 rfl 3 3 .i64 law3 Tryz.underlying141 Tryz.underlying3 (zero3 _) W.heap.size m (stM R m) rfl HOM.out _ _ rfl HKEY.out g true HAT.out HH.out ?_))
               go_roundg (gk - 1)
               case measure => have:=HJ.out;omega
               case rel => exact ⟨j + 1,by have:=HJ.out;omega,by go_num,HY7.out⟩
           · rw [if_neg hb] at hnx
             have HBG:=Lib.hid (fun w => begins_any w c hc23.1 hc23.2)
             rw [show ([20,21,22]:List Nat).contains c = false from by simpa using hb] at HBG
             have HNXK:=Lib.hid hnx
             clear hnx hcD hb hc hc23
             go_wp2_with (go_at_call 72;refine (HBG.out _).mono ?_;rintro e w8 ⟨rfl,rfl⟩)
             go_roundg (gk - 1)
             case measure => have:=HJ.out;omega
             case rel => exact ⟨j + 1,by have:=HJ.out;omega,by go_num,HI3.out.nobody HNE.out hlt HNXK.out⟩
          · obtain rfl:m = j:=by omega
            have HI3:=Lib.hid hI
            clear hI hj hlt
            obtain ⟨w3,rfl⟩:∃ w3:World,w3 = wr:=⟨_,rfl⟩
            have HB3:=Lib.hid HI3.out.below
            have HX3:=Lib.hid ((HB3.out.block _ HRB.out).trans HHX.out)
            have c3:=cells_at HX3.out 0
            clear HNX0
            have HBA:=Lib.hid (HM4.out.below.trans (HB3.out.mono HM4.out.below.size))
            have HTX:Hid (TextAt (seqT l nw lv base) ⟨ca,cc,na,nc,la,lc,ka,kc,some ⟨xg,0,none⟩,l.length,some ⟨mg,0,none⟩,l.length⟩ tb w3):=Lib.hid (by
             have h:=HM4.out.later HB3.out HM4.out.below.size
             have e1:=HKK.out
             have e2:=HQ.out
             have e3:=HN.out
             rw [e2,e1,e3] at h
             exact h.text (HC.out.below HBA.out) (HCN.out.below HBA.out) (HCL.out.below HBA.out))
            have HSQ:=Lib.hid (fun (w:World) (ra:Option Addr) (rc j:Nat) (hj:j < m) (h:TextAt (seqT l nw lv base) ⟨ca,cc,na,nc,la,lc,ka,kc,some ⟨xg,0,none⟩,l.length,some ⟨mg,0,none⟩,l.length⟩ tb w) (hC:Cells w ra (runsV (chainOf (nxOf l lv) R (m + 1) j))) => by
             have e1:=HKK.out
             have h1:=chain_seq (nw:=nw) (base:=base) HR.out hb (by rw [← HN.out];exact hn) hnw hlv H23.out (by rw [← e1];exact HLK.out) (by rw [← HMM.out];exact hj) _ tb w h ra rc (by rw [← HMM.out];exact hC)
             rw [← HMM.out] at h1
             exact h1)
            have HNW:=Lib.hid hnw
            have HRW:=Lib.hid (show (runsOf lv (keptOf l)).length = m by rw [← HR.out,HMM.out])
            obtain ⟨i4,hi4,hza,hzb,hzc⟩:=info_parts info140
            obtain ⟨i5,hi5,hya,hyb,hyc⟩:=info_parts info75
            clear hnw hlv
            go_wp2
            go_step3
            go_wp2
            go_loopg [26,174] m (fun r s26 i wq => ∃ (j:Nat) (S:List Sv) (oa:Option Addr) (oc:Nat),j + r = m∧i = .int .i64 j∧s26 = .slice oa S.length oc∧S.map (·.q) = seqsTo l nw lv base j∧Outs wq w3.heap.size oa oc S∧Below w3.heap.size w3 wq)
            case atStart => exact ⟨0,[],none,0,by omega,rfl,rfl,rfl,Outs.nil _ _,Below.refl _ _⟩
            case round =>
             obtain ⟨j,S,oa,oc,hj,rfl,rfl,hS,hO,hbq⟩:=hrel
             obtain ⟨w4,rfl⟩:∃ w4:World,w4 = wr:=⟨_,rfl⟩
             have HS:=Lib.hid hS
             have HO:=Lib.hid hO
             have HBQ:=Lib.hid hbq
             have HJ:=Lib.hid hj
             have HSL:=Lib.hid (show S.length≤j by have h1:=seqsTo_le l nw lv base j;rw [← hS,List.length_map] at h1;exact h1)
             have hjm:j≤m:=by omega
             clear hS hO hbq hj c3
             by_cases hlt:j < m
             · obtain ⟨d1,_⟩:=(HI3.out.ld.below HBQ.out).getm (ledTo_get (nxOf l lv) m m hlt)
               have hj0:(0:Int)≤(j:Int):=by omega
               have hj1:(j:Int) < (m:Int):=by omega
               cases hled:ledB (nxOf l lv) m j with
               | true =>
                rw [hled] at d1
                have HLED:=Lib.hid (show ledB (nxOf l lv) (runsOf lv (keptOf l)).length j = true by rw [HRW.out];exact hled)
                clear hled
                go_wp2
                go_roundg (gk - 1)
                case measure => have:=HJ.out;omega
                case rel => exact ⟨j + 1,S,oa,oc,by have:=HJ.out;omega,by go_num,rfl,by rw [seqsTo_led HLED.out];exact HS.out,HO.out,HBQ.out⟩
               | false =>
                rw [hled] at d1
                have HLED:=Lib.hid (show ledB (nxOf l lv) (runsOf lv (keptOf l)).length j = false by rw [HRW.out];exact hled)
                clear hled
                go_wp2
                have HX4:=Lib.hid ((HBQ.out.block _ (Nat.lt_of_lt_of_le HRB.out HB3.out.size)).trans HX3.out)
                have HN4:=Lib.hid (HI3.out.fo.below HBQ.out)
                have HRC:=Lib.hid (HOW.out.below (HB7.out.trans ((HB3.out.mono HB7.out.size).trans (HBQ.out.mono (Nat.le_trans HB7.out.size HB3.out.size)))))
                have HTX4:=Lib.hid (HTX.out.below HBQ.out)
                obtain ⟨C0,hC0⟩:∃ C0,C0 = chainOf (nxOf l lv) R (m + 1) j:=⟨_,rfl⟩
                have HC0:=Lib.hid hC0
                have HC0L:=Lib.hid (show C0.length≤n from by
                 obtain ⟨r,hr⟩:∃ r,(runsOf lv (keptOf l))[j]? = some r:=⟨_,List.getElem?_eq_getElem (by rw [HRW.out];exact hlt)⟩
                 have h1:=(chain_ok (nx:=nxOf l lv) (l:=l) (lv:=lv) (fun i k h => (nxOf_up l lv h).1) m j hr).2.1
                 rw [hC0,HR.out,HN.out]
                 exact h1)
                clear hC0 d1
                obtain ⟨G,hG⟩:∃ G,G = gk:=⟨_,rfl⟩
                subst hG
                go_loopg [28,29] (m - j) (fun r s28 s29 wi => ∃ (C:List Rn) (ra:Option Addr) (rc:Nat),s28 = .slice ra C.length rc∧Own wi w4.heap.size 3 ra C.length rc (runsV C)∧Below w4.heap.size w4 wi∧((∃ k f:Nat,s29 = .int .i64 k∧k + r = m∧k < m∧m + 1≤f + k∧C ++ chainOf (nxOf l lv) R f k = C0)∨(s29 = .int .i64 (-1)∧C = C0)))
                case atStart => exact ⟨[],none,0,rfl,Own.nil _ _ _,Below.refl _ _,.inl ⟨j,m + 1,rfl,by omega,hlt,by omega,by rw [HC0.out];rfl⟩⟩
                case round =>
                 obtain ⟨C,ra,rc,rfl,hown,hbi,⟨q,fu,rfl,hq,hqm,hfu,hch⟩ | ⟨rfl,hch⟩⟩:=hrel
                 · have hCl:C.length≤n:=by
                    have h1:=congrArg List.length hch
                    rw [List.length_append] at h1
                    have:=HC0L.out
                    omega
                   obtain ⟨⟨f,t,rl⟩,hr⟩:∃ x,R[q]? = some x:=⟨_,List.getElem?_eq_getElem (by rw [← HMM.out];exact hqm)⟩
                   obtain ⟨ab,ao,rfl,q0,q1,q2⟩:=runs_at (HRC.out.below hbi) hr
                   simp only at q0 q1 q2
                   have hx5:=(hbi.block _ (Nat.lt_of_lt_of_le (Nat.lt_of_lt_of_le HRB.out HB3.out.size) HBQ.out.size)).trans HX4.out
                   have c5:=cells_at hx5 0
                   obtain ⟨fu,rfl⟩:∃ fv,fu = fv + 1:=⟨fu - 1,by omega⟩
                   have hch2:C ++ chainOf (nxOf l lv) R (fu + 1) q = (C ++ [⟨f,t,rl⟩]) ++ (match nxOf l lv q with | none => [] | some k => chainOf (nxOf l lv) R fu k):=by
                    rw [chainOf,hr,List.append_assoc]
                    rfl
                   rw [hch2] at hch
                   have HCH:=Lib.hid hch
                   have HOWN:=Lib.hid hown
                   have HBI:=Lib.hid hbi
                   have HQM:=Lib.hid hq
                   have HFU:=Lib.hid hfu
                   have hq0:(0:Int)≤(q:Int):=by omega
                   have hq1:(q:Int) < (m:Int):=by omega
                   clear hch hch2 hown hbi hx5 hq hfu hr
                   go_wp2_with (at_builtin;refine wpList_pushN rfl _ _ 135 rfl 140 i4 _ 3 24 Tryz.underlying135 hi4 hza hzb (by decide) hzc rfl (by simp [Value.cells,Value.oneCell']) w4.heap.size ra C.length rc _ rfl wr [.int .i64 f,.int .i64 t,.int .i8 rl] rfl rfl HOWN.out _ rfl rfl (by simp [Value.oneCell']) (by omega) (by decide) HBI.out.size ?_;intro ra2 rc2 w5b hown5 hap5 hbe5;have HO5:=Lib.hid hown5;have HBE5:=Lib.hid (HBI.out.trans hbe5);have n5:=(HN4.out.below (HBI.out.trans hbe5)).getm (nextTo_get (nxOf l lv) (Nat.le_refl m) hqm);clear hown5 hap5 hbe5)
                   have HCL:=Lib.hid hCl
                   cases hnq:nxOf l lv q with
                   | none =>
                    rw [hnq] at HCH
                    go_roundg 0
                    case measure => have:=HQM.out;omega
                    case rel => exact ⟨C ++ [⟨f,t,rl⟩],ra2,rc2,by rw [List.length_append];rfl,by rw [runsV_snoc,List.length_append];exact HO5.out,HBE5.out,.inr ⟨rfl,by have:=HCH.out;simpa using this⟩⟩
                   | some v =>
                    rw [hnq] at HCH
                    obtain ⟨k1,k2⟩:=nxOf_up l lv hnq
                    rw [HRW.out] at k2
                    go_roundg (m - v)
                    case measure => have:=HQM.out;omega
                    case rel => exact ⟨C ++ [⟨f,t,rl⟩],ra2,rc2,by rw [List.length_append];rfl,by rw [runsV_snoc,List.length_append];exact HO5.out,HBE5.out,.inl ⟨v,fu,rfl,by omega,k2,by have:=HFU.out;omega,HCH.out⟩⟩
                 · subst hch
                   obtain ⟨sq,hsq⟩:∃ sq,sq = seqAt l nw lv base j:=⟨_,rfl⟩
                   have HSQ2:=Lib.hid (fun w h (hC:Cells w ra (runsV C)) => by
                    have h1:=HSQ.out w ra rc j hlt h (by rw [← HC0.out];exact hC)
                    rw [← HC0.out,← hsq] at h1
                    exact h1)
                   have HSQE:=Lib.hid hsq
                   have HOWN:=Lib.hid hown
                   have HBI:=Lib.hid hbi
                   have HOS:=Lib.hid (HO.out.below hbi)
                   have HS4:=Lib.hid HBQ.out.size
                   have hSl:S.length≤1099511627776:=by have:=HSL.out;omega
                   clear hsq hown hbi
                   go_wp2_with (first | (go_at_call 73;refine (HSQ2.out _ (HTX4.out.below HBI.out) HOWN.out.toCells).mono ?_;rintro e w8 ⟨pa,pc,ca2,cc2,rfl,p1,p2,p3,p4⟩;have P1:=Lib.hid p1;have P2:=Lib.hid p2;have P4:=Lib.hid p4;have HO8:=Lib.hid (HOS.out.below p4);clear p1 p2 p3 p4) | (at_builtin;refine wpList_pushN rfl _ _ 88 rfl 75 i5 _ 5 56 Tryz.underlying88 hi5 hya hyb (by decide) hyc rfl (by simp [Value.cells,Value.oneCell']) w3.heap.size oa S.length oc (svV S) rfl w8 [.slice pa sq.ps.length pc,.slice ca2 sq.ps.length cc2,.int .i8 sq.lv,.int .u8 sq.sos,.int .u8 sq.eos] rfl rfl HO8.out.own _ rfl rfl (by simp [Value.oneCell']) hSl (by decide) (Nat.le_trans HS4.out (Nat.le_trans HBI.out.size P4.out.size)) ?_;intro oa2 oc2 w9 hown9 hap9 hbe9;have HO9:=Lib.hid hown9;have HP9:=Lib.hid hap9;have HB9:=Lib.hid hbe9;clear hown9 hap9 hbe9))
                   go_roundg (G - 1)
                   case measure => have:=HJ.out;omega
                   case rel =>
                    refine ⟨j + 1,S ++ [⟨sq,pa,pc,ca2,cc2⟩],oa2,oc2,by have:=HJ.out;omega,by go_num,by rw [List.length_append];rfl,by rw [List.map_append,HS.out,seqsTo_not HLED.out,← HSQE.out];rfl,?_,((HBQ.out.trans (HBI.out.mono HS4.out)).trans (P4.out.mono (Nat.le_trans HS4.out HBI.out.size))).trans HB9.out⟩
                    refine HO8.out.push ⟨sq,pa,pc,ca2,cc2⟩ (P1.out.mono (Nat.le_trans HS4.out HBI.out.size)) (P2.out.mono (Nat.le_trans HS4.out HBI.out.size)) (fun g hg hm => ?_) (fun g hg hm => ?_) HO9.out HP9.out
                    · have h1:=(P1.out.blk_lt g hg).1
                      have h2:=(HO.out.own.blk_lt g hm).2
                      have:=HBI.out.size
                      omega
                    · have h1:=(P2.out.blk_lt g hg).1
                      have h2:=(HO.out.own.blk_lt g hm).2
                      have:=HBI.out.size
                      omega
             · obtain rfl:m = j:=by omega
               clear HSQ HTX
               go_wp2
               have hbW:=HB7.out.trans ((HB3.out.mono HB7.out.size).trans (HBQ.out.mono (Nat.le_trans HB7.out.size HB3.out.size)))
               have hkd:=(hbW.block D (Array.getElem?_eq_some_iff.1 HK.out).1).trans HK.out
               refine ⟨by simp,.inl ⟨_,_,rfl,run_takeDeferred hkd,?_⟩⟩
               refine ⟨.tuple #[.slice oa S.length oc,.int .i64 0],?_,oa,oc,S,rfl,?_,?_,?_⟩
               · simp [results,Tryz.f42,go_sem]
               · rw [HS.out]
                 unfold seqsOf
                 rw [HRW.out]
               · exact (HO.out.others (grownBy_putObj' _ D (.deferred none)) (fun r e => by cases e;exact ⟨_,hkd,rfl⟩)).mono HBA.out.size
               · have hb:=HBA.out.trans (HBQ.out.mono HBA.out.size)
                 exact hb.grown (grownBy_putObj' _ D (.deferred none)) hb.size (fun k e => by cases e;have:=HD.out;have:=HM2.out.below.size;have:=HI0.out.below.size;omega)
theorem seqs_any (w:World) (ca na la:Option Addr) (cc nc lc:Nat) (l nw:List Nat) (lv:List Int) (base:Nat) (hb:base≤1) (hn:l.length≤1048576) (hnw:nw.length = l.length) (hlv:lv.length = l.length) (hc:Cells w ca (l.map u8V)) (hcn:Cells w na (nw.map u8V)) (hcl:Cells w la (lv.map i8V)) (h23:∀ x∈l,1≤x∧x≤23)
 (hlk:∀ x∈keptOf l,∃ v:Nat,lv[x]? = some (v:Int)∧v≤126) (hnk:∀ x∈keptOf l,∃ c,nw[x]? = some c∧1≤c∧c≤23∧rem c = false):
 Calls Tryz.prog 42 #[.slice ca l.length cc,.slice na l.length nc,.slice la l.length lc,.int .i8 base] w fun e w' => ∃ oa oc S,e = .returned (.tuple #[.slice oa S.length oc,.int .i64 0])∧S.map (·.q) = seqsOf l nw lv base∧Outs w' w.heap.size oa oc S∧Below w.heap.size w w':=
 callsIn_wide.1 (seqs_in w ca na la cc nc lc l nw lv base hb hn hnw hlv hc hcn hcl h23 hlk hnk)
end Go.Proofs.YtjnidopbdjbbgaaGreat
