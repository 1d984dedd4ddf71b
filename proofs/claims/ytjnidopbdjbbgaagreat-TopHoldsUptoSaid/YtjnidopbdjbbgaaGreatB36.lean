/-
  The reference's sequences (Sequences): walked: it ends, and what it gives may be used.
-/
import Derived.Test.YtjnidopbdjbbgaaGreatB27
import Derived.Test.YtjnidopbdjbbgaaGreatB35
import Derived.Deep.CutBlock
import Derived.Deep.RegionHeld3
namespace Go.Proofs.YtjnidopbdjbbgaaGreat
open Go.RowKit
set_option linter.unusedVariables false
attribute [local go_sem] Oper.semAt_some
attribute [local go_sem] ite_max ite_maxG
def XSeqsP (n:Nat) (w:World) (e:Ending) (w':World):Prop:=∃ (oa:Option Addr) (oc:Nat) (S:List XS) (err:Int),e = .returned (.tuple #[.slice oa S.length oc,.int .i64 err])∧S.length≤n∧(∀ s∈S,XSOk n s)∧XOuts w' w.heap.size oa oc S∧Below w.heap.size w w'
set_option maxRecDepth 20000 in
set_option maxHeartbeats 8000000 in
theorem xseqs_any (w:World) (a na la:Option Addr) (n c nc lc base:Nat) (l nw:List Nat) (lv:List Int) (hbase:base≤1) (hl:l.length = n) (hnw:nw.length = n) (hlv:lv.length = n) (hn:n≤1048576) (hc:Cells w a (l.map u8V)) (hcn:Cells w na (nw.map u8V)) (hcl:Cells w la (lv.map i8V)):
 Calls Tryz.prog 53 #[.slice a n c,.slice na n nc,.slice la n lc,.int .i8 base] w (XSeqsP n w):=by
 obtain ⟨i3,hi3,ha0,ha1,ha2⟩:=info_parts info3
 obtain ⟨i35,hi35,hb0,hb1,hb2⟩:=info_parts info35
 obtain ⟨i75,hi75,hc0,hc1,hc2⟩:=info_parts info75
 obtain ⟨i4,hi4,hd0,hd1,hd2⟩:=info_parts info4
 have HC:=Lib.hid hc
 have HCN:=Lib.hid hcn
 have HCL:=Lib.hid hcl
 have HL:=Lib.hid hl
 have HNW:=Lib.hid hnw
 have HLV:=Lib.hid hlv
 have HBS:=Lib.hid hbase
 have HRN:=Lib.hid (fun w' hbd h1 h2 => xruns_any w' a la n c lc l lv hl hlv hn hbd h1 h2)
 have HMT:=Lib.hid (fun w' h => rmatch_any w' a c l (by omega) h)
 rw [hl] at HMT
 have hnn:(n:Int)≤1048576:=by omega
 clear hc hcn hcl hl hnw hlv hbase
 go_enter Tryz.func53,Tryz.ntmps53
 go_upto_region 1 with (fail)
 go_cut [43] from 24 to 43 (fun s43 wx => s43 = .bool false∧w = wx)
 case first =>
  rcases (show base = 0∨base = 1 by have:=HBS.out;omega) with rfl | rfl
  all_goals
   go_wp2
   go_meet
   case rel => exact ⟨rfl,rfl⟩
 case rest =>
 obtain ⟨rfl,rfl⟩:=hcut
 go_wp2_with fail
 go_loopg [10] n (fun r s10 wr => ∃ k:Nat,k + r = n∧s10 = .int .i64 k∧(∀ (j x:Nat) (v:Int),j < k→l[j]? = some x→rem x = false→lv[j]? = some v→-128≤v∧v≤127)∧w = wr)
 case atStart => exact ⟨0,by omega,rfl,fun j x v h => absurd h (Nat.not_lt_zero j),rfl⟩
 case round =>
  obtain ⟨k,hk,rfl,hin,rfl⟩:=hrel
  have HK:=Lib.hid hk
  have HIN:=Lib.hid hin
  by_cases hlt:k < n
  · obtain ⟨x,hx⟩:∃ x,l[k]? = some x:=⟨_,List.getElem?_eq_getElem (by rw [HL.out];exact hlt)⟩
    obtain ⟨y,hy⟩:∃ y,nw[k]? = some y:=⟨_,List.getElem?_eq_getElem (by rw [HNW.out];exact hlt)⟩
    obtain ⟨v,hv⟩:∃ v,lv[k]? = some v:=⟨_,List.getElem?_eq_getElem (by rw [HLV.out];exact hlt)⟩
    obtain ⟨ab,ao,rfl,hcx⟩:=HC.out.getm hx
    obtain ⟨nb,no,rfl,hcy⟩:=HCN.out.getm hy
    obtain ⟨lb,lo,rfl,hcv⟩:=HCL.out.getm hv
    unfold u8V at hcx hcy
    unfold i8V at hcv
    have hk0:(0:Int)≤(k:Int):=by omega
    have hk1:(k:Int) < (n:Int):=by omega
    have hk2:(k:Int)≤1048576:=by omega
    have HKM:=Lib.hid hlt
    have HNX:=Lib.hid (fun (hb:rem x = true∨(-128≤v∧v≤127)) (j x':Nat) (v':Int) (h:j < k + 1) (h1:l[j]? = some x') (h2:rem x' = false) (h3:lv[j]? = some v') => (show -128≤v'∧v'≤127 from by
     rcases Nat.lt_or_ge j k with hj | hj
     · exact hin j x' v' hj h1 h2 h3
     · obtain rfl:k = j:=by omega
       rw [hx] at h1
       rw [hv] at h3
       cases h1
       cases h3
       rcases hb with hb | hb
       · rw [h2] at hb;cases hb
       · exact hb))
    clear hx hy hv hk hlt hin
    go_wp2_with fail
    refine (xremoved_any _ x).mono ?_
    rintro e w2 ⟨rfl,rfl⟩
    cases hr:rem x with
    | true =>
     go_wp2_with fail
     go_roundg (gk - 1)
     case measure => have:=HK.out;have:=HKM.out;omega
     case rel => exact ⟨k + 1,by have:=HK.out;have:=HKM.out;omega,by go_num,HNX.out (.inl hr),rfl⟩
    | false =>
     by_cases hv0:v < 0
     · go_wp2_with fail
       go_ret2
       exact ⟨none,0,[],170,rfl,by simp,by simp,XOuts.nil _ _,Below.refl _ _⟩
     · have hv1:decide (v < 0) = false:=by simp;omega
       by_cases hv2:126 < v
       · go_wp2_with fail
         go_ret2
         exact ⟨none,0,[],170,rfl,by simp,by simp,XOuts.nil _ _,Below.refl _ _⟩
       · have hv3:decide (126 < v) = false:=by simp;omega
         go_wp2_with fail
         refine (xremoved_any _ y).mono ?_
         rintro e w2 ⟨rfl,rfl⟩
         cases hr2:rem y with
         | true =>
          go_wp2_with fail
          go_ret2
          exact ⟨none,0,[],170,rfl,by simp,by simp,XOuts.nil _ _,Below.refl _ _⟩
         | false =>
          go_wp2_with fail
          go_roundg (gk - 1)
          case measure => have:=HK.out;have:=HKM.out;omega
          case rel => exact ⟨k + 1,by have:=HK.out;have:=HKM.out;omega,by go_num,HNX.out (.inr (by omega)),rfl⟩
  · obtain rfl:n = k:=by omega
    have HBD:Hid (LvIn l lv):=Lib.hid (fun j x v h1 h2 h3 => hin j x v (by have:=(List.getElem?_eq_some_iff.1 h1).1;have:=HL.out;omega) h1 h2 h3)
    clear hk hlt hin
    go_wp2_with (first
     | (go_at_call 91;refine (HRN.out _ HBD.out HC.out HCL.out).mono ?_;rintro e w1 ⟨ra,rc,R,rfl,hok,hrr,b1⟩;have HOK:=Lib.hid hok;have HRR:=Lib.hid hrr;have HB1:=Lib.hid b1;have HRL:=Lib.hid (show R.length≤n from by have:=hok.runs_le;rw [HL.out] at this;exact this);clear hok hrr b1)
     | (go_at_call 7;refine (HMT.out _ (HC.out.below HB1.out)).mono ?_;rintro e w3 ⟨mg,rfl,om,b3⟩;have HOM:=Lib.hid om;have HB3:=Lib.hid b3;clear om b3)
     | (at_make;refine wpList_mk rfl _ _ 69 4 rfl i4 (.bool false) 1 Tryz.underlying69 hi4 hd0 hd1 hd2 rfl R.length (by go_num) (by go_num) (by have:=HRL.out;omega) (by have:=HRL.out;simp only [maxLen];omega) ?_;intro dg w4 hown4 hb4;have HO4:=Lib.hid hown4;have HB4:=Lib.hid hb4;clear hown4 hb4))
    obtain ⟨m,hm⟩:∃ m,m = R.length:=⟨_,rfl⟩
    have HM:=Lib.hid hm
    have HB03:=Lib.hid (HB1.out.trans (HB3.out.mono HB1.out.size))
    have HF:=Lib.hid (fun w' i hi h => xfollows_any w' ra (some ⟨mg,0,none⟩) a rc n n c i l R HOK.out HL.out hn hi (HRR.out.below (HB3.out.trans (h.mono HB3.out.size))) (HOM.out.toCells.below h) (HC.out.below (HB03.out.trans (h.mono HB03.out.size))))
    rw [← hm] at HO4 HRL HF ⊢
    clear hm HRN HMT
    have hmm:(m:Int)≤1048576:=by have:=HRL.out;omega
    go_loopg [14] m (fun r s14 wr => ∃ (i:Nat) (D:List Bool),i + r = m∧s14 = .int .i64 i∧D.length = m∧Own wr w3.heap.size 1 (some ⟨dg,0,none⟩) m m (D.map Value.bool)∧Below w3.heap.size w3 wr)
    case atStart => exact ⟨0,List.replicate m false,by omega,rfl,by simp,HO4.out.eqL (by rw [List.map_replicate]),HB4.out⟩
    case round =>
     obtain ⟨i,D,hi,rfl,hD,hown,hb⟩:=hrel
     have HI:=Lib.hid hi
     have HD:=Lib.hid hD
     have HO:=Lib.hid hown
     have HB:=Lib.hid hb
     by_cases hlt:i < m
     · have hi0:(0:Int)≤(i:Int):=by omega
       have hi1:(i:Int) < (m:Int):=by omega
       have HLT:=Lib.hid hlt
       clear hi hD hown hb hlt
       go_wp2_with fail
       refine (HF.out _ i HLT.out HB.out).mono ?_
       rintro e w5 ⟨v,rfl,hv,b5⟩
       have hown:=HO.out.below b5
       have hb:=HB.out.trans (b5.mono HB.out.size)
       have HO5:=Lib.hid hown
       have HB5:=Lib.hid hb
       clear b5 hb
       rcases hv with rfl | ⟨q,rfl,hq1,hq2⟩
       · clear hown
         go_wp2_with fail
         go_roundg (gk - 1)
         case measure => have:=HI.out;have:=HLT.out;omega
         case rel => exact ⟨i + 1,D,by have:=HI.out;have:=HLT.out;omega,by go_num,HD.out,HO5.out,HB5.out⟩
       · rw [← HM.out] at hq2
         obtain ⟨u,hu⟩:∃ u,D[q]? = some u:=⟨_,List.getElem?_eq_getElem (by rw [HD.out];exact hq2)⟩
         obtain ⟨hc5,hf5⟩:=hown.getm hu
         have hq3:(0:Int)≤(q:Int):=by omega
         have hq4:(q:Int) < (m:Int):=by omega
         have HQ:=Lib.hid hq2
         clear hown hu hq1 hq2
         go_wp2_with fail
         go_roundg (gk - 1)
         case measure => have:=HI.out;have:=HLT.out;omega
         case rel => exact ⟨i + 1,D.set q true,by have:=HI.out;have:=HLT.out;omega,by go_num,by rw [List.length_set];exact HD.out,(HO5.out.stored q HQ.out (.bool true)).eqL (by rw [List.map_set]),HO5.out.storeBelow HB5.out q (.bool true)⟩
     · obtain rfl:m = i:=by omega
       obtain ⟨W5,rfl⟩:∃ W5:World,W5 = wr:=⟨_,rfl⟩
       have HRR5:=Lib.hid (HRR.out.below (HB3.out.trans (hb.mono HB3.out.size)))
       have HCN5:=Lib.hid (HCN.out.below (HB03.out.trans (hb.mono HB03.out.size)))
       have HC5:=Lib.hid (HC.out.below (HB03.out.trans (hb.mono HB03.out.size)))
       have HCL5:=Lib.hid (HCL.out.below (HB03.out.trans (hb.mono HB03.out.size)))
       have HMC5:=Lib.hid (HOM.out.toCells.below hb)
       have HF5:=Lib.hid (fun w' i hi (h:Below W5.heap.size W5 w') => HF.out w' i hi (hb.trans (h.mono hb.size)))
       have HB05:=Lib.hid (HB03.out.trans (hb.mono HB03.out.size))
       clear hi hlt hown hb HRR HC HCN HCL HOM HF HI HB HB03 HB1 HB3 HO4 HB4
       go_wp2_with fail
       go_loopg [16,17] m (fun r s16 s17 wr => ∃ (i oc:Nat) (oa:Option Addr) (S:List XS),i + r = m∧s16 = .slice oa S.length oc∧s17 = .int .i64 i∧S.length≤i∧(∀ s∈S,XSOk n s)∧XOuts wr W5.heap.size oa oc S∧Below W5.heap.size W5 wr)
       case atStart => exact ⟨0,0,none,[],by omega,rfl,rfl,Nat.le_refl _,by simp,XOuts.nil _ _,Below.refl _ _⟩
       case round =>
        obtain ⟨i,oc,oa,S,hi,rfl,rfl,hSl,hSk,hS,hb⟩:=hrel
        obtain ⟨V,rfl⟩:∃ V:World,V = wr:=⟨_,rfl⟩
        obtain ⟨G,rfl⟩:∃ G,G = gk:=⟨_,rfl⟩
        have HI:=Lib.hid hi
        have HSL:=Lib.hid hSl
        have HSK:=Lib.hid hSk
        have HS:=Lib.hid hS
        have HB:=Lib.hid hb
        by_cases hlt:i < m
        · obtain ⟨d,hd⟩:∃ d,D[i]? = some d:=⟨_,List.getElem?_eq_getElem (by rw [HD.out];exact hlt)⟩
          obtain ⟨hcd,hfd⟩:=(HO.out.below hb).getm hd
          obtain ⟨r,hr⟩:∃ r,R[i]? = some r:=⟨_,List.getElem?_eq_getElem (by rw [← HM.out];exact hlt)⟩
          have HRRV:=Lib.hid (HRR5.out.below hb)
          obtain ⟨rb,ro,rfl,hs0,hs1⟩:=HRRV.out.at hr
          rw [← Nat.add_assoc] at hs1
          have HLV1:=Lib.hid (HOK.out.lev r (List.mem_of_getElem? hr))
          have hi0:(0:Int)≤(i:Int):=by omega
          have hi1:(i:Int) < (m:Int):=by omega
          have HLT:=Lib.hid hlt
          clear hi hSl hSk hS hb hlt hd hfd hr hs0
          cases d with
          | true =>
           go_wp2_with fail
           go_roundg (G - 1)
           case measure => have:=HI.out;have:=HLT.out;omega
           case rel => exact ⟨i + 1,oc,oa,S,by have:=HI.out;have:=HLT.out;omega,rfl,by go_num,Nat.le_succ_of_le HSL.out,HSK.out,HS.out,HB.out⟩
          | false =>
           obtain ⟨rv,hrv⟩:∃ rv,rv = r.lv:=⟨_,rfl⟩
           rw [← hrv] at hs1 HLV1
           clear hrv
           have HG1:=Lib.hid (XG.new V rv)
           have HBV1:=Lib.hid (show Below V.heap.size V (V.alloc (.cells #[.slice none 0 0,.slice none 0 0,.int .i8 rv,.int .u8 0,.int .u8 0] 75)) from (Below.refl _ _).alloc (Nat.le_refl _) _)
           have HNB:=Lib.hid (show W5.heap.size≤V.heap.size from HB.out.size)
           go_wp2_with fail
           obtain ⟨N,hN⟩:∃ N,V.heap.size = N:=⟨_,rfl⟩
           have HN:=Lib.hid hN
           rw [hN] at HG1 HBV1 HNB ⊢
           clear hN hs1 hcd
           go_loopg [19] (m - i) (fun q s19 wq => ∃ (ps:List Nat) (pa:Option Addr) (pc:Nat),XG N ps [] rv 0 0 pa pc none 0 wq∧Below N V wq∧(∀ p∈ps,p < n)∧((∃ k:Nat,s19 = .int .i64 k∧k + q = m∧k < m∧ps.length≤cntTo R k)∨(s19 = .int .i64 (-1)∧ps≠[]∧ps.length≤n)))
           case atStart => exact ⟨[],none,0,HG1.out,HBV1.out,by simp,.inl ⟨i,rfl,by have:=HLT.out;omega,HLT.out,by simp⟩⟩
           case round =>
            obtain ⟨ps,pa,pc,hg,hb,hps,⟨k,rfl,hk,hkm,hcnt⟩ | ⟨rfl,hne,hle⟩⟩:=hrel
            · obtain ⟨U,rfl⟩:∃ U:World,U = wr:=⟨_,rfl⟩
              have hbv:Below V.heap.size V U:=by rw [HN.out];exact hb
              obtain ⟨s,hs⟩:∃ s,R[k]? = some s:=⟨_,List.getElem?_eq_getElem (by rw [← HM.out];exact hkm)⟩
              obtain ⟨_,_,he,hs0,_⟩:=(HRRV.out.below hbv).at hs
              cases he
              have hcs:=(HRRV.out.below hbv).ps s (List.mem_of_getElem? hs)
              have HCSD:=Lib.hid (hcs.below ((Below.refl _ _).drew))
              have g0:=cells_at hg.box 0
              have HGD:=Lib.hid hg.drew
              have HSUM:=Lib.hid (show ps.length + s.ps.length≤cntTo R (k + 1) from by rw [cnt_succ hs];omega)
              have HSN:=Lib.hid (show cntTo R (k + 1)≤n from by have:=HOK.out.cnt_le (k + 1);rw [HL.out] at this;exact this)
              have HPS:=Lib.hid (show ∀ p∈ps ++ s.ps,p < n from fun p hp => by
               rcases List.mem_append.1 hp with h | h
               · exact hps p h
               · rw [← HL.out];exact HOK.out.below (List.mem_of_getElem? hs) h)
              have HNE:=Lib.hid (HOK.out.pos s (List.mem_of_getElem? hs))
              have HBU:=Lib.hid hb
              have HK:=Lib.hid hk
              have HKM:=Lib.hid hkm
              have hk0:(0:Int)≤(k:Int):=by omega
              have hk1:(k:Int) < (m:Int):=by omega
              clear hbv hs hcs hg hb hps hk hkm hcnt
              go_wp2_with fail
              go_upto_region 26 with (fail)
              go_region_law (refine step_app (by rfl) _ _ 33 33 (by rfl) 3 i3 (.int .i64 0) 1 8 Tryz.underlying33 hi3 ha0 ha1 ha2 rfl (by simp [Value.cells,Value.oneCell']) N pa ps.length pc _ (by rfl) HGD.out.ps _ s.ps.length (s.ps.map natV) (by rfl) (Src.ofCells Tryz.underlying33 s.pa s.ps.length s.pc _ (by simp) HCSD.out (ones natV (fun _ => rfl) s.ps) (by decide)) (by have:=HSUM.out;have:=HSN.out;simp only [maxLen];omega) (by have:=HSUM.out;have:=HSN.out;omega) (Nat.le_of_lt HGD.out.lt) ?_;intro a7 c7 w7 hown7 hap7;have HP7:=Lib.hid (HGD.out.pushR s.ps hown7 hap7);have e0:=cells_at (HP7.out.2.2.trans HGD.out.box) 0;have e1:=frozen_at (HP7.out.2.2.trans HGD.out.box) 0;clear hown7 hap7)
              all_goals
               go_wp2_with fail
               have hb7:=(HBU.out.drew).trans HP7.out.2.1
               refine (HF5.out _ k HKM.out (HB.out.trans (hb7.mono HNB.out))).mono ?_
               rintro e w8 ⟨v,rfl,hv,b8⟩
               have HG8:=Lib.hid (HP7.out.1.below b8)
               have HB8:=Lib.hid (hb7.trans (b8.mono (Nat.le_of_lt HP7.out.1.lt)))
               clear hb7 b8 e0 e1 g0 hs0
               rcases hv with rfl | ⟨q,rfl,hq1,hq2⟩
               · go_wp2_with fail
                 go_roundg 0
                 case measure => have:=HK.out;have:=HKM.out;omega
                 case rel => exact ⟨ps ++ s.ps,a7,c7,HG8.out,HB8.out,HPS.out,.inr ⟨rfl,by simp [HNE.out],by rw [List.length_append];have:=HSUM.out;have:=HSN.out;omega⟩⟩
               · rw [← HM.out] at hq2
                 have HQ1:=Lib.hid hq1
                 have HQ2:=Lib.hid hq2
                 clear hq1 hq2
                 go_wp2_with fail
                 go_roundg (m - q)
                 case measure => have:=HK.out;have:=HKM.out;have:=HQ1.out;have:=HQ2.out;omega
                 case rel => exact ⟨ps ++ s.ps,a7,c7,HG8.out,HB8.out,HPS.out,.inl ⟨q,rfl,by have:=HQ2.out;omega,HQ2.out,by rw [List.length_append];exact Nat.le_trans HSUM.out (cnt_mono R HQ1.out)⟩⟩
            ·
             obtain ⟨U,rfl⟩:∃ U:World,U = wr:=⟨_,rfl⟩
             have HG:=Lib.hid hg
             have HBU:=Lib.hid hb
             have HPS:=Lib.hid hps
             have HNE:=Lib.hid hne
             have HLE:=Lib.hid hle
             clear hg hb hps hne hle
             go_wp2_with fail
             go_loopg [20] ps.length (fun q s20 wq => ∃ (k cc:Nat) (cs:List Nat) (ca:Option Addr),k + q = ps.length∧s20 = .int .i64 k∧cs.length = k∧XG N ps cs rv 0 0 pa pc ca cc wq∧Below N V wq)
             case atStart => exact ⟨0,0,[],none,by omega,rfl,rfl,HG.out,HBU.out⟩
             case round =>
              obtain ⟨k,cc,cs,ca,hk,rfl,hcl,hg,hb⟩:=hrel
              obtain ⟨X,rfl⟩:∃ X:World,X = wr:=⟨_,rfl⟩
              have HK:=Lib.hid hk
              have HCLE:=Lib.hid hcl
              have HBX:=Lib.hid hb
              have HGX:=Lib.hid hg
              have g0:=cells_at hg.box 0
              have g1:=cells_at hg.box 1
              have hbv:Below V.heap.size V X:=by rw [HN.out];exact hb
              have hbw:Below W5.heap.size W5 X:=HB.out.trans (hb.mono HNB.out)
              by_cases hlt:k < ps.length
              · obtain ⟨p,hp⟩:∃ p,ps[k]? = some p:=⟨_,List.getElem?_eq_getElem hlt⟩
                have hpn:=HPS.out p (List.mem_of_getElem? hp)
                obtain ⟨y,hy⟩:∃ y,nw[p]? = some y:=⟨_,List.getElem?_eq_getElem (by rw [HNW.out];exact hpn)⟩
                obtain ⟨pb,po,hpa,hcp⟩:=hg.ps.toCells.getm hp
                obtain ⟨yb,yo,rfl,hcy⟩:=(HCN5.out.below hbw).getm hy
                unfold natV at hcp
                unfold u8V at hcy
                rw [hpa] at g0
                have g1a:(X.alloc (.cells #[.int .u8 (knownOf y)] 35)).cell? ⟨N,1,none⟩ = some (.slice ca cs.length cc):=(((Below.refl X.heap.size X).alloc (Nat.le_refl _) _).cell hg.lt).trans g1
                have HGD:=Lib.hid hg.drew
                have HKR:=Lib.hid (fun w => (knownR_any w y).mono (R':=fun e w' => e = .returned (.int .u8 (knownOf y))∧w' = w) (fun e w' h => ⟨h.1,h.2.symm⟩))
                have HBB:Hid (∀ o,N≤(X.drew.alloc o).heap.size):=Lib.hid fun o => by rw [World.size_alloc];exact Nat.le_trans (Nat.le_of_lt hg.lt) (Nat.le_succ _)
                have hk0:(0:Int)≤(k:Int):=by omega
                have hk1:(k:Int) < (ps.length:Int):=by omega
                have hk2:(k:Int)≤1048576:=by have:=HLE.out;omega
                have hp0:(0:Int)≤(p:Int):=by omega
                have hp1:(p:Int) < (n:Int):=by omega
                have HLT2:=Lib.hid hlt
                clear hk hcl hg hb hbv hbw hlt hp hy hpa hpn
                go_wp2_with fail
                go_upto_region 30 with (fail)
                go_region_law (first | (go_simp;refine (HKR.out _).mono ?_;rintro e w6 ⟨rfl,rfl⟩;dsimp only) | (refine step_app (by rfl) _ _ 22 22 (by rfl) 35 i35 (.int .u8 0) 1 1 Tryz.underlying22 hi35 hb0 hb1 hb2 rfl (by simp [Value.cells,Value.oneCell']) N ca cs.length cc _ (by rfl) (HGD.out.cs.alloc _) _ 1 [.int .u8 (knownOf y)] (by rfl) (Src.ofCells Tryz.underlying22 _ _ _ _ rfl (Cells.new X.drew [.int .u8 (knownOf y)] 35) (by simp [Value.oneCell']) (by decide)) (by have:=HCLE.out;simp only [maxLen];omega) (by have:=HCLE.out;omega) (HBB.out _) ?_;intro a7 c7 w7 hown7 hap7;have HP7:=Lib.hid (HGD.out.pushC (knownOf y) hown7 hap7);have e0:=cells_at (HP7.out.2.2.trans HGD.out.box) 1;have e1:=frozen_at (HP7.out.2.2.trans HGD.out.box) 1;clear hown7 hap7))
                all_goals
                 go_wp2_with fail
                 go_roundg (gk - 1)
                 case measure => have:=HK.out;have:=HLT2.out;omega
                 case rel => exact ⟨k + 1,c7,cs ++ [knownOf y],a7,by have:=HK.out;have:=HLT2.out;omega,by go_num,by rw [List.length_append,HCLE.out];rfl,HP7.out.1,(HBX.out.drew).trans HP7.out.2.1⟩
              · obtain ⟨t,ht⟩:∃ t,ps.length = t + 1:=⟨ps.length - 1,by have:=List.length_pos_iff.2 HNE.out;omega⟩
                have HCL6:=Lib.hid (show cs.length = ps.length from by omega)
                obtain ⟨p0,hp0⟩:∃ p,ps[0]? = some p:=⟨_,List.getElem?_eq_getElem (by omega)⟩
                obtain ⟨p1,hp1⟩:∃ p,ps[t]? = some p:=⟨_,List.getElem?_eq_getElem (by omega)⟩
                have HPN0:=Lib.hid (HPS.out p0 (List.mem_of_getElem? hp0))
                have HPN1:=Lib.hid (HPS.out p1 (List.mem_of_getElem? hp1))
                obtain ⟨pb,po,hpa,hcp0⟩:=hg.ps.toCells.getm hp0
                obtain ⟨_,_,he,hcp1⟩:=hg.ps.toCells.getm hp1
                rw [hpa] at he
                cases he
                unfold natV at hcp0 hcp1
                rw [Nat.add_zero] at hcp0
                rw [hpa,ht] at g0
                have hk3:(t:Int) + 1≤(k:Int):=by omega
                have ht0:(0:Int)≤(t:Int):=by omega
                have ht1:(t:Int) < (t:Int) + 1:=by omega
                have ht2:(t:Int)≤1048576:=by have:=HLE.out;omega
                have ht3:0 < t + 1:=by omega
                have ht4:(0:Int) < (t:Int) + 1:=by omega
                clear hk hcl hg hb hbv hbw hlt hp0 hp1 hpa g1 ht
                go_wp2_with fail
                go_quiet (fail)
                generalize hU6:X.drewN _ = U6
                have HG6:=Lib.hid (HGX.out.below (belowN hU6))
                have HB6:=Lib.hid (HBX.out.trans ((belowN hU6).mono (Nat.le_of_lt HGX.out.lt)))
                clear g0 hcp0 hcp1 hU6
                have HBV:=Lib.hid (fun (w':World) (h:Below N V w') => HB.out.trans (h.mono HNB.out))
                have HBSD:=Lib.hid (fun (w':World) (h:Below N V w') (p:Nat) (step:Int) (hp:p < n) (hs:step = 1∨step = -1) => xbeside_any w' a la n c lc p step base l lv HL.out HLV.out hn hp hs (by have:=HBS.out;omega) HBD.out (HC5.out.below (HBV.out w' h)) (HCL5.out.below (HBV.out w' h)))
                have g2:=cells_at HG6.out.box 2
                have g3:=cells_at HG6.out.box 3
                have f3:=frozen_at HG6.out.box 3
                go_wp2_with fail
                go_upto_region 32 with (fail)
                go_region_held3 (fun w' => w'.cell? ⟨N,2,none⟩ = some (.int .i8 rv)) (first | exact g2 | exact (World.cell?_setCell_other _ _ _ _ (by simp)).trans g2)
                 (first | (go_at_call 94;refine (HBSD.out _ (HB6.out.trans ((below_drewN (Below.refl _ _) 1).mono (Nat.le_of_lt HG6.out.lt))) p0 (-1) HPN0.out (.inr rfl)).mono ?_;rintro e w2 ⟨⟨bv,rfl,hbv⟩,rfl⟩) | (go_at_call 93;refine (xWay_any _ _ (by have:=HLV1.out;omega)).mono ?_;rintro e w3 ⟨⟨k1,rfl⟩,rfl⟩))
                generalize hW8:World.setCell (World.drewN U6 _) _ _ = W8
                have HG8:Hid (XG N ps cs rv k1 0 pa pc ca cc W8):=Lib.hid (by rw [← hW8];exact (HG6.out.below (below_drewN (Below.refl _ _) _)).setS k1)
                have HB8:Hid (Below N V W8):=Lib.hid (by rw [← hW8];exact (HB6.out.trans ((below_drewN (Below.refl _ _) _).mono (Nat.le_of_lt HG6.out.lt))).setCell (p:=⟨N,3,none⟩) (Nat.le_refl N) _)
                clear g2 g3 f3 hbv hW8
                have g2:=cells_at HG8.out.box 2
                have g4:=cells_at HG8.out.box 4
                have f4:=frozen_at HG8.out.box 4
                go_wp2_with fail
                refine (HBSD.out _ HB8.out p1 1 HPN1.out (.inl rfl)).mono ?_
                rintro e w9 ⟨⟨nv,rfl,hnv⟩,rfl⟩
                have HNV:=Lib.hid hnv
                obtain ⟨z,hz⟩:∃ z,l[p1]? = some z:=⟨_,List.getElem?_eq_getElem (by rw [HL.out];exact HPN1.out)⟩
                have HZ:=Lib.hid hz
                obtain ⟨zb,zo,rfl,hcz⟩:=(HC5.out.below (HBV.out _ HB8.out)).getm hz
                unfold u8V at hcz
                have hpp0:(0:Int)≤(p1:Int):=by omega
                have hpp1:(p1:Int) < (n:Int):=by have:=HPN1.out;omega
                clear hnv hz
                go_wp2_with fail
                refine (rbegins_any _ z).mono ?_
                rintro e w9 ⟨rfl,rfl⟩
                cases hbg:(z == 20 || z == 21 || z == 22) with
                | false =>
                 have HVV:=HNV
                 clear hcz
                 go_wp2_with fail
                 refine (xWay_any _ _ (by have:=HLV1.out;have:=HVV.out;omega)).mono ?_
                 rintro e w9 ⟨⟨k2,rfl⟩,rfl⟩
                 have HGE:=Lib.hid (HG8.out.setE k2)
                 have HBE:=Lib.hid (HB8.out.setCell (p:=⟨N,4,none⟩) (Nat.le_refl N) (.int .u8 k2))
                 have HSE:=Lib.hid (HS.out.below (show Below V.heap.size V (W8.setCell ⟨N,4,none⟩ (.int .u8 k2)) from by rw [HN.out];exact HBE.out))
                 have HBSZ:=Lib.hid (show W5.heap.size≤(W8.setCell ⟨N,4,none⟩ (.int .u8 k2)).heap.size from Nat.le_trans HB.out.size HBE.out.size)
                 go_wp2_with (first
                  | (with_reducible refine wpList_load_row rfl 75 _ rfl N rfl 75 _ (0,0) _ HGE.out.box Tryz.underlying75 rfl (by kernel_rfl) ?_)
                  | (at_builtin;refine wpList_pushN rfl _ _ 88 rfl 75 i75 _ 5 56 Tryz.underlying88 hi75 hc0 hc1 (by decide) hc2 rfl (by simp [Value.cells,Value.oneCell']) W5.heap.size oa S.length oc (xsV S) rfl (W8.setCell ⟨N,4,none⟩ (.int .u8 k2)) [.slice pa ps.length pc,.slice ca cs.length cc,.int .i8 rv,.int .u8 k1,.int .u8 k2] rfl rfl HSE.out.own _ rfl (by simp) (by simp [Value.oneCell']) (by have:=HSL.out;have:=HI.out;have:=HRL.out;omega) (by decide) HBSZ.out ?_;intro oa2 oc2 w10 hown10 hap10 hb10;have HO10:=Lib.hid hown10;have HP10:=Lib.hid hap10;have HB10:=Lib.hid hb10;clear hown10 hap10 hb10))
                 go_roundg (G - 1)
                 case measure => have:=HI.out;have:=HLT.out;omega
                 case rel =>
                  have hcl:=HCL6.out
                  have hblk:∀ g∈blk oa,g < N:=fun g hg => by rw [← HN.out];exact (HS.out.own.blk_lt g hg).2
                  refine ⟨i + 1,oc2,oa2,S ++ [⟨ps,cs,rv,k1,k2,pa,pc,ca,cc⟩],by have:=HI.out;have:=HLT.out;omega,by rw [List.length_append];rfl,by go_num,by rw [List.length_append];have:=HSL.out;simp;omega,fun x hx => ?_,?_,HB.out.trans ((HBE.out.mono HNB.out).trans HB10.out)⟩
                  · rcases List.mem_append.1 hx with h | h
                    · exact HSK.out x h
                    · obtain rfl:=List.mem_singleton.1 h
                      exact ⟨HPS.out,hcl,HLE.out,HLV1.out⟩
                  · refine HSE.out.push ⟨ps,cs,rv,k1,k2,pa,pc,ca,cc⟩ (HGE.out.ps.mono HNB.out) ((HGE.out.cs.eqN hcl).mono HNB.out) (fun g hg hm => ?_) (fun g hg hm => ?_) (HO10.out.eqL (by rw [hcl];rfl)) HP10.out
                    · have h1:=(HGE.out.ps.blk_lt g hg).1
                      have h2:=hblk g hm
                      omega
                    · have h1:=(HGE.out.cs.blk_lt g hg).1
                      have h2:=hblk g hm
                      omega
                | true =>
                 obtain ⟨j,hj,_,_⟩:=jump_at HZ.out hbg
                 obtain ⟨_,_,he,hcj⟩:=(HMC5.out.below (HBV.out _ HB8.out)).getm hj
                 cases he
                 rw [Nat.zero_add] at hcj
                 unfold i64V at hcj
                 clear hcz hj
                 cases hjn:((j:Int) == (n:Int)) with
                 | false =>
                  have HVV:=HNV
                  go_wp2_with fail
                  refine (xWay_any _ _ (by have:=HLV1.out;have:=HVV.out;omega)).mono ?_
                  rintro e w9 ⟨⟨k2,rfl⟩,rfl⟩
                  have HGE:=Lib.hid (HG8.out.setE k2)
                  have HBE:=Lib.hid (HB8.out.setCell (p:=⟨N,4,none⟩) (Nat.le_refl N) (.int .u8 k2))
                  have HSE:=Lib.hid (HS.out.below (show Below V.heap.size V (W8.setCell ⟨N,4,none⟩ (.int .u8 k2)) from by rw [HN.out];exact HBE.out))
                  have HBSZ:=Lib.hid (show W5.heap.size≤(W8.setCell ⟨N,4,none⟩ (.int .u8 k2)).heap.size from Nat.le_trans HB.out.size HBE.out.size)
                  go_wp2_with (first
                   | (with_reducible refine wpList_load_row rfl 75 _ rfl N rfl 75 _ (0,0) _ HGE.out.box Tryz.underlying75 rfl (by kernel_rfl) ?_)
                   | (at_builtin;refine wpList_pushN rfl _ _ 88 rfl 75 i75 _ 5 56 Tryz.underlying88 hi75 hc0 hc1 (by decide) hc2 rfl (by simp [Value.cells,Value.oneCell']) W5.heap.size oa S.length oc (xsV S) rfl (W8.setCell ⟨N,4,none⟩ (.int .u8 k2)) [.slice pa ps.length pc,.slice ca cs.length cc,.int .i8 rv,.int .u8 k1,.int .u8 k2] rfl rfl HSE.out.own _ rfl (by simp) (by simp [Value.oneCell']) (by have:=HSL.out;have:=HI.out;have:=HRL.out;omega) (by decide) HBSZ.out ?_;intro oa2 oc2 w10 hown10 hap10 hb10;have HO10:=Lib.hid hown10;have HP10:=Lib.hid hap10;have HB10:=Lib.hid hb10;clear hown10 hap10 hb10))
                  go_roundg (G - 1)
                  case measure => have:=HI.out;have:=HLT.out;omega
                  case rel =>
                   have hcl:=HCL6.out
                   have hblk:∀ g∈blk oa,g < N:=fun g hg => by rw [← HN.out];exact (HS.out.own.blk_lt g hg).2
                   refine ⟨i + 1,oc2,oa2,S ++ [⟨ps,cs,rv,k1,k2,pa,pc,ca,cc⟩],by have:=HI.out;have:=HLT.out;omega,by rw [List.length_append];rfl,by go_num,by rw [List.length_append];have:=HSL.out;simp;omega,fun x hx => ?_,?_,HB.out.trans ((HBE.out.mono HNB.out).trans HB10.out)⟩
                   · rcases List.mem_append.1 hx with h | h
                     · exact HSK.out x h
                     · obtain rfl:=List.mem_singleton.1 h
                       exact ⟨HPS.out,hcl,HLE.out,HLV1.out⟩
                   · refine HSE.out.push ⟨ps,cs,rv,k1,k2,pa,pc,ca,cc⟩ (HGE.out.ps.mono HNB.out) ((HGE.out.cs.eqN hcl).mono HNB.out) (fun g hg hm => ?_) (fun g hg hm => ?_) (HO10.out.eqL (by rw [hcl];rfl)) HP10.out
                     · have h1:=(HGE.out.ps.blk_lt g hg).1
                       have h2:=hblk g hm
                       omega
                     · have h1:=(HGE.out.cs.blk_lt g hg).1
                       have h2:=hblk g hm
                       omega
                 | true =>
                  have HVV:Hid (-128≤(base:Int)∧(base:Int)≤127):=Lib.hid (by have:=HBS.out;omega)
                  go_wp2_with fail
                  refine (xWay_any _ _ (by have:=HLV1.out;have:=HVV.out;omega)).mono ?_
                  rintro e w9 ⟨⟨k2,rfl⟩,rfl⟩
                  have HGE:=Lib.hid (HG8.out.setE k2)
                  have HBE:=Lib.hid (HB8.out.setCell (p:=⟨N,4,none⟩) (Nat.le_refl N) (.int .u8 k2))
                  have HSE:=Lib.hid (HS.out.below (show Below V.heap.size V (W8.setCell ⟨N,4,none⟩ (.int .u8 k2)) from by rw [HN.out];exact HBE.out))
                  have HBSZ:=Lib.hid (show W5.heap.size≤(W8.setCell ⟨N,4,none⟩ (.int .u8 k2)).heap.size from Nat.le_trans HB.out.size HBE.out.size)
                  go_wp2_with (first
                   | (with_reducible refine wpList_load_row rfl 75 _ rfl N rfl 75 _ (0,0) _ HGE.out.box Tryz.underlying75 rfl (by kernel_rfl) ?_)
                   | (at_builtin;refine wpList_pushN rfl _ _ 88 rfl 75 i75 _ 5 56 Tryz.underlying88 hi75 hc0 hc1 (by decide) hc2 rfl (by simp [Value.cells,Value.oneCell']) W5.heap.size oa S.length oc (xsV S) rfl (W8.setCell ⟨N,4,none⟩ (.int .u8 k2)) [.slice pa ps.length pc,.slice ca cs.length cc,.int .i8 rv,.int .u8 k1,.int .u8 k2] rfl rfl HSE.out.own _ rfl (by simp) (by simp [Value.oneCell']) (by have:=HSL.out;have:=HI.out;have:=HRL.out;omega) (by decide) HBSZ.out ?_;intro oa2 oc2 w10 hown10 hap10 hb10;have HO10:=Lib.hid hown10;have HP10:=Lib.hid hap10;have HB10:=Lib.hid hb10;clear hown10 hap10 hb10))
                  go_roundg (G - 1)
                  case measure => have:=HI.out;have:=HLT.out;omega
                  case rel =>
                   have hcl:=HCL6.out
                   have hblk:∀ g∈blk oa,g < N:=fun g hg => by rw [← HN.out];exact (HS.out.own.blk_lt g hg).2
                   refine ⟨i + 1,oc2,oa2,S ++ [⟨ps,cs,rv,k1,k2,pa,pc,ca,cc⟩],by have:=HI.out;have:=HLT.out;omega,by rw [List.length_append];rfl,by go_num,by rw [List.length_append];have:=HSL.out;simp;omega,fun x hx => ?_,?_,HB.out.trans ((HBE.out.mono HNB.out).trans HB10.out)⟩
                   · rcases List.mem_append.1 hx with h | h
                     · exact HSK.out x h
                     · obtain rfl:=List.mem_singleton.1 h
                       exact ⟨HPS.out,hcl,HLE.out,HLV1.out⟩
                   · refine HSE.out.push ⟨ps,cs,rv,k1,k2,pa,pc,ca,cc⟩ (HGE.out.ps.mono HNB.out) ((HGE.out.cs.eqN hcl).mono HNB.out) (fun g hg hm => ?_) (fun g hg hm => ?_) (HO10.out.eqL (by rw [hcl];rfl)) HP10.out
                     · have h1:=(HGE.out.ps.blk_lt g hg).1
                       have h2:=hblk g hm
                       omega
                     · have h1:=(HGE.out.cs.blk_lt g hg).1
                       have h2:=hblk g hm
                       omega
        · obtain rfl:m = i:=by omega
          have HBF:=Lib.hid (HB05.out.trans (hb.mono HB05.out.size))
          have HRD:=Lib.hid (hS.mono HB05.out.size)
          have HSN:=Lib.hid (show S.length≤n from Nat.le_trans hSl HRL.out)
          clear hi hSl hSk hS hb hlt
          go_wp2_with fail
          go_ret2
          exact ⟨oa,oc,S,0,rfl,HSN.out,HSK.out,HRD.out,HBF.out⟩
end Go.Proofs.YtjnidopbdjbbgaaGreat
