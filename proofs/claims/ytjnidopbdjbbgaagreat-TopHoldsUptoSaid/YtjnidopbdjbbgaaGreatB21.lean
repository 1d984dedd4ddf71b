/-
  The runs, as an iterator: walked.
-/
import Derived.Test.YtjnidopbdjbbgaaGreatB19
import Derived.Test.YtjnidopbdjbbgaaGreatB08
import Derived.Deep.CutBlock
import Derived.Stop.RegionWithIn
namespace Go.Proofs.YtjnidopbdjbbgaaGreat
open Go.RowKit
set_option linter.unusedVariables false
attribute [local go_sem] Oper.semAt_some
/-- What the iterator holds between two rounds. -/
structure RunAt (Cb:World→Nat→Prop) (lv:List Int) (ob:Nat) (oa:Option Addr) (oc:Nat) (K:List Nat) (a:Option Addr) (W:World):Prop where
 box:W.heap[ob]? = some (.cells #[.slice oa lv.length oc] 27)
 nb:¬ Cb W ob
 own:Cells W oa (lv.map i8V)
 so:Safe Cb W oa
 ks:Cells W a (K.map natV)
 sk:Safe Cb W a
theorem RunAt.framed {Cb:World→Nat→Prop} {lv:List Int} {ob:Nat} {oa:Option Addr} {oc:Nat} {K:List Nat} {a:Option Addr} {A B:World} (h:RunAt Cb lv ob oa oc K a A) (hf:Framed Cb A B):RunAt Cb lv ob oa oc K a B:=
 ⟨hf.heap h.box h.nb,fun hc => by
  rcases hf.grows _ hc with h3 | h3
  · exact h.nb h3
  · have:=(Array.getElem?_eq_some_iff.1 h.box).1;omega,h.own.framed h.so hf,h.so.framed hf,h.ks.framed h.sk hf,h.sk.framed hf⟩
theorem RunAt.below {Cb:World→Nat→Prop} {lv:List Int} {ob:Nat} {oa:Option Addr} {oc:Nat} {K:List Nat} {a:Option Addr} {A B:World} (h:RunAt Cb lv ob oa oc K a A) (hb:Below A.heap.size A B) (hm:∀ k,Cb B k→Cb A k):RunAt Cb lv ob oa oc K a B:=
 ⟨(hb.block _ (Array.getElem?_eq_some_iff.1 h.box).1).trans h.box,fun hc => h.nb (hm _ hc),h.own.below hb,h.so.below hb.size hm,h.ks.below hb,h.sk.below hb.size hm⟩
set_option maxRecDepth 100000 in
set_option maxHeartbeats 4000000 in
theorem runs_seq (n:Nat) (hn1:1≤n) (Cb:World→Nat→Prop) (cb lb:Nat) (ca la:Option Addr) (cc lc:Nat) (l:List Nat) (lv:List Int) (hl:lv.length = l.length) (hbig:l.length≤1048576) (h23:∀ x∈l,1≤x∧x≤23):
 SeqC Fence.wide n Tryz.prog 113 #[.pointer (some ⟨cb,0,none⟩),.pointer (some ⟨lb,0,none⟩)] (fun r:Rn => #[r.val]) Cb
  (fun W => W.heap[cb]? = some (.cells #[.slice ca l.length cc] 22)∧W.heap[lb]? = some (.cells #[.slice la lv.length lc] 27)∧Cells W ca (l.map u8V)∧Cells W la (lv.map i8V)) (runsOf lv (keptOf l)):=by
 rintro lp J W hJ hCl hY h0 ⟨s1,s2,s3,s4⟩
 have HJ:=Lib.hid hJ
 have HCl:=Lib.hid hCl
 have HY:=Lib.hid hY
 have H0:=Lib.hid h0
 have hnew:∀ B,Below W.heap.size W B→(∀ k,W.heap.size≤k→¬ Cb B k):=fun B hb k hk hc => by
  have h1:=(hJ [] W B h0 hb).2 k hc
  have:=hCl [] W h0 k h1
  omega
 have HNEW:=Lib.hid hnew
 have HCL58:=Lib.hid (fun w (hb:Below W.heap.size W w) => cloneL_any w la lv.length lc lv rfl (by omega) (s4.below hb))
 have HKP70:=Lib.hid (fun w (hb:Below W.heap.size W w) => kept_any w ca cc l (by omega) (s3.below hb) h23)
 have c1:=cells_at s1 0
 have c2:=cells_at s2 0
 obtain ⟨m,hm⟩:∃ m,m = l.length:=⟨_,rfl⟩
 rw [← hm] at s1
 have HS1:=Lib.hid s1
 rw [hl] at c2 HCL58
 rw [← hm] at c1 c2 HCL58 HKP70 hbig
 have HM:=Lib.hid hm
 have HL:=Lib.hid (show lv.length = m by rw [hl,← hm])
 clear hJ hCl hY h0 hnew s1 s2 s3 s4 hm hl h23
 refine callsIn_of_wp Tryz.func113 rfl trivial ?_ rfl
 simp only [Tryz.ntmps113,List.size_toArray,List.length_cons,List.length_nil,Nat.reduceAdd,Nat.reduceSub,Array.replicate_succ,Array.replicate_zero,List.push_toArray,List.append_toArray,List.nil_append,List.cons_append]
 refine wpIn_wide.2 ?_
 go_wp2_with (first | (go_at_call 58;refine (HCL58.out _ (Below.refl _ _)).mono ?_;rintro e w1 ⟨oa,oc,rfl,hown1,hb1⟩;have HO1:=Lib.hid hown1;have HB1:=Lib.hid hb1;replace c1:=cells_at (((hb1.alloc hb1.size (.cells #[.slice oa m oc] 27)).block cb (Array.getElem?_eq_some_iff.1 HS1.out).1).trans HS1.out) 0;clear hown1 hb1) | (go_at_call 70;refine (HKP70.out _ (HB1.out.alloc HB1.out.size _)).mono ?_;rintro e w3 ⟨ka,kc,rfl,hown3,hb3⟩;have HO3:=Lib.hid hown3;have HB3:=Lib.hid hb3;clear hown3 hb3))
 have hbw2:Below W.heap.size W (w1.alloc (.cells #[.slice oa m oc] 27)):=HB1.out.alloc HB1.out.size _
 have hbw3:Below W.heap.size W w3:=hbw2.trans (HB3.out.mono hbw2.size)
 have hnw:=HNEW.out w3 hbw3
 have hbox3:w3.heap[w1.heap.size]? = some (.cells #[.slice oa m oc] 27):=(HB3.out.block _ (by simp)).trans (heap_alloc_new _ _)
 have hrun0:RunAt Cb lv w1.heap.size oa oc (keptOf l) ka w3:=by
  refine ⟨by rw [HL.out];exact hbox3,hnw _ HB1.out.size,((HO1.out.alloc _).below HB3.out).toCells,fun p hp => ?_,HO3.out.toCells,fun p hp => ?_⟩
  · have hm:p.block∈blk oa:=by rw [blk_mem,hp];rfl
    obtain ⟨h1,h2⟩:=HO1.out.blk_lt _ hm
    have:=HB3.out.size
    simp only [World.size_alloc] at this
    exact ⟨by omega,hnw _ h1⟩
  · have hm:p.block∈blk ka:=by rw [blk_mem,hp];rfl
    obtain ⟨h1,h2⟩:=HO3.out.blk_lt _ hm
    exact ⟨h2,hnw _ (Nat.le_trans hbw2.size h1)⟩
 have HRUN0:=Lib.hid hrun0
 have hkc:=HO3.out.le
 have HJ3:=Lib.hid (HJ.out [] W w3 H0.out hbw3).1
 have HKIN:Hid (∀ x∈keptOf l,x < m):=Lib.hid fun x hx => by
  unfold keptOf keptTo at hx
  rw [List.mem_filter,List.mem_range,← HM.out] at hx
  exact hx.1
 have HKLE:Hid ((keptOf l).length≤m):=Lib.hid (by have:=keptTo_le l l.length;rw [HM.out];exact this)
 obtain ⟨K0,hK0⟩:∃ K,K = keptOf l:=⟨_,rfl⟩
 rw [← hK0] at HRUN0 HKIN HKLE hkc ⊢
 have HKC:=Lib.hid hkc
 clear hkc
 have HY0:Hid (∀ (pre:List Rn) (x:Rn) (V:World),pre ++ [x] <+: runsOf lv K0→J pre V→YieldAt Fence.wide (n - 1) Tryz.prog lp #[x.val] V fun e V' => e = .returned (.bool true)∧J (pre ++ [x]) V'∧Framed Cb V V'):=Lib.hid (by rw [hK0];exact HY.out)
 have HXS:Hid (runsOf lv (keptOf l) = runsOf lv K0):=Lib.hid (by rw [hK0])
 obtain ⟨ob,hob⟩:∃ ob,w1.heap.size = ob:=⟨_,rfl⟩
 rw [hob] at HRUN0 ⊢
 clear hob hK0 hrun0 hbox3 hnw hbw2 hbw3 HY HO1 HO3 HB1 HB3 HCL58 HKP70 c1 c2 HS1
 go_loopg [5] K0.length (fun r v wr => ∃ (K:List Nat) (a:Option Addr) (c:Nat) (pre:List Rn),K.length≤r∧K.length≤m∧(∀ x∈K,x < m)∧v = .slice a K.length c∧K.length≤c∧pre ++ runsOf lv K = runsOf lv K0∧J pre wr∧RunAt Cb lv ob oa oc K a wr)
 case atStart => exact ⟨K0,ka,kc,[],Nat.le_refl _,HKLE.out,HKIN.out,rfl,HKC.out,rfl,HJ3.out,HRUN0.out⟩
 case round =>
  obtain ⟨K,a,c,pre,hKr,hKm,hKin,rfl,hKc,hpre,hJr,hR⟩:=hrel
  cases K with
  | nil =>
   have hpe:pre = runsOf lv K0:=by rw [← hpre];exact (List.append_nil _).symm
   have HJE:Hid (J (runsOf lv K0) wr):=Lib.hid (hpe ▸ hJr)
   clear hKr hKm hKin hKc hpre hJr hR hpe
   go_wp2
   go_end0
   exact ⟨⟨_,rfl⟩,by rw [HXS.out];exact HJE.out⟩
  | cons x K =>
   obtain ⟨kb,ko,rfl,hx⟩:=hR.ks.getm (show (x :: K)[0]? = some x from rfl)
   unfold natV at hx
   rw [Nat.add_zero] at hx
   obtain ⟨nn,hnn⟩:∃ nn,nn = nOf lv x (x :: K):=⟨_,rfl⟩
   have hn1':=nOf_pos lv x K
   obtain ⟨_,_,hnL⟩:=nOf_spec lv x (x :: K)
   have hix:=ixOf_eq lv x (x :: K)
   have hrc:=runsOf_cons lv x K
   obtain ⟨y,hy⟩:∃ y,(x :: K)[nn - 1]? = some y:=⟨_,List.getElem?_eq_getElem (by omega)⟩
   have hra:runAt lv x K = ⟨x,y + 1,lv.getD x 0⟩:=by
    unfold runAt
    rw [← hnn,List.getD_eq_getElem?_getD,hy]
    rfl
   rw [← hnn] at hn1' hnL hix hrc
   rw [hra] at hrc
   have hxm:=hKin x (by simp)
   obtain ⟨u,hu⟩:∃ u,lv[x]? = some u:=⟨_,List.getElem?_eq_getElem (by rw [HL.out];exact hxm)⟩
   rw [show lv.getD x 0 = u from by rw [List.getD_eq_getElem?_getD,hu];rfl] at hrc
   have hym:=hKin y (List.mem_of_getElem? hy)
   obtain ⟨q,hq⟩:∃ q,nn = q + 1:=⟨nn - 1,by omega⟩
   rw [hq,Nat.add_sub_cancel] at hy
   obtain ⟨L,hLL⟩:∃ L,L = (x :: K).length:=⟨_,rfl⟩
   have HIDX:=Lib.hid (fun W5 ofs (c:Nat) h hk => index_any W5 lv x ob ofs h (by rw [HL.out];exact hxm) (by rw [HL.out];exact hbig) (x :: K) (some ⟨kb,ko,none⟩) c hk (fun z hz => by rw [HL.out];exact hKin z hz) (by omega))
   rw [← hLL] at hKr hKm hnL hix HIDX ⊢
   have hL1:0 < L:=by omega
   have hbD:Below wr.heap.size wr (wr.alloc (.cells #[.int .i64 x] 3)):=(Below.refl _ _).alloc (Nat.le_refl _) _
   have HOFF:Hid (OffAt lv x ob wr.heap.size (wr.alloc (.cells #[.int .i64 x] 3))):=Lib.hid ⟨⟨oa,oc,(hbD.block _ (Array.getElem?_eq_some_iff.1 hR.box).1).trans hR.box,hR.own.below hbD⟩,heap_alloc_new _ _⟩
   have HKS:=Lib.hid (hR.ks.below hbD)
   have HBD:=Lib.hid hbD
   have HR:=Lib.hid hR
   have HJR:=Lib.hid hJr
   have HPRE:=Lib.hid hpre
   have HRC:=Lib.hid hrc
   have HKI:=Lib.hid hKin
   have HU:=Lib.hid hu
   have HY1:=Lib.hid hy
   have HLL:=Lib.hid hLL
   have HIX:=Lib.hid hix
   have HD1:=Lib.hid (heap_alloc_new wr (.cells #[.int .i64 x] 3))
   have HKR:=Lib.hid hKr
   have HNN:=Lib.hid hnn
   have hL2:(0:Int) < (L:Int):=by omega
   have HQ0:=Lib.hid hq
   rw [← HLL.out] at hKc
   have HKC2:=Lib.hid hKc
   clear hKc hKr hKin hpre hJr hR hnn hix hrc hy hra hu hLL hbD hq
   go_upto_if 27 with (go_at_call 114;refine (HIDX.out _ _ _ HOFF.out HKS.out).mono ?_;rintro e w6 ⟨rfl,hb6⟩;have HB6:=Lib.hid hb6;clear hb6)
   go_cut [7] from 28 to 29 (fun s7 wx => s7 = .int .i64 (nn:Nat)∧wx = w6)
   case first =>
    by_cases hlt:nn < L
    · have hi2:ixOf lv x (x :: K) = (nn:Int):=by rw [HIX.out,if_pos hlt]
      have HI2:=Lib.hid hi2
      have hng:¬ (ixOf lv x (x :: K) < 0):=by omega
      clear hi2
      go_wp2
      go_meet
      case rel => exact ⟨by rw [HI2.out],rfl⟩
    · have hi2:ixOf lv x (x :: K) = -1:=by rw [HIX.out,if_neg hlt]
      have hnn2:nn = L:=by omega
      have HN2:=Lib.hid hnn2
      have hng:ixOf lv x (x :: K) < 0:=by omega
      clear hi2 hnn2 hlt
      go_wp2
      go_meet
      case rel => exact ⟨by rw [HN2.out],rfl⟩
   case rest =>
    obtain ⟨rfl,rfl⟩:=hcut
    have HBA:Hid (Below wr.heap.size wr wc):=Lib.hid (HBD.out.trans (HB6.out.mono (by simp)))
    have hJ6:=HJ.out pre wr wc.drew HJR.out HBA.out.drew
    have hR6:=HR.out.below HBA.out.drew hJ6.2
    obtain ⟨_,_,he,hcy⟩:=hR6.ks.getm HY1.out
    cases he
    obtain ⟨ob2,oo,rfl,hcu⟩:=hR6.own.getm HU.out
    have hbx:=cells_at hR6.box 0
    rw [HL.out] at hbx
    have hfb:=cells_at ((HB6.out.block _ (by simp)).trans HD1.out) 0
    have hyl:=HY0.out pre ⟨x,y + 1,u⟩ wc.drew (by rw [← HPRE.out,HRC.out];exact ⟨runsOf lv ((x :: K).drop nn),by simp⟩) hJ6.1
    rw [show Rn.val ⟨x,y + 1,u⟩ = .agg #[.int .i64 x,.int .i64 ((y:Int) + 1),.int .i8 u] from rfl] at hyl
    obtain ⟨fn,tmps,assign,body,hyr,hRd⟩:=hyl
    unfold natV at hcy
    unfold i8V at hcu
    have HR6:=Lib.hid hR6
    have hq:=HQ0.out
    have hx0:(0:Int)≤(x:Int):=by omega
    have hx1:(x:Int) < (m:Int):=by omega
    have hq0:(0:Int)≤(q:Int):=by omega
    have hq1:(q:Int) < (L:Int):=by omega
    have hwr:=IntWalk.i64_in (q:Int) (by omega)
    have hwr2:=IntWalk.i64_in ((y:Int) + 1) (by omega)
    have HQ:=Lib.hid hq
    have HBL:=Lib.hid (show nn≤L from hnL)
    obtain ⟨D,hDD⟩:∃ D,wr.heap.size = D:=⟨_,rfl⟩
    rw [hDD] at hfb ⊢
    subst hq
    clear hJ6 hR6 hDD hnL hn1' HBD HOFF HKS HR HJR HD1 HB6 HIDX HIX
    replace hcy:wc.cell? _ = _:=hcy
    replace hcu:wc.cell? _ = _:=hcu
    replace hbx:wc.cell? _ = _:=hbx
    go_wp2_with fail
    go_cut [44] from 30 to 43 (fun s44 wx => s44 = .bool false∧J (pre ++ [⟨x,y + 1,u⟩]) wx∧Framed Cb wc.drew wx)
    case first =>
     refine (wpIn_wide (n:=n)).1 ?_
     gi_region_with (refine hRd.mono ?_;rintro e W4 ⟨rfl,hJ4,hF4⟩)
     all_goals
      have HJ4:=Lib.hid hJ4
      have HF4:=Lib.hid hF4
      clear hJ4 hF4
      gi_wp2
      go_meet
      case rel => exact ⟨rfl,HJ4.out,HF4.out⟩
    case rest =>
     obtain ⟨rfl,hJ4,hF4⟩:=hcut
     have HJ4:=Lib.hid hJ4
     have HR4:=Lib.hid (HR6.out.framed hF4)
     have hqc:((q:Int) + 1).toNat = q + 1:=by omega
     have hq2:(0:Int)≤(q:Int) + 1:=by omega
     have hq3:(q:Int) + 1≤(L:Int):=by have:=HBL.out;omega
     clear hJ4 hF4 hcy hcu hbx hfb hwr hwr2 hyr hRd
     go_wp2
     · have HPR:Hid ((pre ++ [⟨x,y + 1,u⟩]) ++ runsOf lv ((x :: K).drop (q + 1)) = runsOf lv K0):=Lib.hid (by rw [← HPRE.out,HRC.out];simp)
       have HDL:Hid (((x :: K).drop (q + 1)).length = L - (q + 1)):=Lib.hid (by rw [List.length_drop,← HLL.out])
       go_roundg (gk - 1)
       case measure => have:=HKR.out;omega
       case rel =>
        refine ⟨(x :: K).drop (q + 1),some ⟨kb,ko,none⟩,0,_,by rw [HDL.out];have:=HKR.out;omega,by rw [HDL.out];omega,fun z hz => HKI.out z (List.mem_of_mem_drop hz),by rw [HDL.out],by rw [HDL.out];have:=HKC2.out;omega,HPR.out,HJ4.out,⟨HR4.out.box,HR4.out.nb,HR4.out.own,HR4.out.so,?_,HR4.out.sk⟩⟩
        rw [List.drop_eq_nil_of_le (by rw [← HLL.out];have:=HKC2.out;omega)]
        exact Cells.nil _ _
     · have HPR:Hid ((pre ++ [⟨x,y + 1,u⟩]) ++ runsOf lv ((x :: K).drop (q + 1)) = runsOf lv K0):=Lib.hid (by rw [← HPRE.out,HRC.out];simp)
       have HDL:Hid (((x :: K).drop (q + 1)).length = L - (q + 1)):=Lib.hid (by rw [List.length_drop,← HLL.out])
       go_roundg (gk - 1)
       case measure => have:=HKR.out;omega
       case rel =>
        refine ⟨(x :: K).drop (q + 1),some ⟨kb,ko + (q + 1),none⟩,c - (q + 1),_,by rw [HDL.out];have:=HKR.out;omega,by rw [HDL.out];omega,fun z hz => HKI.out z (List.mem_of_mem_drop hz),by rw [HDL.out],by rw [HDL.out];have:=HKC2.out;omega,HPR.out,HJ4.out,⟨HR4.out.box,HR4.out.nb,HR4.out.own,HR4.out.so,?_,fun p hp => by cases hp;exact HR4.out.sk ⟨kb,ko,none⟩ rfl⟩⟩
        have:=HR4.out.ks.drop (q + 1)
        rw [← List.map_drop] at this
        exact this
end Go.Proofs.YtjnidopbdjbbgaaGreat
