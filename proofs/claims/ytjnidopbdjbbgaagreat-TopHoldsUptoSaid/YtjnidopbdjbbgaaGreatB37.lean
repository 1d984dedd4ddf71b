/-
  The reference: one paragraph resolved (resolve): walked: it ends.
-/
import Derived.Test.YtjnidopbdjbbgaaGreatB27
import Derived.Test.YtjnidopbdjbbgaaGreatB36
import Derived.Test.YtjnidopbdjbbgaaGreatB34
import Derived.Test.YtjnidopbdjbbgaaGreatB28
namespace Go.Proofs.YtjnidopbdjbbgaaGreat
open Go.RowKit
set_option linter.unusedVariables false
def RefP (w:World) (e:Ending) (w':World):Prop:=∃ (bx:Int) (ka la:Option Addr) (n1 n2 kc lc:Nat),e = .returned (.tuple #[.agg #[.int .i8 bx,.slice ka n1 kc,.slice la n2 lc],.int .i64 0])∧Below w.heap.size w w'
set_option maxRecDepth 20000 in
set_option maxHeartbeats 8000000 in
theorem xresol_any (w:World) (a:Option Addr) (n c:Nat) (l:List Nat) (b:Int) (hbb:b = -1∨b = 0∨b = 1) (h23:∀ x∈l,1≤x∧x≤23) (hl:l.length = n) (hn:n≤1048576) (hc:Cells w a (l.map u8V)):
 Calls Tryz.prog 30 #[.agg #[.int .u8 0,.slice none 0 0],.slice none 0 0,.slice a n c,.int .i8 b] w (RefP w):=by
 obtain ⟨i8,hi8,hy0,hy1,hy2⟩:=info_parts info26
 have HC:=Lib.hid hc
 have HL:=Lib.hid hl
 have HLV:=Lib.hid (fun w' h => xlev_any w' a n c l b hbb hl hn h)
 have HEX:=Lib.hid (fun w' (v:Nat) (hv:v≤1) h => xexpl_any w' a n c v l hv h23 hl hn h)
 obtain ⟨w0,hw0⟩:∃ w0,w0 = (w.alloc (.cells #[.int .u8 0,.slice none 0 0] 52)).alloc (.cells #[.int .i8 0,.slice none 0 0,.slice none 0 0] 29):=⟨_,rfl⟩
 have HB0:=Lib.hid (show Below w.heap.size w w0 from by rw [hw0];exact below_alloc2 w _ _)
 have HN8:Hid (w0.heap[w.heap.size + 1]? = some (.cells #[.int .i8 0,.slice none 0 0,.slice none 0 0] 29)):=Lib.hid (by rw [hw0];exact (alloc2_at w _ _).2)
 have HW0:=Lib.hid hw0
 have hnn:(n:Int)≤1048576:=by omega
 clear hc hl hw0
 go_enter Tryz.func30,Tryz.ntmps30
 go_upto_region 1 with (fail)
 rw [← HW0.out]
 go_wp2_with (first
  | (go_at_call 51;refine (HLV.out _ (HC.out.below HB0.out)).mono ?_;rintro e w1 ⟨v,rfl,hv,b1⟩;have HV:=Lib.hid hv;have HB1:=Lib.hid (HB0.out.trans (b1.mono HB0.out.size));have HN81:=Lib.hid ((b1.block _ (Array.getElem?_eq_some_iff.1 HN8.out).1).trans HN8.out);clear hv b1)
  | (go_at_call 52;refine (HEX.out _ v HV.out (HC.out.below HB1.out)).mono ?_;rintro e w2 ⟨la,lc,ka,kc,ma,mc,rfl,lv,ks,hlv,hks,hcl,hck,b2⟩;have HLL:=Lib.hid hlv;have HKL:=Lib.hid hks;have HCL:=Lib.hid hcl;have HCK:=Lib.hid hck;have HB2:=Lib.hid (HB1.out.trans (b2.mono HB1.out.size));have HN82:=Lib.hid ((b2.block _ (Array.getElem?_eq_some_iff.1 HN81.out).1).trans HN81.out);clear hlv hks hcl hck b2))
 obtain ⟨W3,hW3⟩:∃ W3,W3 = w2.alloc (.cells #[.slice la n lc,.slice ka n kc,.slice ma n mc] 84):=⟨_,rfl⟩
 obtain ⟨W4,hW4⟩:∃ W4,W4 = W3.alloc (.cells #[.int .i8 v,.slice a n c,.slice none 0 0] 29):=⟨_,rfl⟩
 rw [← hW3,← hW4]
 obtain ⟨N,hN⟩:∃ N,w2.heap.size = N:=⟨_,rfl⟩
 have HB3:=Lib.hid (show Below w.heap.size w W3 from by rw [hW3];exact HB2.out.alloc HB2.out.size _)
 have HB23:=Lib.hid (show Below w2.heap.size w2 W3 from by rw [hW3];exact (Below.refl _ _).alloc (Nat.le_refl _) _)
 have HS3:Hid (W3.heap.size = N + 1):=Lib.hid (by rw [hW3,← hN];simp)
 have HH3:Hid (W3.heap[N]? = some (.cells #[.slice la n lc,.slice ka n kc,.slice ma n mc] 84)):=Lib.hid (by rw [hW3,← hN];exact heap_alloc_new w2 _)
 have HN83:=Lib.hid ((HB23.out.block _ (Array.getElem?_eq_some_iff.1 HN82.out).1).trans HN82.out)
 have HCK3:=Lib.hid (HCK.out.below HB23.out)
 have HCL3:=Lib.hid (HCL.out.below HB23.out)
 have HX4:Hid (RX W3 W4 (N + 1) v n a c 0 none 0 []):=Lib.hid ⟨by rw [hW4,← HS3.out];exact heap_alloc_new W3 _,Own.nil _ _ _,by rw [hW4,← HS3.out];exact (Below.refl _ _).alloc (Nat.le_refl _) _⟩
 rw [hN]
 clear hW3 hW4 hN HB1 HB2 HN81 HN82 HN8 HLV HEX HCK HCL HB23
 go_loopg [15] n (fun r s15 wr => ∃ (k gc:Nat) (ga:Option Addr) (X:List Int),k + r = n∧s15 = .int .i64 k∧RX W3 wr (N + 1) v n a c k ga gc X)
 case atStart => exact ⟨0,0,none,[],by omega,rfl,HX4.out⟩
 case round =>
  obtain ⟨k,gc,ga,X,hk,rfl,hx⟩:=hrel
  obtain ⟨V,rfl⟩:∃ V:World,V = wr:=⟨_,rfl⟩
  have HK:=Lib.hid hk
  have HX:=Lib.hid hx
  have g2:=cells_at hx.box 2
  by_cases hlt:k < n
  · have hk0:(0:Int)≤(k:Int):=by omega
    have hk1:(k:Int) < (n:Int):=by omega
    have hk2:(k:Int)≤1048576:=by omega
    have HLT:=Lib.hid hlt
    have HSZ:=Lib.hid hx.lt
    clear hk hx hlt
    go_wp2_with (at_builtin;refine wpList_push rfl _ _ 27 rfl 26 i8 (.int .i8 0) 1 Tryz.underlying27 hi8 hy0 hy1 hy2 rfl rfl (N + 1 + 1) ga k gc _ rfl _ _ rfl HX.out.own _ rfl rfl rfl (by have:=HLT.out;omega) (by decide) (by have:=HSZ.out;omega) ?_;intro ga' gc' w5 h1 h2 h3;have HX5:=Lib.hid (HX.out.push (x:=-1) h1 h3);have e0:=cells_at ((h3.block (N + 1) (Nat.lt_succ_self _)).trans HX.out.box) 2;have e1:=frozen_at ((h3.block (N + 1) (Nat.lt_succ_self _)).trans HX.out.box) 2;clear h1 h2 h3)
    go_roundg (gk - 1)
    case measure => have:=HK.out;have:=HLT.out;omega
    case rel => exact ⟨k + 1,gc',ga',X ++ [-1],by have:=HK.out;have:=HLT.out;omega,by go_num,HX5.out⟩
  · obtain rfl:n = k:=by omega
    have hb3:Below W3.heap.size W3 V:=by rw [HS3.out];exact hx.below
    have HCK5:=Lib.hid (HCK3.out.below hb3)
    have HCL5:=Lib.hid (HCL3.out.below hb3)
    have HC5:=Lib.hid ((HC.out.below HB3.out).below hb3)
    have hh:=(hb3.block N (by rw [HS3.out];exact Nat.lt_succ_self N)).trans HH3.out
    have h0:=cells_at hh 0
    have h1:=cells_at hh 1
    have HBV:=Lib.hid (HB3.out.trans (hb3.mono HB3.out.size))
    have HSQ:=Lib.hid (fun w' h1 h2 h3 => xseqs_any w' a ka la n c kc lc v l ks lv HV.out HL.out HKL.out HLL.out hn h1 h2 h3)
    clear hk hx hlt hb3 hh g2
    go_wp2_with (go_at_call 53;refine (HSQ.out _ HC5.out HCK5.out HCL5.out).mono ?_;rintro e w6 ⟨oa,oc,S,err,rfl,hSn,hSk,hS,b6⟩;have HSN:=Lib.hid hSn;have HSK:=Lib.hid hSk;have HSO:=Lib.hid hS;have HB6:=Lib.hid b6;clear hSn hSk hS b6)
    clear h0 h1
    have HX6:=Lib.hid (HX.out.after HB6.out)
    obtain ⟨N5,hN5⟩:∃ N5,V.heap.size = N5:=⟨_,rfl⟩
    have HN5:=Lib.hid (show N + 1 < N5 from by have:=HX.out.lt;omega)
    have HXG:Hid (∀ g,ga = some ⟨g,0,none⟩→g < N5):=Lib.hid (fun g hg => by have:=HX.out.own;rw [hg] at this;rw [← hN5];exact this.lt.2)
    have HB06:=Lib.hid (HBV.out.trans (HB6.out.mono HBV.out.size))
    rw [hN5] at HSO
    clear hN5 HX HB6 HBV HCK5 HCL5 HCK3 HCL3 HX4
    obtain ⟨m,hm⟩:∃ m,m = S.length:=⟨_,rfl⟩
    have HM:=Lib.hid hm
    rw [← hm] at HSN ⊢
    clear hm
    have hmm:(m:Int)≤1048576:=by have:=HSN.out;omega
    go_wp2_with fail
    go_loopg [18] m (fun r s18 wr => ∃ (i:Nat) (X:List Int),i + r = m∧s18 = .int .i64 i∧RX W3 wr (N + 1) v n a c n ga gc X∧XOuts wr N5 oa oc S)
    case atStart => exact ⟨0,X,by omega,rfl,HX6.out,HSO.out⟩
    case round =>
     obtain ⟨i,Y,hi,rfl,hx,hS⟩:=hrel
     obtain ⟨V,rfl⟩:∃ V:World,V = wr:=⟨_,rfl⟩
     obtain ⟨G,rfl⟩:∃ G,G = gk:=⟨_,rfl⟩
     have HI:=Lib.hid hi
     by_cases hlt:i < m
     · obtain ⟨s,hs⟩:∃ s,S[i]? = some s:=⟨_,List.getElem?_eq_getElem (by rw [← HM.out];exact hlt)⟩
       obtain ⟨sb,so,rfl,d0,d1,d2,d3,d4⟩:=hS.read.at hs
       have HOKS:=Lib.hid (HSK.out s (List.mem_of_getElem? hs))
       have HMEM:=Lib.hid (List.mem_of_getElem? hs)
       obtain ⟨O,hO⟩:∃ O:Obj,O = .cells #[.slice s.pa s.ps.length s.pc,.slice s.ca s.ps.length s.cc,.int .i8 s.lv,.int .u8 s.sos,.int .u8 s.eos] 75:=⟨_,rfl⟩
       have HV1:=Lib.hid (show Below V.heap.size V (V.alloc O) from (Below.refl _ _).alloc (Nat.le_refl _) _)
       have HH1:=Lib.hid (heap_alloc_new V O)
       have HSV:=Lib.hid (show V.heap.size < (V.alloc O).heap.size from by simp)
       have HXV:=Lib.hid hx
       have HSOV:=Lib.hid hS
       have HN5V:=Lib.hid (show ∀ g,ga = some ⟨g,0,none⟩→g < V.heap.size from fun g hg => by have:=hx.own;rw [hg] at this;exact this.lt.2)
       have HC1:=Lib.hid ((hS.cs s (List.mem_of_getElem? hs)).1.toCells.below HV1.out)
       have hi0:(0:Int)≤(i:Int):=by omega
       have hi1:(i:Int) < (m:Int):=by omega
       have hi2:(i:Int)≤1048576:=by omega
       have HLT:=Lib.hid hlt
       obtain ⟨L,hL⟩:∃ L,s.ps.length = L:=⟨_,rfl⟩
       have HLP:=Lib.hid hL
       have HCS:=Lib.hid (show s.cs.length = L from by rw [HOKS.out.same,hL])
       have HLN:=Lib.hid (show L≤n from by rw [← hL];exact HOKS.out.le)
       rw [hL] at d0 d1 hO
       subst hO
       clear hi hlt hx hS hs hL
       go_upto_region 14 with (first
        | (go_at_call 54;refine (xresolve_any _ s.ca L s.cc s.sos s.cs HCS.out (by have:=HLN.out;omega) HC1.out).mono ?_;rintro e w7 ⟨vb,vd,rfl,vs,hvl,ho7,b7⟩;have HVS:=Lib.hid hvl;have HO7:=Lib.hid ho7;have HB7:=Lib.hid b7;have HH7:=Lib.hid ((b7.block _ HSV.out).trans HH1.out);have e1:=cells_at HH7.out 1;have f1:=frozen_at HH7.out 1;clear hvl ho7 b7))
       obtain ⟨NB,hNB⟩:∃ NB,V.heap.size = NB:=⟨_,rfl⟩
       have HNB:=Lib.hid hNB
       have HV7:=Lib.hid (show Below V.heap.size V (w7.setCell ⟨V.heap.size,1,none⟩ (.slice vb L vd)) from (HV1.out.trans (HB7.out.mono HV1.out.size)).setCell (p:=⟨V.heap.size,1,none⟩) (Nat.le_refl _) _)
       have HO8:=Lib.hid (own_st HO7.out V.heap.size (fun e => by have:=(own_at HO7.out e).2.1;have:=HSV.out;omega) 1 (.slice vb L vd))
       have hh8:=heap_set HH7.out (.slice vb L vd) (j:=1)
       rw [hNB] at hh8 HO8 HV7 HN5V ⊢
       obtain ⟨W8,hW8⟩:∃ W8,W8 = w7.setCell ⟨NB,1,none⟩ (.slice vb L vd):=⟨_,rfl⟩
       rw [← hW8] at hh8 HO8 HV7 ⊢
       have HH8:Hid (W8.heap[NB]? = some (.cells #[.slice s.pa L s.pc,.slice vb L vd,.int .i8 s.lv,.int .u8 s.sos,.int .u8 s.eos] 75)):=Lib.hid hh8
       have HV8:Hid (Below V.heap.size V W8):=Lib.hid (by rw [hNB];exact HV7.out)
       have HX8:=Lib.hid (HXV.out.after HV8.out)
       have HSO8:=Lib.hid (HSOV.out.below HV8.out)
       have HNB8:=Lib.hid (Array.getElem?_eq_some_iff.1 HH8.out).1
       clear hNB hW8 hh8 HV7 HO7 HB7 HH7 HH1 HV1 HC1 HSV d0 d1 d2 d3 d4 e1 f1 HXV HSOV
       go_wp2_with (first
        | (with_reducible refine wpList_load_row rfl 75 _ rfl NB rfl 75 _ (0,0) _ HH8.out Tryz.underlying75 rfl (by kernel_rfl) ?_)
        | (go_at_call 56;refine (xrest_any _ s.pa vb L L s.pc vd s.sos s.eos s.lv vs HVS.out (by have:=HLN.out;omega) HOKS.out.lv HO8.out.toCells).mono ?_;rintro e w9 ⟨zb,zd,rfl,zs,hzl,ho9,b9⟩;have HZL:=Lib.hid hzl;have HO9:=Lib.hid ho9;have HB9:=Lib.hid b9;clear hzl ho9 b9))
       have HX9:=Lib.hid (HX8.out.after HB9.out)
       have HSO9:=Lib.hid (HSO8.out.below HB9.out)
       have HH9:=Lib.hid ((HB9.out.block _ HNB8.out).trans HH8.out)
       have HNB8':=Lib.hid (Nat.le_of_lt HNB8.out)
       obtain ⟨N9,hN9⟩:∃ N9,W8.heap.size = N9:=⟨_,rfl⟩
       rw [hN9] at HO9 HNB8
       clear HX8 HSO8 HH8 HO8 HB9 hN9 HNB8' HV8
       go_loopg [89] L (fun q s89 wq => ∃ (j:Nat) (Z:List Int),j + q = L∧s89 = .int .i64 j∧RX W3 wq (N + 1) v n a c n ga gc Z∧XOuts wq N5 (some ⟨sb,so,none⟩) oc S∧wq.heap[NB]? = some (.cells #[.slice s.pa L s.pc,.slice vb L vd,.int .i8 s.lv,.int .u8 s.sos,.int .u8 s.eos] 75)∧Own wq N9 1 zb L zd (zs.map u8V))
       case atStart => exact ⟨0,Y,by omega,rfl,HX9.out,HSO9.out,HH9.out,HO9.out⟩
       case round =>
        obtain ⟨j,Z,hj,rfl,hx,hS,hh,ho⟩:=hrel
        obtain ⟨U,rfl⟩:∃ U:World,U = wr:=⟨_,rfl⟩
        have HJ:=Lib.hid hj
        by_cases hlt:j < L
        · obtain ⟨p,hp⟩:∃ p,s.ps[j]? = some p:=⟨_,List.getElem?_eq_getElem (by rw [HLP.out];exact hlt)⟩
          obtain ⟨y,hy⟩:∃ y,zs[j]? = some y:=⟨_,List.getElem?_eq_getElem (by rw [HZL.out];exact hlt)⟩
          have hpn:p < n:=HOKS.out.lt p (List.mem_of_getElem? hp)
          obtain ⟨g,rfl⟩:=hx.own.pos (by omega)
          obtain ⟨hps,_⟩:=hS.ps s HMEM.out
          obtain ⟨pb,hpa⟩:=hps.pos (by rw [HLP.out];omega)
          obtain ⟨_,_,he,hcp⟩:=hps.toCells.getm hp
          rw [hpa] at he
          cases he
          obtain ⟨zg,rfl⟩:=ho.pos (by omega)
          obtain ⟨hcz,_⟩:=ho.getm hy
          obtain ⟨u,hu⟩:∃ u,Z[p]? = some u:=⟨_,List.getElem?_eq_getElem (by have:=hx.own.len;rw [List.length_map] at this;omega)⟩
          obtain ⟨hcg,hfg⟩:=hx.own.getm hu
          have k14:=cells_at hx.box 2
          have k0:=cells_at hh 0
          have k2:=cells_at hh 2
          rw [hpa] at k0
          rw [Nat.zero_add] at hcp
          unfold natV at hcp
          unfold u8V at hcz
          unfold i8V at hcg
          have hg1:g < NB:=HN5V.out g rfl
          have hg5:g < N5:=HXG.out g rfl
          have hg0:N + 1 < g:=hx.own.lt.1
          have hne1:N + 1≠g:=by omega
          have hne2:NB≠g:=by omega
          have hne3:pb≠g:=by
           have h1:=hps
           rw [hpa] at h1
           have:=h1.lt.1
           omega
          have hj0:(0:Int)≤(j:Int):=by omega
          have hj1:(j:Int) < (L:Int):=by omega
          have hj2:(j:Int)≤1048576:=by have:=HLN.out;omega
          have hp0:(0:Int)≤(p:Int):=by omega
          have hp1:(p:Int) < (n:Int):=by omega
          have HLT2:=Lib.hid hlt
          have HXU:=Lib.hid hx
          have HSU:=Lib.hid hS
          have HHU:=Lib.hid hh
          have HOU:=Lib.hid ho
          have HPN:=Lib.hid hpn
          have HG5:=Lib.hid hg5
          have HN9G:=Lib.hid (show g < N9 from by have:=HNB8.out;omega)
          clear hj hlt hp hy hpn hx hS hh ho hps hpa hu hg1 hg5 hg0
          go_wp2_with fail
          go_upto_region 19 with (fail)
          go_region_held3 (fun w' => w'.cell? ⟨N + 1,2,none⟩ = some (.slice (some ⟨g,0,none⟩) n gc)∧w'.cell? ⟨NB,0,none⟩ = some (.slice (some ⟨pb,0,none⟩) L s.pc)∧w'.cell? ⟨pb,j,none⟩ = some (.int .i64 p)∧w'.cell? ⟨NB,2,none⟩ = some (.int .i8 s.lv))
           (first | exact ⟨k14,k0,hcp,k2⟩ | exact ⟨cell_set (w:=World.drewN U _) k14 hne1,cell_set (w:=World.drewN U _) k0 hne2,cell_set (w:=World.drewN U _) hcp hne3,cell_set (w:=World.drewN U _) k2 hne2⟩)
           (first | (go_at_call 57;refine (xlevel_any _ s.lv y HOKS.out.lv).mono ?_;rintro e w10 ⟨⟨z,rfl⟩,rfl⟩))
          have hbd:∀ t,Below U.heap.size U (World.drewN U t):=fun t => below_drewN (Below.refl _ _) t
          go_wp2_with fail
          go_roundg (gk - 1)
          case measure => have:=HJ.out;have:=HLT2.out;omega
          case rel => exact ⟨j + 1,Z.set p z,by have:=HJ.out;have:=HLT2.out;omega,by go_num,((HXU.out.after (hbd _)).store HPN.out z).1,(HSU.out.below (hbd _)).st HG5.out p _,heap_other (((hbd _).block _ (Array.getElem?_eq_some_iff.1 HHU.out).1).trans HHU.out) hne2 _,own_st (HOU.out.below (hbd _)) g (fun e => by have:=(own_at HOU.out e).2.1;have:=HN9G.out;omega) p _⟩
        · obtain rfl:L = j:=by omega
          have HXU:=Lib.hid hx
          have HSU:=Lib.hid hS
          clear hj hlt hx hS hh ho
          go_wp2_with fail
          go_roundg (G - 1)
          case measure => have:=HI.out;have:=HLT.out;omega
          case rel => exact ⟨i + 1,Z,by have:=HI.out;have:=HLT.out;omega,by go_num,HXU.out,HSU.out⟩
     · obtain rfl:m = i:=by omega
       have hh:=(hx.below.block _ (show w.heap.size + 1 < N + 1 from by have:=(Array.getElem?_eq_some_iff.1 HN83.out).1;have:=HS3.out;omega)).trans HN83.out
       have n0:=cells_at hh 0
       have n1:=cells_at hh 1
       have n2:=cells_at hh 2
       have z0:=frozen_at hh 0
       have z1:=frozen_at hh 1
       have z2:=frozen_at hh 2
       have HXV:=Lib.hid hx
       have hr:=heap_set3 hh (.int .i8 v) (.slice a n c) (.slice ga n gc)
       have HBF:=Lib.hid (HB3.out.trans (hx.below.mono (by have:=HB3.out.size;have:=HS3.out;omega)))
       clear hi hlt hx hS hh
       go_wp2_with (with_reducible refine wpList_load_row rfl 29 _ rfl (N + 1) rfl 29 _ (0,0) _ HXV.out.box Tryz.underlying29 rfl (by kernel_rfl) ?_)
       exact bodyPost_ret (res30 _ _ _ _ _ _ hr rfl rfl) rfl ⟨v,a,ga,n,n,c,gc,rfl,((HBF.out.setCell (p:=⟨w.heap.size + 1,0,none⟩) (Nat.le_succ _) _).setCell (p:=⟨w.heap.size + 1,1,none⟩) (Nat.le_succ _) _).setCell (p:=⟨w.heap.size + 1,2,none⟩) (Nat.le_succ _) _⟩
end Go.Proofs.YtjnidopbdjbbgaaGreat
