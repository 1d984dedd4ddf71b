/-
  The law TopHolds: walked.
-/
import Derived.Test.YtjnidopbdjbbgaaGreatB26
import Derived.Test.YtjnidopbdjbbgaaGreatB28
import Derived.Test.YtjnidopbdjbbgaaGreatB42
import Derived.Test.YtjnidopbdjbbgaaGreatB38
namespace Go.Proofs.YtjnidopbdjbbgaaGreat
open Go.RowKit
set_option linter.unusedVariables false
/-- Is an override begun, in the first k? -/
def ovTo (l:List Nat) (k:Nat):Bool:=(l.take k).any fun c => c == 16 || c == 18
theorem ovTo_succ {l:List Nat} {k x:Nat} (h:l[k]? = some x):ovTo l (k + 1) = (ovTo l k || (x == 16 || x == 18)):=by
 unfold ovTo
 rw [List.take_add_one,h,List.any_append]
 simp
theorem ovTo_all {l:List Nat} {k:Nat} (hk:l.length≤k) (h:ovTo l k = false):ovOf (l.map knownOf) = false:=by
 unfold ovTo at h
 rw [List.take_of_length_le hk] at h
 unfold ovOf
 rw [List.any_eq_false] at h ⊢
 intro c hc
 obtain ⟨y,hy,rfl⟩:=List.mem_map.1 hc
 have:=h y hy
 simp at this ⊢
 unfold knownOf
 split <;> omega
set_option maxRecDepth 20000 in
set_option maxHeartbeats 8000000 in
theorem holds_walk (w:World) (a0:Option Addr) (c0:Nat) (l:List Nat) (hn0:l.length≤1048576) (hx0:Cells w a0 (l.map u8V)) (b:Int):
 Calls Tryz.prog 4 #[.slice a0 l.length c0,.int .i8 b] w fun e w' => e = .returned (.bool true)∧Below w.heap.size w w':=by
 have HX0:=Lib.hid hx0
 have HC:=Lib.hid (fun (w:World) hc => classes_sum w a0 c0 l b hn0 hc)
 have HF:=Lib.hid (fun (w:World) hc => refC_any w a0 c0 l b hn0 hc)
 have HR:=Lib.hid (fun w => runsT_any w)
 obtain ⟨n,hnn⟩:∃ n,n = l.length:=⟨_,rfl⟩
 have HN:=Lib.hid hnn
 rw [← hnn] at hn0 HC HF ⊢
 clear hx0 hnn
 go_enter Tryz.func4,Tryz.ntmps4
 go_wp2_with fail
 refine (HR.out _).mono ?_
 rintro e W1 ⟨rfl,b1⟩
 have B1:=Lib.hid b1
 clear b1
 go_wp2_with fail
 refine (HC.out _ (HX0.out.below B1.out)).mono ?_
 rintro e W2 ⟨⟨err,herr,hbad,rfl⟩ | ⟨hmay,hlast,ka,kc,la,lc,rfl,q1,q2⟩,b2⟩
 · have B2:=Lib.hid (B1.out.trans (b2.mono B1.out.size))
   have HBAD:=Lib.hid hbad
   clear b2 hbad
   rcases herr with rfl | rfl
   all_goals
    go_wp2_with fail
    obtain ⟨N1,hN1⟩:∃ N1,N1 = W2.heap.size:=⟨_,rfl⟩
    obtain ⟨V2,hV2⟩:∃ V2,V2 = W2.alloc (.cells #[.int .i8 0,.slice none 0 0,.slice none 0 0] 29):=⟨_,rfl⟩
    have HX2:=Lib.hid (show V2.heap[N1]? = some (.cells #[.int .i8 0,.slice none 0 0,.slice none 0 0] 29) from by rw [hV2,hN1];exact heap_alloc_new _ _)
    have BV:=Lib.hid (show Below w.heap.size w V2 from by rw [hV2];exact B2.out.alloc B2.out.size _)
    have HNV:=Lib.hid (show N1 < V2.heap.size from by rw [hV2,hN1];simp)
    rw [← hN1,← hV2]
    clear hN1 hV2
    refine (HF.out _ (HX0.out.below BV.out)).mono ?_
    rintro e W3 ⟨bx,err,ka,la,n1,n2,kc,lc,rfl,⟨h1,h2,h3⟩ | ⟨_,h3⟩,b3⟩
    · exfalso
      rcases HBAD.out with h | h
      · rw [h1] at h;cases h
      · rw [h2] at h;cases h
    · have B3:=Lib.hid (BV.out.trans (b3.mono BV.out.size))
      have HX4:Hid (∀ o,(W3.alloc o).heap[N1]? = some (.cells #[.int .i8 0,.slice none 0 0,.slice none 0 0] 29)):=Lib.hid fun o => (((Below.refl W3.heap.size W3).alloc (Nat.le_refl _) o).block N1 (Nat.lt_of_lt_of_le HNV.out b3.size)).trans ((b3.block N1 HNV.out).trans HX2.out)
      have e2:=cells_at (HX4.out (.cells #[.int .i8 bx,.slice ka n1 kc,.slice la n2 lc] 29)) 2
      clear b3
      rcases h3 with rfl | rfl
      all_goals
       go_wp2
       go_ret
       exact ⟨rfl,B3.out.alloc B3.out.size _⟩
 · have B2:=Lib.hid (B1.out.trans (b2.mono B1.out.size))
   obtain ⟨L,hL⟩:∃ L,L = l.map knownOf:=⟨_,rfl⟩
   rw [← hL] at hlast q1 q2 HF ⊢
   have HLL:Hid (L.length = n):=Lib.hid (by rw [hL,List.length_map,HN.out])
   have HLX:Hid (∀ (i x:Nat),l[i]? = some x→L[i]? = some (knownOf x)):=Lib.hid fun i x h => by rw [hL,List.getElem?_map,h];rfl
   have HKN:Hid (∀ x∈L,1≤x∧x≤23):=Lib.hid (by rw [hL];exact known_ok)
   have HPL:Hid (plainB l = true→∀ c∈L,PlainC c):=Lib.hid fun h c hc => by
    rw [hL] at hc
    obtain ⟨y,hy,rfl⟩:=List.mem_map.1 hc
    have h5:=(plainB_iff l).1 h y hy
    have:knownOf y = y:=by unfold knownOf;rw [if_pos (by omega)]
    rw [this]
    exact h5
   have HOV:Hid (ovTo l n = false→ovOf L = false):=Lib.hid fun h => by rw [hL];exact ovTo_all (by rw [← HN.out];exact Nat.le_refl _) h
   obtain ⟨E,hE⟩:∃ E,E = engineOf b L:=⟨_,rfl⟩
   obtain ⟨base,hbase⟩:∃ base,base = baseOf b L:=⟨_,rfl⟩
   rw [← hE] at q2
   rw [← hbase]
   have HEL:Hid (E.length = n):=Lib.hid (by rw [hE,engine_len,HLL.out])
   have HMAY:Hid (∀ (i c:Nat) (v:Int),L[i]? = some c→E[i]? = some v→MayAt (base:Int) c v):=Lib.hid (by rw [hE,hbase];exact engine_may (by rw [HLL.out];exact hn0) HKN.out)
   have HPAR:Hid (∀ (i c:Nat),L[i]? = some c→rem c = false→∃ v:Nat,E[i]? = some (v:Int)∧base≤v∧v≤126∧(ovOf L = false→(c = 1→v % 2 = 0)∧(c = 2∨c = 3→v % 2 = 1))):=Lib.hid fun i c h1 h2 => by
    rw [hE,hbase]
    exact engine_seq (by rw [HLL.out];exact hn0) HKN.out h1 h2
   have HZERO:Hid (b = 0→plainB l = true→base = 0∧∀ v∈E,v = 0):=Lib.hid fun h1 h2 => by
    rw [hE,hbase,h1]
    exact ⟨by unfold baseOf;rw [if_pos rfl],engine_plain (by rw [HLL.out];exact hn0) (HPL.out h2)⟩
   have hb01:base = 0∨base = 1:=by rw [hbase];exact baseOf_le b L
   clear hL hE hbase
   have Q1:=Lib.hid q1
   have Q2:=Lib.hid q2
   have hcapl:n≤lc:=q2.le
   clear b2 q1 q2
   go_wp2_with fail
   obtain ⟨N1,hN1⟩:∃ N1,N1 = W2.heap.size:=⟨_,rfl⟩
   obtain ⟨V2,hV2⟩:∃ V2,V2 = W2.alloc (.cells #[.int .i8 base,.slice ka n kc,.slice la n lc] 29):=⟨_,rfl⟩
   have BA:Below W2.heap.size W2 V2:=by rw [hV2];exact (Below.refl _ _).alloc (Nat.le_refl _) _
   have HX2:=Lib.hid (show V2.heap[N1]? = some (.cells #[.int .i8 base,.slice ka n kc,.slice la n lc] 29) from by rw [hV2,hN1];exact heap_alloc_new _ _)
   have BV:=Lib.hid (B2.out.trans (BA.mono B2.out.size))
   have R1:=Lib.hid (Q1.out.below BA)
   have R2:=Lib.hid (Q2.out.below BA)
   have HNV:=Lib.hid (show N1 < V2.heap.size from by rw [hV2,hN1];simp)
   rw [← hN1,← hV2]
   clear hN1 hV2 BA
   refine (HF.out _ (HX0.out.below BV.out)).mono ?_
   rintro e W3 ⟨bx,err,ra,rb,n1,n2,rc,rd,rfl,⟨_,_,rfl⟩ | ⟨h,_⟩,b3⟩
   case inr =>
    exfalso
    rcases h with h | h
    · rw [hmay] at h;cases h
    · rw [hlast] at h;cases h
   obtain ⟨V,hV⟩:∃ V,V = W3.alloc (.cells #[.int .i8 bx,.slice ra n1 rc,.slice rb n2 rd] 29):=⟨_,rfl⟩
   have BA:Below V2.heap.size V2 V:=by rw [hV];exact b3.trans ((Below.refl _ _).alloc b3.size _)
   have HY:=Lib.hid ((BA.block N1 HNV.out).trans HX2.out)
   have BW:=Lib.hid (BV.out.trans (BA.mono BV.out.size))
   have S1:=Lib.hid (R1.out.below BA)
   have S2:=Lib.hid (R2.out.below BA)
   have HVE:=Lib.hid hV
   clear b3 BA hV
   have e0:=cells_at HY.out 0
   have e1:=cells_at HY.out 1
   have e2:=cells_at HY.out 2
   have HCK:=Lib.hid (checkE_any V base ka la kc lc L E n (by omega) HLL.out HEL.out hn0 S1.out.toCells S2.out.toCells HMAY.out)
   go_upto_region 7 with (fail)
   rw [← HVE.out]
   go_wp2_with (refine wp_load_row 29 _ rfl N1 rfl 29 _ (0,0) _ HY.out Tryz.underlying29 rfl (by kernel_rfl) ?_)
   refine HCK.out.mono ?_
   rintro e U ⟨rfl,b5⟩
   have HZ:=Lib.hid ((b5.block N1 (Array.getElem?_eq_some_iff.1 HY.out).1).trans HY.out)
   have BU:=Lib.hid (BW.out.trans (b5.mono BW.out.size))
   have T1:=Lib.hid (S1.out.below b5)
   have T2:=Lib.hid (S2.out.below b5)
   have XU:=Lib.hid (HX0.out.below BU.out)
   have hn9:(n:Int)≤1048576:=by omega
   clear b5 e0 e1 e2
   go_wp2
   go_loopg [9,10] n (fun r tb i wr => ∃ k:Nat,k + r = n∧i = .int .i64 k∧tb = .bool (ovTo l k)∧U = wr)
   case atStart => exact ⟨0,by omega,rfl,rfl,rfl⟩
   case round =>
    obtain ⟨k,hk,rfl,rfl,rfl⟩:=hrel
    have HK:=Lib.hid hk
    clear hk
    have hk0:(0:Int)≤(k:Int):=by omega
    by_cases hlt:k < n
    · obtain ⟨x,hx⟩:∃ x,l[k]? = some x:=⟨_,List.getElem?_eq_getElem (by rw [← HN.out];exact hlt)⟩
      obtain ⟨z0,o0,rfl,hcx⟩:=XU.out.getm hx
      unfold u8V at hcx
      have hov:=ovTo_succ hx
      have hk1:(k:Int) < (n:Int):=by omega
      generalize ovTo l k = t at hov ⊢
      cases t with
      | true =>
       have HOS:=Lib.hid (show ovTo l (k + 1) = true from by rw [hov];rfl)
       clear hx hov
       go_wp2
       go_roundg (gk - 1)
       case measure => have:=HK.out;omega
       case rel => exact ⟨k + 1,by have:=HK.out;omega,by go_num,by rw [HOS.out],rfl⟩
      | false =>
       by_cases h16:x = 16
       · subst h16
         have HOS:=Lib.hid (show ovTo l (k + 1) = true from by rw [hov];rfl)
         clear hx hov
         go_wp2
         go_roundg (gk - 1)
         case measure => have:=HK.out;omega
         case rel => exact ⟨k + 1,by have:=HK.out;omega,by go_num,by rw [HOS.out],rfl⟩
       by_cases h18:x = 18
       · subst h18
         have HOS:=Lib.hid (show ovTo l (k + 1) = true from by rw [hov];rfl)
         clear hx hov
         go_wp2
         go_roundg (gk - 1)
         case measure => have:=HK.out;omega
         case rel => exact ⟨k + 1,by have:=HK.out;omega,by go_num,by rw [HOS.out],rfl⟩
       have HOS:=Lib.hid (show ovTo l (k + 1) = false from by rw [hov];simp [h16,h18])
       have d1:((x:Int) == 16) = false:=by simp <;> omega
       have d2:((x:Int) == 18) = false:=by simp <;> omega
       clear hx hov h16 h18
       go_wp2
       go_roundg (gk - 1)
       case measure => have:=HK.out;omega
       case rel => exact ⟨k + 1,by have:=HK.out;omega,by go_num,by rw [HOS.out],rfl⟩
    · obtain rfl:k = n:=by have:=HK.out;omega
      clear hlt hk0
      generalize ovTo l k = t at HOV ⊢
      go_wp2
      go_loopg [11] k (fun r i wq => ∃ q j:Nat,q + r = k∧i = .int .i64 q∧U.drewN j = wq)
      case atStart => exact ⟨0,0,by omega,rfl,rfl⟩
      case round =>
       obtain ⟨q,j,hq,rfl,rfl⟩:=hrel
       have hbw:Below U.heap.size U (U.drewN j):=below_drewN (Below.refl _ _) j
       have HQ:=Lib.hid hq
       clear hq
       have hq0:(0:Int)≤(q:Int):=by omega
       have e0:=cells_at ((hbw.block N1 (Array.getElem?_eq_some_iff.1 HZ.out).1).trans HZ.out) 0
       have e1:=cells_at ((hbw.block N1 (Array.getElem?_eq_some_iff.1 HZ.out).1).trans HZ.out) 1
       have e2:=cells_at ((hbw.block N1 (Array.getElem?_eq_some_iff.1 HZ.out).1).trans HZ.out) 2
       by_cases hlt:q < k
       · obtain ⟨x,hx⟩:∃ x,L[q]? = some x:=⟨_,List.getElem?_eq_getElem (by rw [HLL.out];exact hlt)⟩
         obtain ⟨v,hv⟩:∃ v,E[q]? = some v:=⟨_,List.getElem?_eq_getElem (by rw [HEL.out];exact hlt)⟩
         obtain ⟨x1,x2,hmv⟩:=HMAY.out q x v hx hv
         obtain ⟨z1,o1,rfl,hcx⟩:=(T1.out.below hbw).toCells.getm hx
         obtain ⟨z2,o2,rfl,hcv⟩:=(T2.out.below hbw).toCells.getm hv
         unfold u8V at hcx
         unfold i8V at hcv
         have hq1:(q:Int) < (k:Int):=by omega
         have HLT:=Lib.hid hlt
         have H12:=Lib.hid (fun w => removedT_any w x x1 x2)
         clear hbw hlt
         generalize hV:U.drewN j = V at hcx hcv e0 e1 e2 ⊢
         have HV:=Lib.hid hV
         clear hV
         rcases hmv with ⟨hr,rfl⟩ | ⟨hr,hv1,hv2⟩
         · have H12':Hid (∀ w,Calls Tryz.prog 12 #[.int .u8 x] w fun e w' => e = .returned (.bool true)∧w = w'):=Lib.hid fun w => by have:=H12.out w;unfold rem at hr;rw [hr] at this;exact this
           clear H12 hx hv
           have y1:((x:Int) == 1) = false:=by unfold rem at hr;simp at hr ⊢;omega
           have y2:((x:Int) == 2) = false:=by unfold rem at hr;simp at hr ⊢;omega
           have y3:((x:Int) == 3) = false:=by unfold rem at hr;simp at hr ⊢;omega
           clear hr x1 x2
           go_wp2_with fail
           go_quiet (fail)
           cases t with
           | true =>
            go_wp2_with (go_at_call 12;refine (H12'.out _).mono ?_;rintro e w2 ⟨rfl,rfl⟩)
            go_roundg (gk - 1)
            case measure => have:=HQ.out;have:=HLT.out;omega
            case rel => exact ⟨q + 1,_,by have:=HQ.out;have:=HLT.out;omega,by go_num,by rw [← HV.out,World.drewN_drewN]⟩
           | false =>
            go_wp2_with (go_at_call 12;refine (H12'.out _).mono ?_;rintro e w2 ⟨rfl,rfl⟩)
            go_roundg (gk - 1)
            case measure => have:=HQ.out;have:=HLT.out;omega
            case rel => exact ⟨q + 1,_,by have:=HQ.out;have:=HLT.out;omega,by go_num,by rw [← HV.out,World.drewN_drewN]⟩
         · have H12':Hid (∀ w,Calls Tryz.prog 12 #[.int .u8 x] w fun e w' => e = .returned (.bool false)∧w = w'):=Lib.hid fun w => by have:=H12.out w;unfold rem at hr;rw [hr] at this;exact this
           obtain ⟨u,hu1,hu2,hu3,hu4⟩:=HPAR.out q x hx hr
           rw [hu1] at hv
           cases hv
           have hp1:=fun ht => hu4 (HOV.out ht)
           have g1:((u:Int) == -1) = false:=by simp <;> omega
           have g2:((u:Int) != -1) = true:=by simp <;> omega
           have g3:¬ (u:Int) < (base:Int):=by omega
           have g4:¬ (u:Int) > 126:=by omega
           have g5:¬ (126:Int) < (u:Int):=by omega
           clear H12 hx hu1 hu2 hu4 hv1 hv2 hr
           go_wp2_with fail
           go_quiet (fail)
           cases t with
           | true =>
            go_wp2_with (go_at_call 12;refine (H12'.out _).mono ?_;rintro e w2 ⟨rfl,rfl⟩)
            go_roundg (gk - 1)
            case measure => have:=HQ.out;have:=HLT.out;omega
            case rel => exact ⟨q + 1,_,by have:=HQ.out;have:=HLT.out;omega,by go_num,by rw [← HV.out,World.drewN_drewN]⟩
           | false =>
            have hpp:=hp1 rfl
            clear hp1
            by_cases y1:x = 1
            · have hm:(u:Int).tmod 2 = 0:=by have:=hpp.1 y1;rw [Int.tmod_eq_emod_of_nonneg (by omega)];omega
              clear hpp
              subst y1
              go_wp2_with (go_at_call 12;refine (H12'.out _).mono ?_;rintro e w2 ⟨rfl,rfl⟩)
              go_roundg (gk - 1)
              case measure => have:=HQ.out;have:=HLT.out;omega
              case rel => exact ⟨q + 1,_,by have:=HQ.out;have:=HLT.out;omega,by go_num,by rw [← HV.out,World.drewN_drewN]⟩
            by_cases y2:x = 2
            · have hm:(u:Int).tmod 2 = 1:=by have:=hpp.2 (.inl y2);rw [Int.tmod_eq_emod_of_nonneg (by omega)];omega
              clear hpp
              subst y2
              go_wp2_with (go_at_call 12;refine (H12'.out _).mono ?_;rintro e w2 ⟨rfl,rfl⟩)
              go_roundg (gk - 1)
              case measure => have:=HQ.out;have:=HLT.out;omega
              case rel => exact ⟨q + 1,_,by have:=HQ.out;have:=HLT.out;omega,by go_num,by rw [← HV.out,World.drewN_drewN]⟩
            by_cases y3:x = 3
            · have hm:(u:Int).tmod 2 = 1:=by have:=hpp.2 (.inr y3);rw [Int.tmod_eq_emod_of_nonneg (by omega)];omega
              clear hpp
              subst y3
              go_wp2_with (go_at_call 12;refine (H12'.out _).mono ?_;rintro e w2 ⟨rfl,rfl⟩)
              go_roundg (gk - 1)
              case measure => have:=HQ.out;have:=HLT.out;omega
              case rel => exact ⟨q + 1,_,by have:=HQ.out;have:=HLT.out;omega,by go_num,by rw [← HV.out,World.drewN_drewN]⟩
            have z1:((x:Int) == 1) = false:=by simp <;> omega
            have z2:((x:Int) == 2) = false:=by simp <;> omega
            have z3:((x:Int) == 3) = false:=by simp <;> omega
            clear y1 y2 y3 hpp
            go_wp2_with (go_at_call 12;refine (H12'.out _).mono ?_;rintro e w2 ⟨rfl,rfl⟩)
            go_roundg (gk - 1)
            case measure => have:=HQ.out;have:=HLT.out;omega
            case rel => exact ⟨q + 1,_,by have:=HQ.out;have:=HLT.out;omega,by go_num,by rw [← HV.out,World.drewN_drewN]⟩
       · obtain rfl:q = k:=by have:=HQ.out;omega
         have BV2:=Lib.hid (BU.out.trans (hbw.mono BU.out.size))
         have HZ2:=Lib.hid ((hbw.block N1 (Array.getElem?_eq_some_iff.1 HZ.out).1).trans HZ.out)
         have T3:=Lib.hid (T1.out.below hbw)
         have T4:=Lib.hid (T2.out.below hbw)
         generalize U.drewN j = V3 at BV2 HZ2 T3 T4 ⊢
         have HWH:=Lib.hid (wholeE_any V3 base ka la kc lc L E q (by omega) HLL.out HEL.out hn0 hcapl T3.out.toCells T4.out.toCells HMAY.out)
         clear hlt hq0 e0 e1 e2 hbw
         go_wp2_with (with_reducible refine wpList_load_row rfl 29 _ rfl N1 rfl 29 _ (0,0) _ HZ2.out Tryz.underlying29 rfl (by kernel_rfl) ?_)
         refine HWH.out.mono ?_
         rintro e W7 ⟨oa,oc,X,rfl,x1,x2,x3⟩
         have hXl:X.length = q:=x2.1.trans HEL.out
         have hXm:∀ v∈X,-1≤v∧v≤126:=reset_may (by omega) x2 (by rw [HLL.out,HEL.out]) HMAY.out
         have HXR:=Lib.hid x2
         have HX:=Lib.hid x1
         have B7:=Lib.hid (BV2.out.trans (x3.mono BV2.out.size))
         have HOR:=Lib.hid (orderE_any W7 oa oc X q hXl hn0 x1.toCells hXm)
         have HXL:=Lib.hid hXl
         have HXM:=Lib.hid hXm
         clear x1 x2 x3 hXl hXm
         go_wp2_with fail
         refine HOR.out.mono ?_
         rintro e W8 ⟨ga,gc,rfl,o1,o2⟩
         have hml:(orderOf X).length≤q:=by unfold orderOf;rw [shown_len,← HXL.out];exact heldTo_le _ _
         have HO1:=Lib.hid o1
         have B8:=Lib.hid (B7.out.trans (o2.mono B7.out.size))
         have HX8:=Lib.hid (HX.out.below o2)
         obtain ⟨m,hm⟩:∃ m,m = (orderOf X).length:=⟨_,rfl⟩
         have HM:=Lib.hid hm
         have HEA:=Lib.hid (fun (W:World) h1 h2 => each_any W ga oa gc oc (orderOf X) X q m hm.symm HXL.out hn0 (by omega) h1 h2 (orderOf_nodup X) (fun i => by rw [orderOf_mem,HXL.out]))
         have HTW:=Lib.hid (fun (W:World) h1 h2 => twice_any W ga oa gc oc X q m hm.symm HXL.out hn0 h1 h2 HXM.out)
         rw [← hm] at hml ⊢
         have hm9:(m:Int)≤1048576:=by omega
         clear o1 o2 hm
         by_cases hb0:b = 0
         case neg =>
          have hbz:(b == 0) = false:=by simpa using hb0
          clear hb0
          go_wp2_with (first
           | (go_at_call 16;refine (HTW.out _ (HO1.out.toCells.below HB15.out) (HX8.out.toCells.below HB15.out)).mono ?_;rintro e W10 ⟨rfl,b16⟩;have HB16:=Lib.hid (HB15.out.trans (b16.mono HB15.out.size));clear b16) | (go_at_call 15;refine (HEA.out _ HO1.out.toCells HX8.out.toCells).mono ?_;rintro e W9 ⟨rfl,b15⟩;have HB15:=Lib.hid b15;clear b15))
          go_ret
          exact ⟨rfl,B8.out.trans (HB16.out.mono B8.out.size)⟩
         case pos =>
          subst hb0
          have HPN:=Lib.hid (fun (W:World) (h:Cells W a0 (l.map u8V)) => plainly_any W a0 c0 l (by rw [← HN.out];exact hn0) h)
          rw [← HN.out] at HPN
          cases hpl:plainB l with
          | false =>
           rw [hpl] at HPN
           go_wp2_with (first
            | (go_at_call 17;refine (HPN.out _ (HX0.out.below (B8.out.trans (HB16.out.mono B8.out.size)))).mono ?_;rintro e w11 ⟨rfl,rfl⟩)
            | (go_at_call 16;refine (HTW.out _ (HO1.out.toCells.below HB15.out) (HX8.out.toCells.below HB15.out)).mono ?_;rintro e W10 ⟨rfl,b16⟩;have HB16:=Lib.hid (HB15.out.trans (b16.mono HB15.out.size));clear b16) | (go_at_call 15;refine (HEA.out _ HO1.out.toCells HX8.out.toCells).mono ?_;rintro e W9 ⟨rfl,b15⟩;have HB15:=Lib.hid b15;clear b15))
           go_ret
           exact ⟨rfl,B8.out.trans (HB16.out.mono B8.out.size)⟩
          | true =>
           rw [hpl] at HPN
           obtain ⟨hz1,hz2⟩:=HZERO.out rfl hpl
           have HOZ:Hid (orderOf X = List.range q):=Lib.hid (by
            have h3:=HXR.out
            rw [hz1] at h3
            rw [orderOf_zero (reset_zero h3 hz2),HXL.out])
           clear hz1 hz2
           go_wp2_with (first
            | (go_at_call 17;refine (HPN.out _ (HX0.out.below (B8.out.trans (HB16.out.mono B8.out.size)))).mono ?_;rintro e w11 ⟨rfl,rfl⟩)
            | (go_at_call 16;refine (HTW.out _ (HO1.out.toCells.below HB15.out) (HX8.out.toCells.below HB15.out)).mono ?_;rintro e W10 ⟨rfl,b16⟩;have HB16:=Lib.hid (HB15.out.trans (b16.mono HB15.out.size));clear b16) | (go_at_call 15;refine (HEA.out _ HO1.out.toCells HX8.out.toCells).mono ?_;rintro e W9 ⟨rfl,b15⟩;have HB15:=Lib.hid b15;clear b15))
           go_loopg [16] m (fun r i wq => ∃ t:Nat,t + r = m∧i = .int .i64 t∧W10 = wq)
           case atStart => exact ⟨0,by omega,rfl,rfl⟩
           case round =>
            obtain ⟨t2,ht,rfl,rfl⟩:=hrel
            have HT2:=Lib.hid ht
            clear ht
            have ht0:(0:Int)≤(t2:Int):=by omega
            by_cases hlt:t2 < m
            · have hget:(orderOf X)[t2]? = some t2:=by
               rw [HOZ.out,List.getElem?_range (by omega)]
              obtain ⟨z1,o1,rfl,hcx⟩:=(HO1.out.toCells.below HB16.out).getm hget
              unfold natV at hcx
              have ht1:(t2:Int) < (m:Int):=by omega
              clear hget
              go_wp2
              go_roundg (gk - 1)
              case measure => have:=HT2.out;omega
              case rel => exact ⟨t2 + 1,by have:=HT2.out;omega,by go_num,rfl⟩
            · obtain rfl:t2 = m:=by have:=HT2.out;omega
              clear hlt
              go_wp2
              go_ret
              exact ⟨rfl,B8.out.trans (HB16.out.mono B8.out.size)⟩
end Go.Proofs.YtjnidopbdjbbgaaGreat
