/-
  The order in which a line is shown: walked.
-/
import Derived.Test.YtjnidopbdjbbgaaGreatB00
import Derived.Test.YtjnidopbdjbbgaaGreatB26
import Derived.Test.YtjnidopbdjbbgaaGreatB09
import Derived.Test.YtjnidopbdjbbgaaGreatB23
section
namespace Go.Proofs.YtjnidopbdjbbgaaGreat
open Go.RowKit
set_option linter.unusedVariables false
set_option maxRecDepth 20000 in
set_option maxHeartbeats 8000000 in
theorem orderV_any (w:World) (la:Option Addr) (lc:Nat) (lv:List Int) (n:Nat) (hln:lv.length = n) (hn:n≤1048576) (hl:Cells w la (lv.map i8V)) (hall:∀ v∈lv,-1≤v∧v≤126):
 Calls Tryz.prog 34 #[.slice la n lc] w fun e w' => ∃ oa oc,e = .returned (.slice oa (orderOf lv).length oc)∧Own w' w.heap.size 1 oa (orderOf lv).length oc ((orderOf lv).map natV)∧Below w.heap.size w w':=by
 obtain ⟨i0,hi,hz0,hz1,hz2⟩:=info_parts info3
 have HL:=Lib.hid hl
 have HALL:=Lib.hid hall
 have HLN:=Lib.hid hln
 have hn2:(n:Int)≤1048576:=by omega
 clear hl hall hln
 go_enter Tryz.func34,Tryz.ntmps34
 go_wp2
 go_loopg [3,4,12] n (fun r s3 s4 i wr => ∃ (k h:Nat) (oa:Option Addr) (oc:Nat),k + r = n∧i = .int .i64 k∧s4 = .int .i8 h∧h = highTo lv k∧s3 = .slice oa (heldTo lv k).length oc∧Own wr w.heap.size 1 oa (heldTo lv k).length oc ((heldTo lv k).map natV)∧Below w.heap.size w wr)
 case atStart => exact ⟨0,0,none,0,by omega,rfl,rfl,rfl,rfl,Own.nil _ _ _,Below.refl _ _⟩
 case round =>
  obtain ⟨k,h,oa,oc,hk,rfl,rfl,hh,rfl,hown,hb⟩:=hrel
  obtain ⟨wa,rfl⟩:∃ wa:World,wa = wr:=⟨_,rfl⟩
  have HO:=Lib.hid hown
  have HB:=Lib.hid hb
  have HK:=Lib.hid hk
  have HH:=Lib.hid hh
  clear hown hb hk hh
  by_cases hlt:k < n
  · obtain ⟨v,hv⟩:∃ v,lv[k]? = some v:=⟨_,List.getElem?_eq_getElem (by rw [HLN.out];exact hlt)⟩
    obtain ⟨b2,o2,rfl,hcv⟩:=(HL.out.below HB.out).getm hv
    unfold i8V at hcv
    have hke:=heldTo_succ hv
    have hhe:=highTo_succ hv
    have hkl:(heldTo lv k).length≤1099511627776:=by have:=heldTo_le lv k;omega
    have hk0:(0:Int)≤(k:Int):=by omega
    have hk1:(k:Int) < (n:Int):=by omega
    by_cases hv1:v = -1
    · subst hv1
      rw [if_pos rfl] at hke hhe
      rw [List.append_nil] at hke
      have HKE:=Lib.hid hke
      have HHE:=Lib.hid hhe
      clear hv hke hhe
      go_wp2
      go_roundg (gk - 1)
      case measure => have:=HK.out;omega
      case rel => exact ⟨k + 1,h,oa,oc,by have:=HK.out;omega,by go_num,rfl,by rw [HHE.out];exact HH.out,by rw [HKE.out],by rw [HKE.out];exact HO.out,HB.out⟩
    · rw [if_neg hv1] at hke hhe
      have hv0:=HALL.out v (List.mem_of_getElem? hv)
      obtain ⟨u,rfl⟩:=Int.eq_ofNat_of_zero_le (show 0≤v by omega)
      have hu:u≤126:=by omega
      have hne:((u:Int) != -1) = true:=by simp <;> omega
      have HKE:=Lib.hid hke
      have HHE:Hid (highTo lv (k + 1) = max h u):=Lib.hid (by rw [hhe,← HH.out];rfl)
      clear hv hke hhe hv0 hv1
      by_cases hhu:h < u
      · have hg:(u:Int) > (h:Int):=by omega
        go_wp2_with (at_builtin;refine wpList_push rfl _ _ 33 rfl 3 i0 (.int .i64 0) 8 Tryz.underlying33 hi hz0 hz1 hz2 rfl rfl w.heap.size oa (heldTo lv k).length oc _ rfl _ _ rfl HO.out _ rfl rfl rfl (by omega) (by decide) HB.out.size ?_;intro a5 c5 w5 hown5 hap5 hb5;have HO5:=Lib.hid hown5;have HB5:=Lib.hid hb5;clear hown5 hap5 hb5)
        go_roundg (gk - 1)
        case measure => have:=HK.out;omega
        case rel => exact ⟨k + 1,u,a5,c5,by have:=HK.out;omega,by go_num,rfl,by rw [HHE.out];omega,by rw [HKE.out,List.length_append];rfl,by rw [HKE.out,List.length_append,List.map_append];exact HO5.out,HB.out.trans HB5.out⟩
      · have hg:¬ (u:Int) > (h:Int):=by omega
        have hg2:¬ (h:Int) < (u:Int):=by omega
        go_wp2_with (at_builtin;refine wpList_push rfl _ _ 33 rfl 3 i0 (.int .i64 0) 8 Tryz.underlying33 hi hz0 hz1 hz2 rfl rfl w.heap.size oa (heldTo lv k).length oc _ rfl _ _ rfl HO.out _ rfl rfl rfl (by omega) (by decide) HB.out.size ?_;intro a5 c5 w5 hown5 hap5 hb5;have HO5:=Lib.hid hown5;have HB5:=Lib.hid hb5;clear hown5 hap5 hb5)
        go_roundg (gk - 1)
        case measure => have:=HK.out;omega
        case rel => exact ⟨k + 1,h,a5,c5,by have:=HK.out;omega,by go_num,rfl,by rw [HHE.out];omega,by rw [HKE.out,List.length_append];rfl,by rw [HKE.out,List.length_append,List.map_append];exact HO5.out,HB.out.trans HB5.out⟩
  · obtain rfl:n = k:=by have:=HK.out;omega
    clear hlt
    have hh126:h≤126:=by rw [HH.out];exact highTo_le (fun v hv => (HALL.out v hv).2) n (by rw [HLN.out];exact Nat.le_refl _)
    obtain ⟨m,hm⟩:∃ m,m = (heldTo lv n).length:=⟨_,rfl⟩
    have hmn:m≤n:=by rw [hm];exact heldTo_le lv n
    rw [← hm] at HO
    have HM:=Lib.hid hm
    clear hm
    have HF:Hid (orderOf lv = shown (fun i => lv.getD i 0) h (heldTo lv n)):=Lib.hid (by unfold orderOf;rw [HLN.out,HH.out])
    have hm2:(m:Int)≤1048576:=by omega
    go_wp2_with fail
    try rw [← HM.out]
    go_wp2_with fail
    obtain ⟨G,hG⟩:∃ G,G = gk:=⟨_,rfl⟩
    subst hG
    go_loopg [7] h (fun r s7 wq => ∃ (k:Nat) (L:List Nat),k = r∧k≤126∧s7 = .int .i8 k∧shown (fun i => lv.getD i 0) k L = orderOf lv∧L.length = m∧(∀ x∈L,x < n)∧Own wq w.heap.size 1 oa m oc (L.map natV)∧Below w.heap.size w wq)
    case atStart => exact ⟨h,heldTo lv n,rfl,hh126,rfl,HF.out.symm,HM.out.symm,fun x hx => (heldTo_mem.1 hx).1,HO.out,HB.out⟩
    case round =>
     obtain ⟨k,L,hk,hk126,rfl,hsh,hLm,hLn,hown,hb⟩:=hrel
     obtain ⟨wb,rfl⟩:∃ wb:World,wb = wr:=⟨_,rfl⟩
     have HSH:=Lib.hid hsh
     have HLM:=Lib.hid hLm
     have HLX:=Lib.hid hLn
     have HO2:=Lib.hid hown
     have HB2:=Lib.hid hb
     have HK2:=Lib.hid hk
     clear hsh hLm hLn hown hb hk
     cases k with
     | zero =>
      have HE:Hid (L = orderOf lv):=HSH
      go_wp2
      go_ret
      exact ⟨oa,oc,by rw [← HE.out,HLM.out];rfl,by rw [← HE.out,HLM.out];exact HO2.out,HB2.out⟩
     | succ k =>
      obtain ⟨K,hKK⟩:∃ K,K = k + 1:=⟨_,rfl⟩
      rw [← hKK] at hk126 HSH HK2 ⊢
      have HKK:=Lib.hid hKK
      clear hKK
      have hK0:(K:Int) > 0:=by have:=HKK.out;omega
      have hK0n:0 < K:=by have:=HKK.out;omega
      have hK1:(K:Int)≤126:=by omega
      obtain ⟨p,hp⟩:∃ p:Nat→Bool,p = fun x => decide ((K:Nat)≤lv.getD x 0):=⟨_,rfl⟩
      have HP:=Lib.hid hp
      have HNX:Hid (∀ Y,Y = rows p L→shown (fun i => lv.getD i 0) k Y = orderOf lv):=Lib.hid (by
       intro Y hY
       rw [hY,← HSH.out,hp,HKK.out]
       rfl)
      clear hp
      go_wp2
      obtain ⟨G2,hG2⟩:∃ G,G = gk:=⟨_,rfl⟩
      subst hG2
      go_loopg [8] m (fun r s8 wq => ∃ (i:Nat) (X:List Nat),i + r = m∧s8 = .int .i64 i∧Mid p L X i∧(∀ x∈X,x < n)∧Own wq w.heap.size 1 oa m oc (X.map natV)∧Below w.heap.size w wq)
      case atStart => exact ⟨0,L,by omega,rfl,Mid.start p L,HLX.out,HO2.out,HB2.out⟩
      case round =>
       obtain ⟨i,X,hi',rfl,hmid,hXn,hown,hb⟩:=hrel
       obtain ⟨wc,rfl⟩:∃ wc:World,wc = wr:=⟨_,rfl⟩
       have HMID:=Lib.hid hmid
       have HXN:=Lib.hid hXn
       have HO3:=Lib.hid hown
       have HB3:=Lib.hid hb
       have HI:=Lib.hid hi'
       have HXL:Hid (X.length = m):=Lib.hid (hmid.1.trans HLM.out)
       clear hmid hXn hown hb hi'
       have hi0:(0:Int)≤(i:Int):=by omega
       by_cases hlt:i < m
       · obtain ⟨g,rfl⟩:=HO3.out.pos (by omega)
         have hi1:(i:Int) < (m:Int):=by omega
         go_wp2
         obtain ⟨G3,hG3⟩:∃ G,G = gk:=⟨_,rfl⟩
         subst hG3
         go_loopg [9] (m - i) (fun r s9 wq => ∃ j:Nat,j + r = m∧s9 = .int .i64 j∧i≤j∧wc = wq∧∀ t x,i≤t→t < j→X[t]? = some x→p x = true)
         case atStart => exact ⟨i,by omega,rfl,Nat.le_refl _,rfl,fun t x h1 h2 => by omega⟩
         case round =>
          obtain ⟨j,hj,rfl,hij,rfl,hrow⟩:=hrel
          have HROW:=Lib.hid hrow
          have HJ:=Lib.hid hj
          clear hrow hj
          have hj0:(0:Int)≤(j:Int):=by omega
          have hjm:j≤m:=by have:=HJ.out;omega
          have hbye:Hid ((∀ x,X[j]? = some x→p x = false)→Mid p L (X.take i ++ (((X.drop i).take (j - i)).reverse ++ X.drop (i + (j - i)))) j):=Lib.hid fun h => by
           rw [show i + (j - i) = j from by omega]
           exact HMID.out.row hij (by rw [HXL.out];exact hjm) HROW.out h
          by_cases hlt2:j < m
          · obtain ⟨x,hx⟩:∃ x,X[j]? = some x:=⟨_,List.getElem?_eq_getElem (by rw [HXL.out];exact hlt2)⟩
            have hxn:=HXN.out x (List.mem_of_getElem? hx)
            obtain ⟨v,hv⟩:∃ v,lv[x]? = some v:=⟨_,List.getElem?_eq_getElem (by rw [HLN.out];exact hxn)⟩
            obtain ⟨b2,o2,rfl,hcv⟩:=(HL.out.below HB3.out).getm hv
            have hcx:=(HO3.out.getm hx).1
            unfold i8V at hcv
            unfold natV at hcx
            have hpx:p x = decide ((K:Int)≤v):=by rw [HP.out];show decide ((K:Int)≤lv.getD x 0) = _;rw [show lv.getD x 0 = v from by rw [List.getD_eq_getElem?_getD,hv];rfl]
            have hj1:(j:Int) < (m:Int):=by omega
            have hx0:(0:Int)≤(x:Int):=by omega
            have hx1:(x:Int) < (n:Int):=by omega
            by_cases hge:(K:Int)≤v
            · have hge2:v ≥ (K:Int):=hge
              have HNEXT:Hid (∀ t y,i≤t→t < j + 1→X[t]? = some y→p y = true):=Lib.hid fun t y h1 h2 h3 => by
               rcases Nat.lt_or_ge t j with h4 | h4
               · exact HROW.out t y h1 h4 h3
               · rw [show t = j from by omega,hx] at h3
                 cases h3
                 rw [hpx]
                 simpa using hge
              clear hx hv hpx hbye
              go_wp2
              go_roundg (gk - 1)
              case measure => have:=HJ.out;omega
              case rel => exact ⟨j + 1,by have:=HJ.out;omega,by go_num,by omega,rfl,HNEXT.out⟩
            · have hge2:¬ v ≥ (K:Int):=hge
              have HX4:=Lib.hid (hbye.out (fun y hy => by rw [hx] at hy;cases hy;rw [hpx];simpa using hge))
              have HX5:Hid (j≤i + 1→Mid p L (X.take i ++ (((X.drop i).take (j - i)).reverse ++ X.drop (i + (j - i)))) (i + 1)):=Lib.hid fun h => by
               by_cases e:j = i + 1
               · have:=HX4.out
                 rw [e] at this ⊢
                 exact this
               · obtain rfl:j = i:=by omega
                 rw [Nat.sub_self,List.take_zero,List.reverse_nil,List.nil_append,Nat.add_zero,List.take_append_drop]
                 exact HMID.out.skip hx (by rw [hpx];simpa using hge)
              clear hx hv hpx hbye hge
              have hoc:=HO3.out.le
              have hoc1:i < oc:=by omega
              have hoc2:(j:Int)≤(oc:Int):=by omega
              have hij2:(i:Int)≤(j:Int):=by omega
              have hoc3:¬ oc = i:=by omega
              have HREV:=Lib.hid (reverse_any wc w.heap.size g m oc X i (j - i) (oc - i) HO3.out (by omega) (by omega))
              have HYN:Hid (∀ y∈X.take i ++ (((X.drop i).take (j - i)).reverse ++ X.drop (i + (j - i))),y < n):=Lib.hid (fun y hy => HXN.out y (by
               rcases List.mem_append.1 hy with h | h
               · exact List.mem_of_mem_take h
               · rcases List.mem_append.1 h with h | h
                 · exact List.mem_of_mem_drop (List.mem_of_mem_take (List.mem_reverse.1 h))
                 · exact List.mem_of_mem_drop h))
              generalize X.take i ++ (((X.drop i).take (j - i)).reverse ++ X.drop (i + (j - i))) = Y at HREV HYN HX4 HX5
              go_wp2_with fail
              refine HREV.out.mono ?_
              rintro e wd ⟨rfl,r1,r2⟩
              have R1:=Lib.hid r1
              have R2:=Lib.hid r2
              clear r1 r2
              by_cases hji:(j:Int) - 1 > (i:Int)
              · go_wp2
                go_roundg (m - j)
                case measure => have:=HI.out;omega
                case rel => exact ⟨j,Y,by omega,by congr 1 <;> omega,HX4.out,HYN.out,R1.out,HB3.out.trans R2.out⟩
              · have hji2:¬ (i:Int) < (j:Int) - 1:=by omega
                go_wp2
                go_roundg (m - (i + 1))
                case measure => have:=HI.out;omega
                case rel => exact ⟨i + 1,Y,by omega,by go_num,HX5.out (by omega),HYN.out,R1.out,HB3.out.trans R2.out⟩
          · obtain rfl:j = m:=by omega
            have HX4:=Lib.hid (hbye.out (fun y hy => by rw [List.getElem?_eq_none (by rw [HXL.out];exact Nat.le_refl _)] at hy;cases hy))
            have HX5:Hid (j≤i + 1→Mid p L (X.take i ++ (((X.drop i).take (j - i)).reverse ++ X.drop (i + (j - i)))) (i + 1)):=Lib.hid fun h => by
             have e:j = i + 1:=by omega
             have:=HX4.out
             rw [e] at this ⊢
             exact this
            clear hbye hlt2
            have hoc:=HO3.out.le
            have hoc1:i < oc:=by omega
            have hoc2:(j:Int)≤(oc:Int):=by omega
            have hij2:(i:Int)≤(j:Int):=by omega
            have hoc3:¬ oc = i:=by omega
            have HREV:=Lib.hid (reverse_any wc w.heap.size g j oc X i (j - i) (oc - i) HO3.out (by omega) (by omega))
            have HYN:Hid (∀ y∈X.take i ++ (((X.drop i).take (j - i)).reverse ++ X.drop (i + (j - i))),y < n):=Lib.hid (fun y hy => HXN.out y (by
             rcases List.mem_append.1 hy with h | h
             · exact List.mem_of_mem_take h
             · rcases List.mem_append.1 h with h | h
               · exact List.mem_of_mem_drop (List.mem_of_mem_take (List.mem_reverse.1 h))
               · exact List.mem_of_mem_drop h))
            generalize X.take i ++ (((X.drop i).take (j - i)).reverse ++ X.drop (i + (j - i))) = Y at HREV HYN HX4 HX5
            go_wp2_with fail
            refine HREV.out.mono ?_
            rintro e wd ⟨rfl,r1,r2⟩
            have R1:=Lib.hid r1
            have R2:=Lib.hid r2
            clear r1 r2
            by_cases hji:(j:Int) - 1 > (i:Int)
            · go_wp2
              go_roundg (j - j)
              case measure => have:=HI.out;omega
              case rel => exact ⟨j,Y,by omega,by congr 1 <;> omega,HX4.out,HYN.out,R1.out,HB3.out.trans R2.out⟩
            · have hji2:¬ (i:Int) < (j:Int) - 1:=by omega
              go_wp2
              go_roundg (j - (i + 1))
              case measure => have:=HI.out;omega
              case rel => exact ⟨i + 1,Y,by omega,by go_num,HX5.out (by omega),HYN.out,R1.out,HB3.out.trans R2.out⟩
       · obtain rfl:m = i:=by have:=HI.out;omega
         clear hlt
         have HX2:Hid (X = rows p L):=Lib.hid (HMID.out.done (by rw [HXL.out];exact Nat.le_refl _))
         go_wp2
         go_roundg (G2 - 1)
         case measure => have:=HK2.out;have:=HKK.out;omega
         case rel => exact ⟨k,X,by have:=HK2.out;have:=HKK.out;omega,by have:=HKK.out;omega,by rw [HKK.out];go_num,HNX.out X HX2.out,HXL.out,HXN.out,HO3.out,HB3.out⟩
set_option maxRecDepth 20000 in
set_option maxHeartbeats 8000000 in
theorem orderE_any (w:World) (la:Option Addr) (lc:Nat) (lv:List Int) (n:Nat) (hln:lv.length = n) (hn:n≤1048576) (hl:Cells w la (lv.map i8V)) (hall:∀ v∈lv,-1≤v∧v≤126):
 Calls Tryz.prog 14 #[.slice la n lc] w fun e w' => ∃ oa oc,e = .returned (.tuple #[.slice oa (orderOf lv).length oc,.int .i64 0])∧Own w' w.heap.size 1 oa (orderOf lv).length oc ((orderOf lv).map natV)∧Below w.heap.size w w':=by
 have HM:=Lib.hid (mayV_any w la lc lv n hln hn hl hall)
 have HO:=Lib.hid (orderV_any w la lc lv n hln hn hl hall)
 clear hl hall hln
 go_enter Tryz.func14,Tryz.ntmps14
 go_wp2_with (first | (go_at_call 33;refine HM.out.mono ?_;rintro e w2 ⟨rfl,rfl⟩) | (go_at_call 34;refine HO.out.mono ?_;rintro e w3 ⟨oa,oc,rfl,r1,r2⟩;have R1:=Lib.hid r1;have R2:=Lib.hid r2;clear r1 r2))
 go_ret2
 exact ⟨oa,oc,rfl,R1.out,R2.out⟩
end Go.Proofs.YtjnidopbdjbbgaaGreat
end
/-
  The reference's weak rules at one place: they end; walked.
-/
section
namespace Go.Proofs.YtjnidopbdjbbgaaGreat
open Go.RowKit
set_option linter.unusedVariables false
set_option maxRecDepth 20000
set_option maxHeartbeats 4000000
theorem xplace_3 (w:World) (a:Option Addr) (n c i sos:Nat) (l:List Nat) (hn:l.length = n) (hb:n≤1048576) (hi:i < n) (hc:Cells w a (l.map u8V)):
 Calls Tryz.prog 125 #[.int .i64 3,.slice a n c,.int .u8 sos,.int .i64 i] w fun e w' => (∃ k:Nat,e = .returned (.int .u8 k))∧Below w.heap.size w w':=by
 obtain ⟨x,hx⟩:∃ x,l[i]? = some x:=⟨_,List.getElem?_eq_getElem (by omega)⟩
 obtain ⟨ab,ao,rfl,q0⟩:=hc.getm hx
 unfold u8V at q0
 have HC:=Lib.hid hc
 have HN:=Lib.hid hn
 have HX:=Lib.hid hx
 have hi0:(0:Int)≤(i:Int):=by omega
 have hi1:(i:Int) < (n:Int):=by omega
 have hi2:(i:Int)≤1048576:=by omega
 clear hc hn hx
 by_cases h3:x = 3
 · subst h3
   go_enter Tryz.func125,Tryz.ntmps125
   go_wp2
   go_ret
   exact ⟨⟨_,rfl⟩,Below.refl _ _⟩
 have e3:((x:Int) == 3) = false:=by simp <;> omega
 clear h3
 go_enter Tryz.func125,Tryz.ntmps125
 go_wp2
 go_ret
 exact ⟨⟨_,rfl⟩,Below.refl _ _⟩
theorem xplace_6 (w:World) (a:Option Addr) (n c i sos:Nat) (l:List Nat) (hn:l.length = n) (hb:n≤1048576) (hi:i < n) (hc:Cells w a (l.map u8V)):
 Calls Tryz.prog 125 #[.int .i64 6,.slice a n c,.int .u8 sos,.int .i64 i] w fun e w' => (∃ k:Nat,e = .returned (.int .u8 k))∧Below w.heap.size w w':=by
 obtain ⟨x,hx⟩:∃ x,l[i]? = some x:=⟨_,List.getElem?_eq_getElem (by omega)⟩
 obtain ⟨ab,ao,rfl,q0⟩:=hc.getm hx
 unfold u8V at q0
 have HC:=Lib.hid hc
 have HN:=Lib.hid hn
 have HX:=Lib.hid hx
 have hi0:(0:Int)≤(i:Int):=by omega
 have hi1:(i:Int) < (n:Int):=by omega
 have hi2:(i:Int)≤1048576:=by omega
 clear hc hn hx
 by_cases h5:x = 5
 · subst h5
   go_enter Tryz.func125,Tryz.ntmps125
   go_wp2
   go_ret
   exact ⟨⟨_,rfl⟩,Below.refl _ _⟩
 by_cases h6:x = 6
 · subst h6
   go_enter Tryz.func125,Tryz.ntmps125
   go_wp2
   go_ret
   exact ⟨⟨_,rfl⟩,Below.refl _ _⟩
 by_cases h8:x = 8
 · subst h8
   go_enter Tryz.func125,Tryz.ntmps125
   go_wp2
   go_ret
   exact ⟨⟨_,rfl⟩,Below.refl _ _⟩
 have e5:((x:Int) == 5) = false:=by simp <;> omega
 have e6:((x:Int) == 6) = false:=by simp <;> omega
 have e8:((x:Int) == 8) = false:=by simp <;> omega
 clear h5 h6 h8
 go_enter Tryz.func125,Tryz.ntmps125
 go_wp2
 go_ret
 exact ⟨⟨_,rfl⟩,Below.refl _ _⟩
theorem xplace_1 (w:World) (a:Option Addr) (n c i sos:Nat) (l:List Nat) (hn:l.length = n) (hb:n≤1048576) (hi:i < n) (hc:Cells w a (l.map u8V)):
 Calls Tryz.prog 125 #[.int .i64 1,.slice a n c,.int .u8 sos,.int .i64 i] w fun e w' => (∃ k:Nat,e = .returned (.int .u8 k))∧Below w.heap.size w w':=by
 obtain ⟨x,hx⟩:∃ x,l[i]? = some x:=⟨_,List.getElem?_eq_getElem (by omega)⟩
 obtain ⟨ab,ao,rfl,q0⟩:=hc.getm hx
 unfold u8V at q0
 have HC:=Lib.hid hc
 have HN:=Lib.hid hn
 have HX:=Lib.hid hx
 have hi0:(0:Int)≤(i:Int):=by omega
 have hi1:(i:Int) < (n:Int):=by omega
 have hi2:(i:Int)≤1048576:=by omega
 clear hc hn hx
 by_cases h9:x = 9
 · subst h9
   by_cases h0:i = 0
   · have hz:((i:Int) == 0) = true:=by simp <;> omega
     clear h0
     go_enter Tryz.func125,Tryz.ntmps125
     go_wp2
     go_ret
     exact ⟨⟨_,rfl⟩,Below.refl _ _⟩
   · have hz:((i:Int) == 0) = false:=by simp <;> omega
     obtain ⟨p,hp⟩:∃ p,p + 1 = i:=⟨i - 1,by omega⟩
     obtain ⟨y,hy⟩:∃ y,l[p]? = some y:=⟨_,List.getElem?_eq_getElem (by have:=HN.out;omega)⟩
     obtain ⟨ab2,ao2,e2,q1⟩:=HC.out.getm hy
     cases e2
     unfold u8V at q1
     have hp1:(i:Int) - 1 = (p:Int):=by omega
     have hp2:(p:Int) < (n:Int):=by omega
     have hp3:(0:Int)≤(p:Int):=by omega
     clear hy h0 hp
     go_enter Tryz.func125,Tryz.ntmps125
     go_wp2_with fail
     refine (xisolates_any _ _).mono ?_
     rintro e w2 ⟨⟨bb,rfl⟩,rfl⟩
     cases bb
     · go_wp2
       go_ret
       exact ⟨⟨_,rfl⟩,Below.refl _ _⟩
     · go_wp2
       go_ret
       exact ⟨⟨_,rfl⟩,Below.refl _ _⟩
 have e9:((x:Int) == 9) = false:=by simp <;> omega
 clear h9
 go_enter Tryz.func125,Tryz.ntmps125
 go_wp2
 go_ret
 exact ⟨⟨_,rfl⟩,Below.refl _ _⟩
theorem xplace_2 (w:World) (a:Option Addr) (n c i sos:Nat) (l:List Nat) (hn:l.length = n) (hb:n≤1048576) (hi:i < n) (hc:Cells w a (l.map u8V)):
 Calls Tryz.prog 125 #[.int .i64 2,.slice a n c,.int .u8 sos,.int .i64 i] w fun e w' => (∃ k:Nat,e = .returned (.int .u8 k))∧Below w.heap.size w w':=by
 obtain ⟨x,hx⟩:∃ x,l[i]? = some x:=⟨_,List.getElem?_eq_getElem (by omega)⟩
 obtain ⟨ab,ao,rfl,q0⟩:=hc.getm hx
 unfold u8V at q0
 have HC:=Lib.hid hc
 have HN:=Lib.hid hn
 have HX:=Lib.hid hx
 have hi0:(0:Int)≤(i:Int):=by omega
 have hi1:(i:Int) < (n:Int):=by omega
 have hi2:(i:Int)≤1048576:=by omega
 clear hc hn hx
 by_cases h4:x = 4
 · subst h4
   go_enter Tryz.func125,Tryz.ntmps125
   go_wp2_with fail
   have hs:=Cells.new w (([2,1,3]:List Nat).map u8V) 35
   have hb2:Below w.heap.size w (w.alloc (.cells ((([2,1,3]:List Nat).map u8V).toArray) 35)):=(Below.refl _ _).alloc (Nat.le_refl _) _
   have HB2:=Lib.hid hb2
   refine (xahead_any _ _ _ n c 3 3 i sos l [2,1,3] HN.out hb (by omega) rfl (by decide) (HC.out.below hb2) hs).mono ?_
   rintro e w2 ⟨⟨k,rfl⟩,b2⟩
   have HB3:=Lib.hid (HB2.out.trans (b2.mono HB2.out.size))
   clear b2 hs hb2
   cases hk:((k:Int) == 3)
   · go_wp2
     go_ret
     exact ⟨⟨_,rfl⟩,HB3.out⟩
   · go_wp2
     go_ret
     exact ⟨⟨_,rfl⟩,HB3.out⟩
 have e4:((x:Int) == 4) = false:=by simp <;> omega
 clear h4
 go_enter Tryz.func125,Tryz.ntmps125
 go_wp2
 go_ret
 exact ⟨⟨_,rfl⟩,Below.refl _ _⟩
theorem xplace_7 (w:World) (a:Option Addr) (n c i sos:Nat) (l:List Nat) (hn:l.length = n) (hb:n≤1048576) (hi:i < n) (hc:Cells w a (l.map u8V)):
 Calls Tryz.prog 125 #[.int .i64 7,.slice a n c,.int .u8 sos,.int .i64 i] w fun e w' => (∃ k:Nat,e = .returned (.int .u8 k))∧Below w.heap.size w w':=by
 obtain ⟨x,hx⟩:∃ x,l[i]? = some x:=⟨_,List.getElem?_eq_getElem (by omega)⟩
 obtain ⟨ab,ao,rfl,q0⟩:=hc.getm hx
 unfold u8V at q0
 have HC:=Lib.hid hc
 have HN:=Lib.hid hn
 have HX:=Lib.hid hx
 have hi0:(0:Int)≤(i:Int):=by omega
 have hi1:(i:Int) < (n:Int):=by omega
 have hi2:(i:Int)≤1048576:=by omega
 clear hc hn hx
 by_cases h4:x = 4
 · subst h4
   go_enter Tryz.func125,Tryz.ntmps125
   go_wp2_with fail
   have hs:=Cells.new w (([2,1]:List Nat).map u8V) 35
   have hb2:Below w.heap.size w (w.alloc (.cells ((([2,1]:List Nat).map u8V).toArray) 35)):=(Below.refl _ _).alloc (Nat.le_refl _) _
   have HB2:=Lib.hid hb2
   refine (xahead_any _ _ _ n c 2 2 i sos l [2,1] HN.out hb (by omega) rfl (by decide) (HC.out.below hb2) hs).mono ?_
   rintro e w2 ⟨⟨k,rfl⟩,b2⟩
   have HB3:=Lib.hid (HB2.out.trans (b2.mono HB2.out.size))
   clear b2 hs hb2
   cases hk:((k:Int) == 1)
   · go_wp2
     go_ret
     exact ⟨⟨_,rfl⟩,HB3.out⟩
   · go_wp2
     go_ret
     exact ⟨⟨_,rfl⟩,HB3.out⟩
 have e4:((x:Int) == 4) = false:=by simp <;> omega
 clear h4
 go_enter Tryz.func125,Tryz.ntmps125
 go_wp2
 go_ret
 exact ⟨⟨_,rfl⟩,Below.refl _ _⟩
theorem xplace_4 (w:World) (a:Option Addr) (n c i sos:Nat) (l:List Nat) (hn:l.length = n) (hb:n≤1048576) (hi:i < n) (hc:Cells w a (l.map u8V)):
 Calls Tryz.prog 125 #[.int .i64 4,.slice a n c,.int .u8 sos,.int .i64 i] w fun e w' => (∃ k:Nat,e = .returned (.int .u8 k))∧Below w.heap.size w w':=by
 obtain ⟨x,hx⟩:∃ x,l[i]? = some x:=⟨_,List.getElem?_eq_getElem (by omega)⟩
 obtain ⟨ab,ao,rfl,q0⟩:=hc.getm hx
 unfold u8V at q0
 have HC:=Lib.hid hc
 have HN:=Lib.hid hn
 have HX:=Lib.hid hx
 have hi0:(0:Int)≤(i:Int):=by omega
 have hi1:(i:Int) < (n:Int):=by omega
 have hi2:(i:Int)≤1048576:=by omega
 clear hc hn hx
 by_cases h5:x = 5
 · subst h5
   go_enter Tryz.func125,Tryz.ntmps125
   go_wp2_with fail
   refine (xat_any _ _ n c l _ HN.out hb (by omega) HC.out).mono ?_
   rintro e w3 ⟨⟨k1,rfl,_⟩,rfl⟩
   go_wp2_with fail
   refine (xat_any _ _ n c l _ HN.out hb (by omega) HC.out).mono ?_
   rintro e w3 ⟨⟨k2,rfl,_⟩,rfl⟩
   cases z1:((k1:Int) == 4)
   all_goals
    cases z2:((k2:Int) == 4)
    all_goals
     cases z3:((k1:Int) == 7)
     all_goals
      cases z4:((k2:Int) == 7)
      all_goals
       go_wp2
       go_ret
       exact ⟨⟨_,rfl⟩,Below.refl _ _⟩
 by_cases h8:x = 8
 · subst h8
   go_enter Tryz.func125,Tryz.ntmps125
   go_wp2_with fail
   refine (xat_any _ _ n c l _ HN.out hb (by omega) HC.out).mono ?_
   rintro e w3 ⟨⟨k1,rfl,_⟩,rfl⟩
   go_wp2_with fail
   refine (xat_any _ _ n c l _ HN.out hb (by omega) HC.out).mono ?_
   rintro e w3 ⟨⟨k2,rfl,_⟩,rfl⟩
   cases z1:((k1:Int) == 4)
   all_goals
    cases z2:((k2:Int) == 4)
    all_goals
     cases z3:((k1:Int) == 7)
     all_goals
      cases z4:((k2:Int) == 7)
      all_goals
       go_wp2
       go_ret
       exact ⟨⟨_,rfl⟩,Below.refl _ _⟩
 have e5:((x:Int) == 5) = false:=by simp <;> omega
 have e8:((x:Int) == 8) = false:=by simp <;> omega
 clear h5 h8
 go_enter Tryz.func125,Tryz.ntmps125
 go_wp2
 go_ret
 exact ⟨⟨_,rfl⟩,Below.refl _ _⟩
theorem xplace_5 (w:World) (a:Option Addr) (n c i sos:Nat) (l:List Nat) (hn:l.length = n) (hb:n≤1048576) (hi:i < n) (hc:Cells w a (l.map u8V)):
 Calls Tryz.prog 125 #[.int .i64 5,.slice a n c,.int .u8 sos,.int .i64 i] w fun e w' => (∃ k:Nat,e = .returned (.int .u8 k))∧Below w.heap.size w w':=by
 obtain ⟨x,hx⟩:∃ x,l[i]? = some x:=⟨_,List.getElem?_eq_getElem (by omega)⟩
 obtain ⟨ab,ao,rfl,q0⟩:=hc.getm hx
 unfold u8V at q0
 have HC:=Lib.hid hc
 have HN:=Lib.hid hn
 have HX:=Lib.hid hx
 have hi0:(0:Int)≤(i:Int):=by omega
 have hi1:(i:Int) < (n:Int):=by omega
 have hi2:(i:Int)≤1048576:=by omega
 clear hc hn hx
 by_cases h6:x = 6
 · subst h6
   go_enter Tryz.func125,Tryz.ntmps125
   go_wp2
   go_loopg [12] (i + 1) (fun r s12 wr => ∃ p:Int,s12 = .int .i64 p∧p = (r:Int) - 1∧r≤i + 1∧w = wr)
   case atStart => exact ⟨_,rfl,by omega,Nat.le_refl _,rfl⟩
   case round =>
    obtain ⟨p,rfl,hp,hr,rfl⟩:=hrel
    have HG:=Lib.hid hr
    have HP:=Lib.hid hp
    have hp1:-1≤p∧p≤1048576:=by omega
    obtain ⟨hp3,hp4⟩:=hp1
    clear hp hr
    go_wp2_with fail
    refine (xat_any _ _ n c l _ HN.out hb (by omega) HC.out).mono ?_
    rintro e w3 ⟨⟨k1,rfl,ho⟩,rfl⟩
    cases z1:((k1:Int) == 6) with
    | true =>
     have hpp:0≤p:=by
      have h1:(k1:Int) = 6:=by simpa using z1
      rcases Int.lt_or_le p 0 with h2 | h2
      · have:=ho (.inl h2);omega
      · exact h2
     clear ho
     go_wp2
     go_roundg (gk - 1)
     case measure => have:=HP.out;omega
     case rel => exact ⟨_,rfl,by have:=HP.out;omega,by have:=HG.out;omega,rfl⟩
    | false =>
     clear ho
     go_wp2
     go_loopg [13] (n - i) (fun r s13 wr => ∃ q:Nat,s13 = .int .i64 q∧q + r = n∧w = wr)
     case atStart => exact ⟨i,rfl,by omega,rfl⟩
     case round =>
      obtain ⟨q,rfl,hq,rfl⟩:=hrel
      have HQ:=Lib.hid hq
      have hq1:(q:Int)≤1048576:=by omega
      have hq2:(0:Int)≤(q:Int):=by omega
      clear hq
      go_wp2_with fail
      refine (xat_any _ _ n c l _ HN.out hb (by omega) HC.out).mono ?_
      rintro e w3 ⟨⟨k2,rfl,ho⟩,rfl⟩
      cases z2:((k2:Int) == 6) with
      | true =>
       have HQN:Hid (q < n):=Lib.hid (by
        have h1:(k2:Int) = 6:=by simpa using z2
        rcases Nat.lt_or_ge q n with h2 | h2
        · exact h2
        · have:=ho (.inr (by omega));omega)
       clear ho
       go_wp2
       go_roundg (n - (q + 1))
       case measure => have:=HQ.out;have:=HQN.out;omega
       case rel => exact ⟨q + 1,by go_num,by have:=HQN.out;omega,rfl⟩
      | false =>
       clear ho
       go_wp2_with fail
       refine (xat_any _ _ n c l _ HN.out hb (by omega) HC.out).mono ?_
       rintro e w3 ⟨⟨k3,rfl,_⟩,rfl⟩
       cases z3:((k3:Int) == 4) with
       | true =>
        go_wp2
        go_ret
        exact ⟨⟨_,rfl⟩,Below.refl _ _⟩
       | false =>
        go_wp2_with fail
        refine (xat_any _ _ n c l _ HN.out hb (by omega) HC.out).mono ?_
        rintro e w3 ⟨⟨k4,rfl,_⟩,rfl⟩
        cases z4:((k4:Int) == 4)
        all_goals
         go_wp2
         go_ret
         exact ⟨⟨_,rfl⟩,Below.refl _ _⟩
 have e6:((x:Int) == 6) = false:=by simp <;> omega
 clear h6
 go_enter Tryz.func125,Tryz.ntmps125
 go_wp2
 go_ret
 exact ⟨⟨_,rfl⟩,Below.refl _ _⟩
theorem xplace_any (w:World) (a:Option Addr) (n c i sos k:Nat) (l:List Nat) (hk:1≤k) (hk2:k≤7) (hn:l.length = n) (hb:n≤1048576) (hi:i < n) (hc:Cells w a (l.map u8V)):
 Calls Tryz.prog 125 #[.int .i64 k,.slice a n c,.int .u8 sos,.int .i64 i] w fun e w' => (∃ k:Nat,e = .returned (.int .u8 k))∧Below w.heap.size w w':=by
 rcases (show k = 1∨k = 2∨k = 3∨k = 4∨k = 5∨k = 6∨k = 7 by omega) with rfl | rfl | rfl | rfl | rfl | rfl | rfl
 · exact xplace_1 w a n c i sos l hn hb hi hc
 · exact xplace_2 w a n c i sos l hn hb hi hc
 · exact xplace_3 w a n c i sos l hn hb hi hc
 · exact xplace_4 w a n c i sos l hn hb hi hc
 · exact xplace_5 w a n c i sos l hn hb hi hc
 · exact xplace_6 w a n c i sos l hn hb hi hc
 · exact xplace_7 w a n c i sos l hn hb hi hc
end Go.Proofs.YtjnidopbdjbbgaaGreat
end
/-
  The reference's weak rules of a list: they end; walked.
-/
section
namespace Go.Proofs.YtjnidopbdjbbgaaGreat
open Go.RowKit
set_option linter.unusedVariables false
set_option maxRecDepth 20000
set_option maxHeartbeats 4000000
theorem xrule_any (w:World) (a:Option Addr) (n c k sos:Nat) (l:List Nat) (hk:1≤k) (hk2:k≤7) (hn:l.length = n) (hb:n≤1048576) (hc:Cells w a (l.map u8V)):
 Calls Tryz.prog 95 #[.int .i64 k,.slice a n c,.int .u8 sos] w fun e w' => ∃ b d,e = .returned (.slice b n d)∧∃ vs:List Nat,vs.length = n∧Own w' w.heap.size 1 b n d (vs.map u8V)∧Below w.heap.size w w':=by
 obtain ⟨i0,hi,hz0,hz1,hz2⟩:=info_parts info35
 have HC:=Lib.hid hc
 have HL:=Lib.hid hn
 have HK:=Lib.hid hk
 have HK2:=Lib.hid hk2
 clear hc hn hk hk2
 go_enter Tryz.func95,Tryz.ntmps95
 go_wp2_with (at_builtin;refine wpList_app rfl _ _ 22 22 rfl 35 i0 (.int .u8 0) 1 1 Tryz.underlying22 hi hz0 hz1 hz2 rfl (by simp [Value.cells,Value.oneCell']) w.heap.size _ 0 0 [] rfl (Own.nil _ _ _) _ n (l.map u8V) rfl (Src.ofCells Tryz.underlying22 a n c _ (by rw [List.length_map,HL.out];omega) HC.out (ones u8V (fun _ => rfl) l) (by decide)) (by simp only [maxLen];omega) (by omega) (by simp) ?_;intro a4 c4 w4 hown4 hap4;have HO4:Hid (Own w4 w.heap.size 1 a4 n c4 (l.map u8V)):=Lib.hid ((hown4.eqN (by omega)).eqL (by simp));have HB4:=Lib.hid (hap4.below (Own.nil w w.heap.size 1) (Nat.le_refl _));clear hown4 hap4)
 go_loopg [8] n (fun r s8 wr => ∃ (q:Nat) (vs:List Nat),q + r = n∧s8 = .int .i64 q∧vs.length = n∧Own wr w.heap.size 1 a4 n c4 (vs.map u8V)∧Below w.heap.size w wr)
 case atStart => exact ⟨0,l,by omega,rfl,HL.out,by simpa using HO4.out,HB4.out⟩
 case round =>
  obtain ⟨q,vs,hq,rfl,hvs,hown,hbw⟩:=hrel
  by_cases hlt:q < n
  · obtain ⟨g,rfl⟩:=hown.pos (by omega)
    have HO:=Lib.hid hown
    have HB:=Lib.hid hbw
    have HV:=Lib.hid hvs
    have HQ:=Lib.hid hq
    have HLT:=Lib.hid hlt
    have hq0:(0:Int)≤(q:Int):=by omega
    have hq1:(q:Int) < (n:Int):=by omega
    clear hown hbw hvs hq hlt
    go_wp2_with (go_at_call 125;refine (xplace_any _ _ n c4 q sos k vs HK.out HK2.out HV.out hb HLT.out HO.out.toCells).mono ?_;rintro e w5 ⟨⟨y,rfl⟩,hb5⟩;have HB5:=Lib.hid hb5;obtain ⟨u,hu⟩:∃ u,vs[q]? = some u:=⟨_,List.getElem?_eq_getElem (by rw [HV.out];exact HLT.out)⟩;obtain ⟨hc5,hf5⟩:=(HO.out.below hb5).getm hu;unfold u8V at hc5;clear hu hb5)
    go_roundg (gk - 1)
    case measure => have:=HQ.out;have:=HLT.out;omega
    case rel => exact ⟨q + 1,vs.set q y,by have:=HQ.out;have:=HLT.out;omega,by go_num,by rw [List.length_set,HV.out],((HO.out.below HB5.out).stored q HLT.out (u8V y)).eqL (by rw [List.map_set]),by have hx:=HB.out.trans (HB5.out.mono HB.out.size);exact (HO.out.below HB5.out).storeBelow hx q (u8V y)⟩
  · obtain rfl:q = n:=by omega
    have HO:=Lib.hid hown
    have HB:=Lib.hid hbw
    have HV:=Lib.hid hvs
    clear hown hbw hvs hq hlt
    go_wp2
    go_ret
    exact ⟨a4,c4,rfl,vs,HV.out,HO.out,HB.out⟩
theorem xresolve_any (w:World) (a:Option Addr) (n c sos:Nat) (l:List Nat) (hn:l.length = n) (hb:n≤1048576) (hc:Cells w a (l.map u8V)):
 Calls Tryz.prog 54 #[.slice a n c,.int .u8 sos] w fun e w' => ∃ b d,e = .returned (.slice b n d)∧∃ vs:List Nat,vs.length = n∧Own w' w.heap.size 1 b n d (vs.map u8V)∧Below w.heap.size w w':=by
 have HC:=Lib.hid hc
 have HL:=Lib.hid hn
 clear hc hn
 go_enter Tryz.func54,Tryz.ntmps54
 go_wp2
 go_loopg [0,5] 7 (fun r s0 s5 wr => ∃ (q d:Nat) (b:Option Addr) (vs:List Nat),q + r = 8∧s5 = .int .i64 q∧s0 = .slice b n d∧1≤q∧vs.length = n∧Cells wr b (vs.map u8V)∧(q = 1∨Own wr w.heap.size 1 b n d (vs.map u8V))∧Below w.heap.size w wr)
 case atStart => exact ⟨1,c,a,l,rfl,rfl,rfl,Nat.le_refl _,HL.out,HC.out,.inl rfl,Below.refl _ _⟩
 case round =>
  obtain ⟨q,d,b,vs,hq,rfl,rfl,hq1,hvs,hcs,hown,hbw⟩:=hrel
  have HO:=Lib.hid hown
  have HC:=Lib.hid hcs
  have HB:=Lib.hid hbw
  have HV:=Lib.hid hvs
  have HQ:=Lib.hid hq
  have HQ1:=Lib.hid hq1
  by_cases hlt:q≤7
  · have hq7:(q:Int)≤7:=by omega
    have HLT:=Lib.hid hlt
    clear hown hcs hbw hvs hq hq1 hlt
    go_wp2_with (go_at_call 95;refine (xrule_any _ b n d q sos vs HQ1.out HLT.out HV.out hb HC.out).mono ?_;rintro e w5 ⟨b5,d5,rfl,vs5,hv5,ho5,hb5⟩;have HO5:=Lib.hid ho5;have HB5:=Lib.hid hb5;have HV5:=Lib.hid hv5;clear ho5 hb5 hv5)
    go_roundg (gk - 1)
    case measure => have:=HQ.out;have:=HLT.out;omega
    case rel => exact ⟨q + 1,d5,b5,vs5,by have:=HQ.out;have:=HLT.out;omega,by go_num,rfl,by omega,HV5.out,HO5.out.toCells,.inr (HO5.out.mono HB.out.size),HB.out.trans (HB5.out.mono HB.out.size)⟩
  · have hq7:¬ (q:Int)≤7:=by omega
    have HLT:=Lib.hid hlt
    clear hown hcs hbw hvs hq hq1 hlt
    go_wp2
    go_ret
    refine ⟨b,d,rfl,vs,HV.out,?_,HB.out⟩
    rcases HO.out with h | h
    · have:=HLT.out;omega
    · exact h
end Go.Proofs.YtjnidopbdjbbgaaGreat
end
/-
  What TopHolds asks of an order, and of classes: walked.
-/
section
namespace Go.Proofs.YtjnidopbdjbbgaaGreat
open Go.RowKit
set_option linter.unusedVariables false
/-- Are all classes L, B, S, WS or ON? -/
def plainB (l:List Nat):Bool:=l.all fun c => c == 1 || c == 11 || c == 12 || c == 13 || c == 14
theorem plainB_iff (l:List Nat):plainB l = true ↔ ∀ c∈l,c = 1∨c = 11∨c = 12∨c = 13∨c = 14:=by
 unfold plainB
 rw [List.all_eq_true]
 simp [or_assoc]
set_option maxRecDepth 20000 in
set_option maxHeartbeats 8000000 in
theorem plainly_any (w:World) (a:Option Addr) (c:Nat) (l:List Nat) (hn:l.length≤1048576) (hc:Cells w a (l.map u8V)):
 Calls Tryz.prog 17 #[.slice a l.length c] w fun e w' => e = .returned (.bool (plainB l))∧w = w':=by
 have HC:=Lib.hid hc
 obtain ⟨n,hnn⟩:∃ n,n = l.length:=⟨_,rfl⟩
 have HN:=Lib.hid hnn
 rw [← hnn] at hn ⊢
 have hn2:(n:Int)≤1048576:=by omega
 clear hc hnn
 go_enter Tryz.func17,Tryz.ntmps17
 go_wp2
 go_loopg [3] n (fun r i wr => ∃ k:Nat,k + r = n∧i = .int .i64 k∧w = wr∧∀ c∈l.take k,c = 1∨c = 11∨c = 12∨c = 13∨c = 14)
 case atStart => exact ⟨0,by omega,rfl,rfl,by simp⟩
 case round =>
  obtain ⟨k,hk,rfl,rfl,hall⟩:=hrel
  have HALL:=Lib.hid hall
  have HK:=Lib.hid hk
  clear hall hk
  by_cases hlt:k < n
  · obtain ⟨x,hx⟩:∃ x,l[k]? = some x:=⟨_,List.getElem?_eq_getElem (by rw [← HN.out];exact hlt)⟩
    obtain ⟨b,o,rfl,hcx⟩:=HC.out.getm hx
    unfold u8V at hcx
    have hk0:(0:Int)≤(k:Int):=by omega
    have hk1:(k:Int) < (n:Int):=by omega
    have HNEXT:Hid ((x = 1∨x = 11∨x = 12∨x = 13∨x = 14)→∀ c∈l.take (k + 1),c = 1∨c = 11∨c = 12∨c = 13∨c = 14):=Lib.hid fun h c hc => by
     rw [List.take_add_one,hx] at hc
     rcases List.mem_append.1 hc with hc | hc
     · exact HALL.out c hc
     · simp at hc
       rw [hc]
       exact h
    have HBAD:Hid (¬ (x = 1∨x = 11∨x = 12∨x = 13∨x = 14)→plainB l = false):=Lib.hid fun h => by
     rw [Bool.eq_false_iff,ne_eq,plainB_iff]
     exact fun h2 => h (h2 x (List.mem_of_getElem? hx))
    clear hx
    by_cases h5:x = 1∨x = 11∨x = 12∨x = 13∨x = 14
    · have HNX:=Lib.hid (HNEXT.out h5)
      rcases h5 with rfl | rfl | rfl | rfl | rfl
      all_goals
       go_wp2
       go_roundg (gk - 1)
       case measure => have:=HK.out;omega
       case rel => exact ⟨k + 1,by have:=HK.out;omega,by go_num,rfl,HNX.out⟩
    · have HB:=Lib.hid (HBAD.out h5)
      have e1:((x:Int) != 1) = true:=by simp <;> omega
      have e2:((x:Int) != 11) = true:=by simp <;> omega
      have e3:((x:Int) != 12) = true:=by simp <;> omega
      have e4:((x:Int) != 13) = true:=by simp <;> omega
      have e5:((x:Int) != 14) = true:=by simp <;> omega
      clear h5
      go_wp2
      go_ret
      exact ⟨by rw [HB.out];rfl,rfl⟩
  · obtain rfl:n = k:=by have:=HK.out;omega
    have HT:Hid (plainB l = true):=Lib.hid (by
     rw [plainB_iff]
     have:=HALL.out
     rw [List.take_of_length_le (by rw [← HN.out];exact Nat.le_refl _)] at this
     exact this)
    clear hlt
    go_wp2
    go_ret
    exact ⟨by rw [HT.out];rfl,rfl⟩
set_option maxRecDepth 20000 in
set_option maxHeartbeats 8000000 in
theorem each_any (w:World) (oa la:Option Addr) (oc lc:Nat) (O:List Nat) (lv:List Int) (n m:Nat) (hOm:O.length = m) (hln:lv.length = n) (hn:n≤1048576) (hm:m≤1048576) (ho:Cells w oa (O.map natV)) (hl:Cells w la (lv.map i8V)) (hnd:O.Nodup) (hmem:∀ i,i∈O ↔ i < n∧lv.getD i 0≠-1):
 Calls Tryz.prog 15 #[.slice oa m oc,.slice la n lc] w fun e w' => e = .returned (.bool true)∧Below w.heap.size w w':=by
 obtain ⟨ib,hib,hzb0,hzb1,hzb2⟩:=info_parts info4
 have HO:=Lib.hid ho
 have HL:=Lib.hid hl
 have HND:=Lib.hid hnd
 have HMEM:=Lib.hid hmem
 have HOM:=Lib.hid hOm
 have HLN:=Lib.hid hln
 have hn2:(n:Int)≤1048576:=by omega
 have hm2:(m:Int)≤1048576:=by omega
 clear ho hl hnd hmem hOm hln
 go_enter Tryz.func15,Tryz.ntmps15
 go_wp2_with (at_make;refine wpList_mk rfl _ _ 69 4 rfl ib (.bool false) 1 Tryz.underlying69 hib hzb0 hzb1 hzb2 rfl n (by go_num) (by go_num) (by omega) (by simp only [maxLen];omega) ?_;intro sg w1 hown1 hb1;have HS:=Lib.hid hown1;have HB1:=Lib.hid hb1;clear hown1 hb1)
 have HS0:Hid (Own w1 w.heap.size 1 (some ⟨sg,0,none⟩) n n ((seenTo O n 0).map Value.bool)):=Lib.hid (HS.out.eqL (by rw [seenTo_zero,List.map_replicate]))
 go_loopg [6] m (fun r i wr => ∃ k:Nat,k + r = m∧i = .int .i64 k∧Own wr w.heap.size 1 (some ⟨sg,0,none⟩) n n ((seenTo O n k).map Value.bool)∧Below w.heap.size w wr)
 case atStart => exact ⟨0,by omega,rfl,HS0.out,HB1.out⟩
 case round =>
  obtain ⟨k,hk,rfl,hown,hb⟩:=hrel
  obtain ⟨wa,rfl⟩:∃ wa:World,wa = wr:=⟨_,rfl⟩
  have HK:=Lib.hid hk
  have HOW:=Lib.hid hown
  have HB:=Lib.hid hb
  clear hk hown hb
  have hk0:(0:Int)≤(k:Int):=by omega
  by_cases hlt:k < m
  · obtain ⟨x,hx⟩:∃ x,O[k]? = some x:=⟨_,List.getElem?_eq_getElem (by rw [HOM.out];exact hlt)⟩
    obtain ⟨hxn,hxv⟩:=(HMEM.out x).1 (List.mem_of_getElem? hx)
    obtain ⟨v,hv⟩:∃ v,lv[x]? = some v:=⟨_,List.getElem?_eq_getElem (by rw [HLN.out];exact hxn)⟩
    have hvne:(v == -1) = false:=by
     rw [List.getD_eq_getElem?_getD,hv] at hxv
     simpa using hxv
    obtain ⟨b1,o1,rfl,hcx⟩:=(HO.out.below HB.out).getm hx
    obtain ⟨b2,o2,rfl,hcv⟩:=(HL.out.below HB.out).getm hv
    have hsx:(seenTo O n k)[x]? = some false:=by rw [seenTo_get O hxn,seen_not HND.out hx]
    have hcs:=(HOW.out.getm hsx).1
    have hfs:=(HOW.out.getm hsx).2
    unfold natV at hcx
    unfold i8V at hcv
    have HN:=Lib.hid (seenTo_succ (n:=n) hx)
    have HOW2:=Lib.hid (HOW.out.stored x hxn (.bool true))
    have HB2:=Lib.hid (HOW.out.storeBelow HB.out x (.bool true))
    have hk1:(k:Int) < (m:Int):=by omega
    have hx0:(0:Int)≤(x:Int):=by omega
    have hx1:(x:Int) < (n:Int):=by omega
    have hx2:¬ (x:Int) < 0:=by omega
    have hx3:¬ (x:Int) ≥ (n:Int):=by omega
    clear hx hxv hv hsx hxn
    go_wp2
    go_roundg (gk - 1)
    case measure => have:=HK.out;omega
    case rel => exact ⟨k + 1,by have:=HK.out;omega,by go_num,by rw [← HN.out,List.map_set];exact HOW2.out,HB2.out⟩
  · obtain rfl:k = m:=by have:=HK.out;omega
    have HSN:Hid (∀ i,i < n→(seenTo O n k)[i]? = some (decide (lv.getD i 0≠-1))):=Lib.hid fun i hi => by
     rw [seenTo_get O hi,List.take_of_length_le (by rw [HOM.out];exact Nat.le_refl _)]
     congr 1
     rw [Bool.eq_iff_iff,List.contains_iff_mem,HMEM.out i]
     simp [hi]
    clear hlt hk0
    go_wp2
    go_loopg [8] n (fun r i wq => ∃ t j:Nat,t + r = n∧i = .int .i64 t∧wa.drewN j = wq)
    case atStart => exact ⟨0,0,by omega,rfl,rfl⟩
    case round =>
     obtain ⟨t,j,ht,rfl,rfl⟩:=hrel
     have hbw:Below wa.heap.size wa (wa.drewN j):=below_drewN (Below.refl _ _) j
     have HT:=Lib.hid ht
     clear ht
     have ht0:(0:Int)≤(t:Int):=by omega
     by_cases hlt:t < n
     · obtain ⟨v,hv⟩:∃ v,lv[t]? = some v:=⟨_,List.getElem?_eq_getElem (by rw [HLN.out];exact hlt)⟩
       obtain ⟨b2,o2,rfl,hcv⟩:=((HL.out.below HB.out).below hbw).getm hv
       have hcs:=((HOW.out.below hbw).getm (HSN.out t hlt)).1
       rw [show lv.getD t 0 = v from by rw [List.getD_eq_getElem?_getD,hv];rfl] at hcs
       unfold i8V at hcv
       have ht1:(t:Int) < (n:Int):=by omega
       have HLT:=Lib.hid hlt
       clear hv hbw hlt
       generalize hV:wa.drewN j = V at hcv hcs ⊢
       have HV:=Lib.hid hV
       clear hV
       by_cases hv1:v = -1
       · subst hv1
         have hd:decide ((-1:Int)≠-1) = false:=by decide
         rw [hd] at hcs
         go_wp2_with fail
         go_quiet (fail)
         go_wp2
         go_roundg (gk - 1)
         case measure => have:=HT.out;have:=HLT.out;omega
         case rel => exact ⟨t + 1,_,by have:=HT.out;have:=HLT.out;omega,by go_num,by rw [← HV.out,World.drewN_drewN]⟩
       · have hd:decide (v≠-1) = true:=by simpa using hv1
         have hd2:(v == -1) = false:=by simpa using hv1
         rw [hd] at hcs
         go_wp2_with fail
         go_quiet (fail)
         go_wp2
         go_roundg (gk - 1)
         case measure => have:=HT.out;have:=HLT.out;omega
         case rel => exact ⟨t + 1,_,by have:=HT.out;have:=HLT.out;omega,by go_num,by rw [← HV.out,World.drewN_drewN]⟩
     · clear hbw
       have ht1:¬ (t:Int) < (n:Int):=by omega
       go_wp2
       go_ret
       exact ⟨rfl,below_drewN HB.out _⟩
set_option maxRecDepth 20000 in
set_option maxHeartbeats 8000000 in
theorem twice_any (w:World) (oa la:Option Addr) (oc lc:Nat) (lv:List Int) (n m:Nat) (hOm:(orderOf lv).length = m) (hln:lv.length = n) (hn:n≤1048576) (ho:Cells w oa ((orderOf lv).map natV)) (hl:Cells w la (lv.map i8V)) (hall:∀ v∈lv,-1≤v∧v≤126):
 Calls Tryz.prog 16 #[.slice oa m oc,.slice la n lc] w fun e w' => e = .returned (.bool true)∧Below w.heap.size w w':=by
 obtain ⟨ib,hib,hzb0,hzb1,hzb2⟩:=info_parts info26
 have HO:=Lib.hid ho
 have HL:=Lib.hid hl
 have HALL:=Lib.hid hall
 have HOM:=Lib.hid hOm
 have HLN:=Lib.hid hln
 have hn2:(n:Int)≤1048576:=by omega
 have hm:m≤n:=by rw [← hOm,← hln];unfold orderOf;rw [shown_len];exact heldTo_le _ _
 have hm2:(m:Int)≤1048576:=by omega
 have HSL:Hid ((shownLv lv).length = m):=Lib.hid (by unfold shownLv;rw [List.length_map,hOm])
 clear ho hl hall hOm hln
 go_enter Tryz.func16,Tryz.ntmps16
 go_wp2
 go_loopg [5,6] m (fun r s5 i wr => ∃ (k:Nat) (sa:Option Addr) (sc:Nat),k + r = m∧i = .int .i64 k∧s5 = .slice sa k sc∧Own wr w.heap.size 1 sa k sc (((shownLv lv).take k).map i8V)∧Below w.heap.size w wr)
 case atStart => exact ⟨0,none,0,by omega,rfl,rfl,Own.nil _ _ _,Below.refl _ _⟩
 case round =>
  obtain ⟨k,sa,sc,hk,rfl,rfl,hown,hb⟩:=hrel
  obtain ⟨wa,rfl⟩:∃ wa:World,wa = wr:=⟨_,rfl⟩
  have HK:=Lib.hid hk
  have HOW:=Lib.hid hown
  have HB:=Lib.hid hb
  clear hk hown hb
  have hk0:(0:Int)≤(k:Int):=by omega
  by_cases hlt:k < m
  · obtain ⟨x,hx⟩:∃ x,(orderOf lv)[k]? = some x:=⟨_,List.getElem?_eq_getElem (by rw [HOM.out];exact hlt)⟩
    have hxn:x < n:=by rw [← HLN.out];exact (orderOf_mem.1 (List.mem_of_getElem? hx)).1
    obtain ⟨v,hv⟩:∃ v,lv[x]? = some v:=⟨_,List.getElem?_eq_getElem (by rw [HLN.out];exact hxn)⟩
    obtain ⟨b1,o1,rfl,hcx⟩:=(HO.out.below HB.out).getm hx
    obtain ⟨b2,o2,rfl,hcv⟩:=(HL.out.below HB.out).getm hv
    unfold natV at hcx
    unfold i8V at hcv
    have HSK:Hid ((shownLv lv).take (k + 1) = (shownLv lv).take k ++ [v]):=Lib.hid (by
     rw [List.take_add_one]
     congr 1
     unfold shownLv
     rw [List.getElem?_map,hx]
     show [lv.getD x 0] = [v]
     rw [List.getD_eq_getElem?_getD,hv]
     rfl)
    have hk1:(k:Int) < (m:Int):=by omega
    have hx0:(0:Int)≤(x:Int):=by omega
    have hx1:(x:Int) < (n:Int):=by omega
    clear hx hv hxn
    go_wp2_with (at_builtin;refine wpList_push rfl _ _ 27 rfl 26 ib (.int .i8 0) 1 Tryz.underlying27 hib hzb0 hzb1 hzb2 rfl rfl w.heap.size sa k sc _ rfl _ _ rfl HOW.out _ rfl rfl rfl (by omega) (by decide) HB.out.size ?_;intro a5 c5 w5 hown5 hap5 hb5;have HO5:=Lib.hid hown5;have HB5:=Lib.hid hb5;clear hown5 hap5 hb5)
    go_roundg (gk - 1)
    case measure => have:=HK.out;omega
    case rel => exact ⟨k + 1,a5,c5,by have:=HK.out;omega,by go_num,rfl,by rw [HSK.out,List.map_append];exact HO5.out,HB.out.trans HB5.out⟩
  · obtain rfl:k = m:=by have:=HK.out;omega
    have HOS:Hid (Own wa w.heap.size 1 sa k sc ((shownLv lv).map i8V)):=Lib.hid (HOW.out.eqL (by rw [List.take_of_length_le (by rw [HSL.out];exact Nat.le_refl _)]))
    have hag:=order_again (lv:=lv) (fun v hv => (HALL.out v hv).2)
    have HAL:Hid ((orderOf (shownLv lv)).length = k):=Lib.hid (by rw [hag.2,HOM.out])
    have HORD:=Lib.hid (orderE_any wa sa sc (shownLv lv) k HSL.out (by omega) HOS.out.toCells (fun v hv => HALL.out v (shownLv_mem hv).1))
    rw [HAL.out] at HORD
    have HAG:=Lib.hid (fun i (hi:i < lv.length) hv => again_at (lv:=lv) (fun v hv => (HALL.out v hv).2) hi hv)
    rw [HLN.out] at HAG
    clear hlt hk0 hag
    go_wp2_with fail
    refine HORD.out.mono ?_
    rintro e w2 ⟨ga,gc,rfl,r1,r2⟩
    have R1:=Lib.hid r1
    have R2:=Lib.hid (HB.out.trans (r2.mono HB.out.size))
    clear r1 r2
    go_wp2
    go_loopg [9,10] n (fun r s9 i wq => ∃ t:Nat,t + r = n∧i = .int .i64 t∧s9 = .int .i64 (heldTo lv t).length∧w2 = wq)
    case atStart => exact ⟨0,by omega,rfl,rfl,rfl⟩
    case round =>
     obtain ⟨t,ht,rfl,rfl,rfl⟩:=hrel
     have HT:=Lib.hid ht
     clear ht
     have ht0:(0:Int)≤(t:Int):=by omega
     by_cases hlt:t < n
     · obtain ⟨v,hv⟩:∃ v,lv[t]? = some v:=⟨_,List.getElem?_eq_getElem (by rw [HLN.out];exact hlt)⟩
       obtain ⟨b2,o2,rfl,hcv⟩:=(HL.out.below R2.out).getm hv
       have hke:=heldTo_succ hv
       have hvd:lv.getD t 0 = v:=by rw [List.getD_eq_getElem?_getD,hv];rfl
       unfold i8V at hcv
       have ht1:(t:Int) < (n:Int):=by omega
       by_cases hv1:v = -1
       · subst hv1
         rw [if_pos rfl,List.append_nil] at hke
         have HKE:=Lib.hid hke
         clear hv hke hvd
         go_wp2
         go_roundg (gk - 1)
         case measure => have:=HT.out;omega
         case rel => exact ⟨t + 1,by have:=HT.out;omega,by go_num,by rw [HKE.out],rfl⟩
       · rw [if_neg hv1] at hke
         obtain ⟨y,hy1,hy2⟩:=HAG.out t hlt (by rw [hvd];exact hv1)
         obtain ⟨K,hK⟩:∃ K,K = (heldTo lv t).length:=⟨_,rfl⟩
         have HKE:Hid ((heldTo lv (t + 1)).length = K + 1):=Lib.hid (by rw [hke,List.length_append,← hK];rfl)
         rw [← hK] at hy1 ⊢
         have hKk:K < k:=by rw [← HAL.out];exact (List.getElem?_eq_some_iff.1 hy1).1
         have hyk:y < k:=by rw [← HOM.out];exact (List.getElem?_eq_some_iff.1 hy2).1
         obtain ⟨g1,p1,rfl,hca⟩:=R1.out.toCells.getm hy1
         obtain ⟨b1,o1,rfl,hcx⟩:=(HO.out.below R2.out).getm hy2
         unfold natV at hca hcx
         have hd:(v == -1) = false:=by simpa using hv1
         have hy0:¬ (y:Int) < 0:=by omega
         have hy3:(0:Int)≤(y:Int):=by omega
         have hy4:(y:Int) < (k:Int):=by omega
         have hy5:¬ (y:Int) ≥ (k:Int):=by omega
         have hK0:(0:Int)≤(K:Int):=by omega
         have hK1:(K:Int) < (k:Int):=by omega
         have hK2:(K:Int)≤1048576:=by omega
         clear hv hke hvd hy1 hy2 hK hv1 hKk hyk
         go_wp2
         go_roundg (gk - 1)
         case measure => have:=HT.out;omega
         case rel => exact ⟨t + 1,by have:=HT.out;omega,by go_num,by rw [HKE.out];go_num,rfl⟩
     · obtain rfl:t = n:=by have:=HT.out;omega
       clear hlt
       go_wp2
       go_ret
       exact ⟨rfl,R2.out⟩
end Go.Proofs.YtjnidopbdjbbgaaGreat
end
