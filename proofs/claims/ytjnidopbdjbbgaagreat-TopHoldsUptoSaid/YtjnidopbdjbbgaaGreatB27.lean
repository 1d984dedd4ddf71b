/-
  The reference: the first strong character, the paragraph's level, what stands for an FSI: they end; walked.
-/
import Derived.Test.YtjnidopbdjbbgaaGreatB26
import Derived.Test.YtjnidopbdjbbgaaGreatB23
import Derived.Test.YtjnidopbdjbbgaaGreatB15
import Derived.Test.YtjnidopbdjbbgaaGreatB09
import Derived.BigQuiet
section
namespace Go.Proofs.YtjnidopbdjbbgaaGreat
open Go.RowKit
set_option linter.unusedVariables false
set_option maxRecDepth 20000
set_option maxHeartbeats 4000000
/-- Where an isolate begins at k, its match lies behind it. -/
theorem jump_at {l:List Nat} {k x:Nat} (hx:l[k]? = some x) (hb:(x == 20 || x == 21 || x == 22) = true):∃ j:Nat,(matchOf l)[k]? = some (j:Int)∧k < j∧j≤l.length:=by
 have h1:l.getD k 0 = x:=by rw [List.getD_eq_getElem?_getD,hx];rfl
 obtain ⟨h2,h3⟩:=match_up2 l k (by rw [h1,contains_begins];exact hb)
 have hk:k < (matchOf l).length:=by rw [matchOf_len];exact (List.getElem?_eq_some_iff.1 hx).1
 obtain ⟨j,hj⟩:=Int.eq_ofNat_of_zero_le (show 0≤(matchOf l).getD k 0 by omega)
 refine ⟨j,?_,by omega,by omega⟩
 rw [← hj,List.getD_eq_getElem?_getD,List.getElem?_eq_getElem hk]
 rfl
def FirstP (n:Nat) (w:World) (e:Ending) (w':World):Prop:=∃ (p:Nat) (b:Bool),e = .returned (.tuple #[.int .i64 p,.bool b,.int .i64 0])∧(b = true→p < n)∧Below w.heap.size w w'
theorem FirstP.mk {n:Nat} {w w':World} {e:Ending} (p:Nat) (b:Bool) (h1:e = .returned (.tuple #[.int .i64 p,.bool b,.int .i64 0])) (h2:b = true→p < n) (h3:Below w.heap.size w w'):FirstP n w e w':=⟨p,b,h1,h2,h3⟩
theorem xfirst_any (w:World) (a:Option Addr) (n c:Nat) (l:List Nat) (hl:l.length = n) (hn:n≤1048576) (hc:Cells w a (l.map u8V)):
 Calls Tryz.prog 85 #[.slice a n c,.agg #[.int .i64 0,.int .i64 n]] w (FirstP n w):=by
 have HMT:=Lib.hid (fun w' hc => rmatch_any w' a c l (by omega) hc)
 rw [hl] at HMT
 have HC:=Lib.hid hc
 have HJ:=Lib.hid (fun (k x:Nat) (hx:l[k]? = some x) hb => jump_at hx hb)
 rw [hl] at HJ
 have HL:=Lib.hid hl
 clear hc hl
 have hnn0:(0:Int)≤(n:Int):=by omega
 have hnn1:(n:Int)≤1048576:=by omega
 go_enter Tryz.func85,Tryz.ntmps85
 go_wp2_with (go_at_call 7;refine (HMT.out _ (HC.out.below ((Below.refl _ _).alloc (Nat.le_refl _) _))).mono ?_;rintro e w1 ⟨g,rfl,hown1,hb1⟩;have HO1:=Lib.hid hown1;have HB1:=Lib.hid (after ((Below.refl _ _).alloc (Nat.le_refl _) _) hb1);have hp1:w1.cell? ⟨w.heap.size,1,none⟩ = some (.int .i64 (n:Int)):=((hb1.cell (p:=⟨w.heap.size,1,none⟩) (by simp)).trans (by rw [World.cell?_alloc_new];rfl));have hp0:w1.cell? ⟨w.heap.size,0,none⟩ = some (.int .i64 0):=((hb1.cell (p:=⟨w.heap.size,0,none⟩) (by simp)).trans (by rw [World.cell?_alloc_new];rfl));clear hown1 hb1)
 have HC1:=Lib.hid (HC.out.below HB1.out)
 go_loopg [8] n (fun r i wr => ∃ k:Nat,w1 = wr∧n≤k + r∧k≤n + 1∧i = .int .i64 k)
 case atStart => exact ⟨0,rfl,by omega,by omega,rfl⟩
 case round =>
  obtain ⟨k,rfl,hk,hkn,rfl⟩:=hrel
  by_cases hlt:k < n
  · have hxl:k < l.length:=by rw [HL.out];exact hlt
    obtain ⟨x,hx⟩:∃ x,l[k]? = some x:=⟨_,List.getElem?_eq_getElem hxl⟩
    obtain ⟨b,off,rfl,hcx⟩:=HC1.out.getm hx
    unfold u8V at hcx
    have hlti:(k:Int) < (n:Int):=by omega
    have hk0:(0:Int)≤(k:Int):=by omega
    have HLT:=Lib.hid hlt
    have HK:=Lib.hid hk
    have HX:=Lib.hid hx
    clear hx hlt hk hkn hxl
    by_cases hs:x = 1∨x = 2∨x = 3
    · rcases hs with rfl | rfl | rfl
      all_goals
       go_wp2
       try rw [Exit.noGoto_ret]
       go_ret3
       exact FirstP.mk k true rfl (fun _ => HLT.out) HB1.out
    · have e1:((x:Int) == 1) = false:=by simp;omega
      have e2:((x:Int) == 2) = false:=by simp;omega
      have e3:((x:Int) == 3) = false:=by simp;omega
      have HBE:=Lib.hid (fun w => rbegins_any w x)
      clear hs
      by_cases hbe:(x == 20 || x == 21 || x == 22) = true
      · rw [hbe] at HBE
        obtain ⟨j,hy,hj1,hj2⟩:=HJ.out k x HX.out hbe
        have hcy:=(HO1.out.getm hy).1
        unfold i64V at hcy
        have HY:=Lib.hid hy
        have HJ1:=Lib.hid hj1
        have hj3:(j:Int)≤1048576:=by omega
        have HJ2:=Lib.hid hj2
        clear hy hbe hj1 hj2
        go_wp2_with (go_at_call 27;refine (HBE.out _).mono ?_;rintro e w2 ⟨rfl,rfl⟩)
        go_roundg (gk - 1)
        case rel => exact ⟨j + 1,rfl,by have:=HK.out;have:=HJ1.out;omega,by have:=HJ2.out;omega,by go_num⟩
        case measure => have:=HK.out;have:=HLT.out;omega
      · have hbf:(x == 20 || x == 21 || x == 22) = false:=by simpa using hbe
        rw [hbf] at HBE
        clear hbe hbf
        go_wp2_with (go_at_call 27;refine (HBE.out _).mono ?_;rintro e w2 ⟨rfl,rfl⟩)
        go_roundg (gk - 1)
        case rel => exact ⟨k + 1,rfl,by have:=HK.out;omega,by have:=HLT.out;omega,by go_num⟩
        case measure => have:=HK.out;have:=HLT.out;omega
  · have hnl:(n:Int)≤(k:Int):=by omega
    have hnl2:¬ (k:Int) < (n:Int):=by omega
    clear hlt hk hkn
    go_wp2
    try rw [Exit.noGoto_ret]
    go_ret3
    exact FirstP.mk 0 false rfl (fun h => (by cases h)) HB1.out
theorem xlev_any (w:World) (a:Option Addr) (n c:Nat) (l:List Nat) (b:Int) (hb:b = -1∨b = 0∨b = 1) (hl:l.length = n) (hn:n≤1048576) (hc:Cells w a (l.map u8V)):
 Calls Tryz.prog 51 #[.slice a n c,.int .i8 b] w fun e w' => ∃ v:Nat,e = .returned (.tuple #[.int .i8 v,.int .i64 0])∧v≤1∧Below w.heap.size w w':=by
 rcases hb with rfl | rfl | rfl
 · have HC:=Lib.hid hc
   have HL:=Lib.hid hl
   clear hc hl
   go_enter Tryz.func51,Tryz.ntmps51
   go_wp2_with fail
   refine (xfirst_any w a n c l HL.out hn HC.out).mono ?_
   rintro e w1 ⟨p,is,rfl,hp,hb1⟩
   cases is with
   | false =>
    have HB1:=Lib.hid hb1
    clear hb1 hp
    go_wp2
    go_ret2
    exact ⟨0,rfl,by omega,HB1.out⟩
   | true =>
    have hpn:=hp rfl
    obtain ⟨x,hx⟩:∃ x,l[p]? = some x:=⟨_,List.getElem?_eq_getElem (by rw [HL.out];exact hpn)⟩
    obtain ⟨bb,oo,rfl,hcx⟩:=(HC.out.below hb1).getm hx
    unfold u8V at hcx
    have hp0:(0:Int)≤(p:Int):=by omega
    have hp1:(p:Int) < (n:Int):=by omega
    have HB1:=Lib.hid hb1
    clear hb1 hp hpn hx
    cases h1:((x:Int) != 1) with
    | true =>
     go_wp2
     go_ret2
     exact ⟨1,rfl,by omega,HB1.out⟩
    | false =>
     go_wp2
     go_ret2
     exact ⟨0,rfl,by omega,HB1.out⟩
 · clear hc hl
   go_enter Tryz.func51,Tryz.ntmps51
   go_wp2
   go_ret2
   exact ⟨0,rfl,by omega,Below.refl _ _⟩
 · clear hc hl
   go_enter Tryz.func51,Tryz.ntmps51
   go_wp2
   go_ret2
   exact ⟨1,rfl,by omega,Below.refl _ _⟩
/-- Where an isolate begins, its match lies behind it. -/
def Jumps (l:List Nat) (D:List Int):Prop:=D.length = l.length∧∀ k x:Nat,l[k]? = some x→(x == 20 || x == 21 || x == 22) = true→∃ j:Nat,D[k]? = some (j:Int)∧k < j∧j≤l.length
theorem xauto_any (w:World) (a ma:Option Addr) (n c mc p:Nat) (l:List Nat) (D:List Int) (hJ:Jumps l D) (hl:l.length = n) (hn:n≤1048576) (hp:p < n) (hc:Cells w a (l.map u8V)) (hm:Cells w ma (D.map i64V)):
 Calls Tryz.prog 88 #[.slice a n c,.slice ma n mc,.int .i64 p] w fun e w' => (∃ v:Nat,e = .returned (.int .i8 v)∧v≤1)∧w = w':=by
 have HC:=Lib.hid hc
 have HJ:=Lib.hid hJ.2
 rw [hl] at HJ
 have HL:=Lib.hid hl
 obtain ⟨mp,hmp⟩:∃ mp,D[p]? = some mp:=⟨_,List.getElem?_eq_getElem (by rw [hJ.1,hl];exact hp)⟩
 obtain ⟨mb,mo,rfl,hcm⟩:=hm.getm hmp
 unfold i64V at hcm
 have HM:=Lib.hid hm
 have hnn1:(n:Int)≤1048576:=by omega
 have hp0:(0:Int)≤(p:Int):=by omega
 have hp1:(p:Int) < (n:Int):=by omega
 have HP:=Lib.hid hp
 clear hc hl hm hmp hp hJ
 go_enter Tryz.func88,Tryz.ntmps88
 go_wp2
 go_loopg [7] (n + 1) (fun r i wr => ∃ k:Nat,w = wr∧n + 1≤k + r∧k≤n + 1∧i = .int .i64 k)
 case atStart => exact ⟨p + 1,rfl,by omega,by have:=HP.out;omega,by go_num⟩
 case round =>
  obtain ⟨k,rfl,hk,hkn,rfl⟩:=hrel
  by_cases hlt:k < n
  · have hxl:k < l.length:=by rw [HL.out];exact hlt
    obtain ⟨x,hx⟩:∃ x,l[k]? = some x:=⟨_,List.getElem?_eq_getElem hxl⟩
    obtain ⟨b,off,rfl,hcx⟩:=HC.out.getm hx
    unfold u8V at hcx
    have hlti:(k:Int) < (n:Int):=by omega
    have hk0:(0:Int)≤(k:Int):=by omega
    have HLT:=Lib.hid hlt
    have HK:=Lib.hid hk
    have HX:=Lib.hid hx
    clear hx hlt hk hkn hxl
    by_cases hkm:(k:Int) < mp
    · by_cases h11:x = 11
      · subst h11
        go_wp2
        try rw [Exit.noGoto_ret]
        go_ret
        exact ⟨⟨0,rfl,by omega⟩,rfl⟩
      have e11:((x:Int) != 11) = true:=by simp;omega
      have e11':((x:Int) == 11) = false:=by simp;omega
      clear h11
      by_cases hs:x = 1∨x = 2∨x = 3
      · rcases hs with rfl | rfl | rfl
        all_goals
         go_wp2
         try rw [Exit.noGoto_ret]
         go_ret
         first | exact ⟨⟨0,rfl,by omega⟩,rfl⟩ | exact ⟨⟨1,rfl,by omega⟩,rfl⟩
      · have e1:((x:Int) == 1) = false:=by simp;omega
        have e2:((x:Int) == 2) = false:=by simp;omega
        have e3:((x:Int) == 3) = false:=by simp;omega
        clear hs
        by_cases hbe:(x == 20 || x == 21 || x == 22) = true
        · obtain ⟨j,hy,hj1,hj2⟩:=HJ.out k x HX.out hbe
          obtain ⟨mb2,mo2,he2,hcy⟩:=HM.out.getm hy
          cases he2
          unfold i64V at hcy
          have HJ1:=Lib.hid hj1
          have hj3:(j:Int)≤1048576:=by omega
          have HJ2:=Lib.hid hj2
          have hx3:x = 20∨x = 21∨x = 22:=by simp at hbe;omega
          clear hy hbe hj1 hj2 HX
          rcases hx3 with rfl | rfl | rfl
          all_goals
           clear e1 e2 e3 e11 e11'
           go_wp2
           go_roundg (gk - 1)
           case rel => exact ⟨j + 1,rfl,by have:=HK.out;have:=HJ1.out;omega,by have:=HJ2.out;omega,by go_num⟩
           case measure => have:=HK.out;have:=HLT.out;omega
        · have hx3:¬ x = 20∧¬ x = 21∧¬ x = 22:=by simp at hbe;omega
          have e20:((x:Int) == 20) = false:=by simp;omega
          have e21:((x:Int) == 21) = false:=by simp;omega
          have e22:((x:Int) == 22) = false:=by simp;omega
          clear hbe hx3
          go_wp2
          go_roundg (gk - 1)
          case rel => exact ⟨k + 1,rfl,by have:=HK.out;omega,by have:=HLT.out;omega,by go_num⟩
          case measure => have:=HK.out;have:=HLT.out;omega
    · go_wp2
      try rw [Exit.noGoto_ret]
      go_ret
      exact ⟨⟨0,rfl,by omega⟩,rfl⟩
  · have hnl:(n:Int)≤(k:Int):=by omega
    have hnl2:¬ (k:Int) < (n:Int):=by omega
    clear hlt hk hkn
    go_wp2
    try rw [Exit.noGoto_ret]
    go_ret
    exact ⟨⟨0,rfl,by omega⟩,rfl⟩
/-- The same, of the first k. -/
def JTo (l:List Nat) (D:List Int) (q:Nat):Prop:=D.length = l.length∧∀ k x:Nat,k < q→l[k]? = some x→(x == 20 || x == 21 || x == 22) = true→∃ j:Nat,D[k]? = some (j:Int)∧k < j∧j≤l.length
theorem JTo.next {l:List Nat} {D:List Int} {q x:Nat} (h:JTo l D q) (hx:l[q]? = some x) (hb:(x == 20 || x == 21 || x == 22) = false):JTo l D (q + 1):=
 ⟨h.1,fun k y hk hy hb2 => by
  rcases Nat.lt_or_ge k q with h1 | h1
  · exact h.2 k y h1 hy hb2
  · obtain rfl:k = q:=by omega
    rw [hx] at hy
    cases hy
    rw [hb] at hb2
    cases hb2⟩
theorem JTo.set {l:List Nat} {D:List Int} {q p v:Nat} (h:JTo l D q) (hpv:p < v) (hv:v≤l.length):JTo l (D.set p (v:Int)) q:=
 ⟨by rw [List.length_set];exact h.1,fun k y hk hy hb2 => by
  obtain ⟨j,h1,h2,h3⟩:=h.2 k y hk hy hb2
  by_cases e:p = k
  · subst e
    have hl:=(List.getElem?_eq_some_iff.1 h1).1
    exact ⟨v,by rw [List.getElem?_set_self hl],hpv,hv⟩
  · exact ⟨j,by rw [List.getElem?_set_ne e];exact h1,h2,h3⟩⟩
theorem JTo.any {l:List Nat} {D:List Int} {q:Nat} {v:Int} (h:JTo l D q):JTo l (D.set q v) q:=
 ⟨by rw [List.length_set];exact h.1,fun k y hk hy hb2 => by
  obtain ⟨j,h1,h2,h3⟩:=h.2 k y hk hy hb2
  exact ⟨j,by rw [List.getElem?_set_ne (by omega)];exact h1,h2,h3⟩⟩
theorem JTo.begin {l:List Nat} {D:List Int} {q:Nat} (h:JTo l D q) (hq:q < l.length):JTo l (D.set q (l.length:Int)) (q + 1):=
 ⟨by rw [List.length_set];exact h.1,fun k y hk hy hb2 => by
  rcases Nat.lt_or_ge k q with h1 | h1
  · exact (h.any (v:=(l.length:Int))).2 k y h1 hy hb2
  · obtain rfl:k = q:=by omega
    exact ⟨l.length,by rw [List.getElem?_set_self (by rw [h.1];exact hq)],hq,Nat.le_refl _⟩⟩
theorem xmatch_any (w:World) (a:Option Addr) (n c:Nat) (l:List Nat) (hl:l.length = n) (hn:n≤1048576) (hc:Cells w a (l.map u8V)):
 Calls Tryz.prog 87 #[.slice a n c] w fun e w' => ∃ b d,e = .returned (.slice b n d)∧∃ D:List Int,Jumps l D∧Own w' w.heap.size 1 b n d (D.map i64V)∧Below w.heap.size w w':=by
 obtain ⟨i0,hi,hz0,hz1,hz2⟩:=info_parts info3
 have HC:=Lib.hid hc
 have HL:=Lib.hid hl
 have hnn:(n:Int)≤1048576:=by omega
 clear hc hl
 go_enter Tryz.func87,Tryz.ntmps87
 go_wp2
 go_loopg [3,4] n (fun r v i wr => ∃ (k c:Nat) (a:Option Addr),k + r = n∧i = .int .i64 k∧v = .slice a k c∧Own wr w.heap.size 1 a k c ((List.replicate k (-1:Int)).map i64V)∧Below w.heap.size w wr)
 case atStart => exact ⟨0,0,none,by omega,rfl,rfl,Own.nil _ _ _,Below.refl _ _⟩
 case round =>
  obtain ⟨k,c4,a4,hk,rfl,rfl,hown,hb⟩:=hrel
  obtain ⟨V,rfl⟩:∃ V:World,V = wr:=⟨_,rfl⟩
  have HO:=Lib.hid hown
  have HB:=Lib.hid hb
  have HK:=Lib.hid hk
  have hk0:(0:Int)≤(k:Int):=by omega
  by_cases hlt:k < n
  · have hk1:(k:Int) < (n:Int):=by omega
    have hkl:k≤1048576:=by omega
    clear hown hb hk
    go_wp2_with (at_builtin;refine wpList_push rfl _ _ 33 rfl 3 i0 (.int .i64 0) 8 Tryz.underlying33 hi hz0 hz1 hz2 rfl rfl w.heap.size a4 k c4 _ rfl _ _ rfl HO.out _ rfl rfl rfl (by omega) (by decide) HB.out.size ?_;intro a5 c5 w5 hown5 hap5 hb5;have HO5:=Lib.hid hown5;have HB5:=Lib.hid hb5;clear hown5 hap5 hb5)
    go_roundg (gk - 1)
    case measure => have:=HK.out;omega
    case rel => exact ⟨k + 1,c5,a5,by have:=HK.out;omega,by go_num,rfl,HO5.out.eqL (by rw [List.replicate_succ',List.map_append];rfl),HB.out.trans HB5.out⟩
  · obtain rfl:k = n:=by omega
    clear hown hb hk hlt
    go_wp2
    go_loopg [5,6] k (fun r v i wr => ∃ (q m pc:Nat) (pa:Option Addr) (P:List Nat) (D:List Int),q + r = k∧i = .int .i64 q∧v = .slice pa m pc∧P.length = m∧m≤q∧(∀ p∈P,p < q)∧JTo l D q∧Own wr w.heap.size 1 a4 k c4 (D.map i64V)∧Own wr w.heap.size 1 pa m pc (P.map natV)∧(∀ g,a4 = some ⟨g,0,none⟩→blockOf pa≠some g)∧Below w.heap.size w wr)
    case atStart => exact ⟨0,0,0,none,[],List.replicate k (-1),by omega,rfl,rfl,rfl,Nat.le_refl _,by simp,⟨by simp [HL.out],fun j x hj => by omega⟩,HO.out,Own.nil _ _ _,by simp [blockOf],HB.out⟩
    case round =>
     obtain ⟨q,m,pc,pa,P,D,hq,rfl,rfl,hm,hmq,hP,hJ,hown,hpi,hap,hb⟩:=hrel
     have HQ:=Lib.hid hq
     have HM:=Lib.hid hm
     have HP:=Lib.hid hP
     have HJ:=Lib.hid hJ
     have HO:=Lib.hid hown
     have HPI:=Lib.hid hpi
     have HAP:=Lib.hid hap
     have HB:=Lib.hid hb
     have hq0:(0:Int)≤(q:Int):=by omega
     by_cases hlt:q < k
     · obtain ⟨g,rfl⟩:=hown.pos (by omega)
       have hq1:(q:Int) < (k:Int):=by omega
       have hpc:(m:Int)≤(pc:Int):=by have:=hpi.le;omega
       have hm2:m≤1048576:=by omega
       have HLT:=Lib.hid hlt
       have hxl:q < l.length:=by rw [HL.out];exact hlt
       obtain ⟨x,hx⟩:∃ x,l[q]? = some x:=⟨_,List.getElem?_eq_getElem hxl⟩
       obtain ⟨b,off,rfl,hcx⟩:=(HC.out.below hb).getm hx
       unfold u8V at hcx
       obtain ⟨y,hy⟩:∃ y,D[q]? = some y:=⟨_,List.getElem?_eq_getElem (by rw [hJ.1];exact hxl)⟩
       obtain ⟨hcy,hfy⟩:=hown.getm hy
       unfold i64V at hcy
       have HX:=Lib.hid hx
       have hgw:=hown.lt.2
       have hpg:=hap g rfl
       have HPG:=Lib.hid hpg
       have HGW:=Lib.hid hgw
       clear hx hy hq hm hP hJ hown hpi hap hb hlt hxl hpg hgw
       by_cases hbe:(x == 20 || x == 21 || x == 22) = true
       · have hx3:x = 20∨x = 21∨x = 22:=by simp at hbe;omega
         clear hbe
         have hfin:Hid (∀ (W4:World) (a5:Option Addr) (c5:Nat),Own W4 w.heap.size 1 a5 (m + 1) c5 (P.map natV ++ [natV q])→Own W4 w.heap.size 1 (some ⟨g,0,none⟩) k c4 (D.map i64V)→blockOf a5≠some g→Below w.heap.size w W4→∃ (q' m' pc':Nat) (pa':Option Addr) (P':List Nat) (D':List Int),q' + (gk - 1) = k∧Value.int .i64 ((q:Int) + 1) = .int .i64 q'∧Value.slice a5 (m + 1:Nat) c5 = .slice pa' m' pc'∧P'.length = m'∧m'≤q'∧(∀ p∈P',p < q')∧JTo l D' q'∧Own (W4.setCell ⟨g,q,none⟩ (.int .i64 k)) w.heap.size 1 (some ⟨g,0,none⟩) k c4 (D'.map i64V)∧Own (W4.setCell ⟨g,q,none⟩ (.int .i64 k)) w.heap.size 1 pa' m' pc' (P'.map natV)∧(∀ g',some ⟨g,0,none⟩ = some (⟨g',0,none⟩:Addr)→blockOf pa'≠some g')∧Below w.heap.size w (W4.setCell ⟨g,q,none⟩ (.int .i64 k))):=Lib.hid (fun W4 a5 c5 h1 h2 h3 h4 => by
          refine ⟨q + 1,m + 1,c5,a5,P ++ [q],D.set q (k:Int),by have:=HQ.out;have:=HLT.out;omega,by go_num,rfl,by simp [HM.out],by omega,fun p hp => ?_,?_,?_,?_,fun g' hg => by cases hg;exact h3,h2.storeBelow h4 q _⟩
          · rcases List.mem_append.1 hp with h | h
            · have:=HP.out p h;omega
            · simp at h;omega
          · have:=HJ.out.begin (by rw [HL.out];exact HLT.out)
            rw [HL.out] at this
            exact this
          · exact (h2.stored q HLT.out (i64V k)).eqL (by rw [List.map_set])
          · exact (h1.stored_other ⟨g,q,none⟩ _ (fun g2 hg e => h3 (by rw [hg];show some g2 = some g;rw [show g2 = g from e]))).eqL (by simp))
         rcases hx3 with rfl | rfl | rfl
         all_goals
          go_wp2_with (at_builtin;refine wpList_push rfl _ _ 33 rfl 3 i0 (.int .i64 0) 8 Tryz.underlying33 hi hz0 hz1 hz2 rfl rfl w.heap.size pa m pc _ rfl _ _ rfl HPI.out _ rfl rfl rfl (by omega) (by decide) HB.out.size ?_;intro a5 c5 w5 hown5 hap5 hb5;have HO5:=Lib.hid hown5;have HB5:=Lib.hid (HB.out.trans hb5);have HW5:=Lib.hid ((hap5.other (HO.out.alloc _) (.inr (fun e => HPG.out e.symm))));obtain ⟨hc5,hf5⟩:=HW5.out.getm (k:=q) (x:=D.getD q 0) (by rw [List.getD_eq_getElem?_getD,List.getElem?_eq_getElem (by rw [HJ.out.1,HL.out];exact HLT.out)];rfl);unfold i64V at hc5;have HA5:=Lib.hid (hap5.apart HPG.out (by have:=HGW.out;simp;omega));clear hown5 hap5 hb5)
          go_roundg (gk - 1)
          case measure => have:=HQ.out;have:=HLT.out;omega
          case rel => exact hfin.out _ _ _ HO5.out HW5.out HA5.out HB5.out
       · have hbf:(x == 20 || x == 21 || x == 22) = false:=by simpa using hbe
         have hx3:¬ x = 20∧¬ x = 21∧¬ x = 22:=by simp at hbe;omega
         have HBF:=Lib.hid hbf
         have e20:((x:Int) == 20) = false:=by simp;omega
         have e21:((x:Int) == 21) = false:=by simp;omega
         have e22:((x:Int) == 22) = false:=by simp;omega
         clear hbe hbf hx3
         by_cases h23:x = 23
         · subst h23
           clear e20 e21 e22
           cases m with
           | zero =>
            have hpz:¬ ((0:Nat):Int) > 0:=by simp
            go_wp2
            go_roundg (gk - 1)
            case measure => have:=HQ.out;have:=HLT.out;omega
            case rel => exact ⟨q + 1,0,pc,pa,P,D,by have:=HQ.out;have:=HLT.out;omega,by go_num,rfl,HM.out,by omega,fun p hp => by have:=HP.out p hp;omega,HJ.out.next HX.out HBF.out,HO.out,HPI.out,HAP.out,HB.out⟩
           | succ m =>
            obtain ⟨Q,p,hQp⟩:∃ (Q:List Nat) (p:Nat),P = Q ++ [p]:=by
             rcases List.eq_nil_or_concat P with h | ⟨Q,p,h⟩
             · have:=HM.out;rw [h] at this;simp at this
             · exact ⟨Q,p,by rw [h,List.concat_eq_append]⟩
            subst hQp
            have hQl:Q.length = m:=by have:=HM.out;simp at this;exact this
            have hpq:=HP.out p (by simp)
            obtain ⟨g2,rfl⟩:=HPI.out.pos (by omega)
            have hg2:g2≠g:=fun e => HPG.out (by rw [e];rfl)
            obtain ⟨hct,_⟩:=HPI.out.getm (k:=m) (x:=p) (by rw [← hQl,List.getElem?_append_right (Nat.le_refl _),Nat.sub_self];rfl)
            unfold natV at hct
            obtain ⟨y2,hy2⟩:∃ y,D[p]? = some y:=⟨_,List.getElem?_eq_getElem (by rw [HJ.out.1,HL.out];have:=HLT.out;omega)⟩
            obtain ⟨hcp,hfp⟩:=HO.out.getm hy2
            unfold i64V at hcp
            have hpk:p≠q:=by omega
            have hpn:(p:Int) < (k:Int):=by omega
            have hpn0:(0:Int)≤(p:Int):=by omega
            have hpz:(0:Int) < ((m + 1:Nat):Int):=by omega
            have hpa:(m:Int)≤1048576:=by omega
            have hpb:(m:Int) < (m:Int) + 1:=by omega
            have hpe:(0:Int)≤(m:Int):=by omega
            have hpf:(m:Int)≤(pc:Int):=by omega
            have hwr:=IntWalk.i64_in (m:Int) (by omega)
            have HQL:=Lib.hid hQl
            have HPQ:=Lib.hid hpq
            have HG2:=Lib.hid hg2
            have HY2:=Lib.hid hy2
            clear hQl hpq hg2 hy2
            go_wp2
            go_roundg (gk - 1)
            case measure => have:=HQ.out;have:=HLT.out;omega
            case rel =>
             have o1:=(HO.out.stored p (by have:=HPQ.out;have:=HLT.out;omega) (i64V q)).stored q HLT.out (i64V p)
             have p1:=((HPI.out.prefix m (by omega)).stored_other ⟨g,p,none⟩ (i64V q) (fun g3 hg e => HG2.out (by cases hg;exact e))).stored_other ⟨g,q,none⟩ (i64V p) (fun g3 hg e => HG2.out (by cases hg;exact e))
             refine ⟨q + 1,m,pc,some ⟨g2,0,none⟩,Q,(D.set p (q:Int)).set q (p:Int),by have:=HQ.out;have:=HLT.out;omega,by go_num,rfl,HQL.out,by have:=HM.out;omega,fun p' hp => by have:=HP.out p' (by simp [hp]);omega,?_,o1.eqL (by rw [List.map_set,List.map_set]),p1.eqL (by rw [← HQL.out];simp),fun g' hg => by cases hg;exact fun e => HG2.out (by simpa [blockOf] using e),?_⟩
             · exact ((HJ.out.set HPQ.out (by rw [HL.out];exact Nat.le_of_lt HLT.out)).any).next HX.out HBF.out
             · exact (HO.out.stored p (by have:=HPQ.out;have:=HLT.out;omega) (i64V q)).storeBelow (HO.out.storeBelow HB.out p _) q (i64V p)
         · have e23:((x:Int) == 23) = false:=by simp;omega
           by_cases h11:x = 11
           · subst h11
             clear e20 e21 e22 e23
             go_wp2
             go_roundg (gk - 1)
             case measure => have:=HQ.out;have:=HLT.out;omega
             case rel => exact ⟨q + 1,0,0,none,[],D,by have:=HQ.out;have:=HLT.out;omega,by go_num,rfl,rfl,by omega,by simp,HJ.out.next HX.out HBF.out,HO.out,Own.nil _ _ _,by simp [blockOf],HB.out⟩
           · have e11:((x:Int) == 11) = false:=by simp;omega
             clear h11 h23
             go_wp2
             go_roundg (gk - 1)
             case measure => have:=HQ.out;have:=HLT.out;omega
             case rel => exact ⟨q + 1,m,pc,pa,P,D,by have:=HQ.out;have:=HLT.out;omega,by go_num,rfl,HM.out,by omega,fun p hp => by have:=HP.out p hp;omega,HJ.out.next HX.out HBF.out,HO.out,HPI.out,HAP.out,HB.out⟩
     · obtain rfl:q = k:=by omega
       have HJF:Hid (Jumps l D):=Lib.hid ⟨hJ.1,fun j x hx hb => hJ.2 j x (by have:=(List.getElem?_eq_some_iff.1 hx).1;rw [HL.out] at this;exact this) hx hb⟩
       clear hq hm hP hJ hown hpi hap hb hlt
       go_wp2
       go_ret
       exact ⟨_,_,rfl,D,HJF.out,HO.out,HB.out⟩
end Go.Proofs.YtjnidopbdjbbgaaGreat
end
/-
  What the reference's Explicit holds from round to round. No walk.
-/
section
namespace Go.Proofs.YtjnidopbdjbbgaaGreat
open Go.RowKit
set_option linter.unusedVariables false
theorem own_at {w:World} {B size n c g:Nat} {a:Option Addr} {xs:List Value} (h:Own w B size a n c xs) (hg:blockOf a = some g):a = some ⟨g,0,none⟩∧B≤g∧g < w.heap.size:=by
 rcases h.row with ⟨h0,_⟩ | ⟨g',ha,h1,h2,_⟩
 · rw [h0] at hg;cases hg
 · rw [ha] at hg
   simp [blockOf] at hg
   subst hg
   exact ⟨ha,h1,h2⟩
theorem own_not {w:World} {B size n c:Nat} {a:Option Addr} {xs:List Value} (h:Own w B size a n c xs) {k:Nat} (hk:blockOf a≠some k):∀ g,a = some ⟨g,0,none⟩→g≠k:=fun g hg e => hk (by rw [hg,e];rfl)
theorem own_st {w:World} {B size n c:Nat} {a:Option Addr} {xs:List Value} (h:Own w B size a n c xs) (k:Nat) (hk:blockOf a≠some k) (j:Nat) (v:Value):Own (w.setCell ⟨k,j,none⟩ v) B size a n c xs:=h.stored_other ⟨k,j,none⟩ v (own_not h hk)
theorem Apped.keeps {w w':World} {a a':Option Addr} {B size:Nat} {b:Option Addr} {n c:Nat} {xs:List Value} (h:Apped w w' a a') (ho:Own w B size b n c xs) (hne:∀ g,blockOf b = some g→blockOf a≠some g):Own w' B size b n c xs:=by
 refine h.other ho ?_
 cases hb:blockOf b with
 | none =>
  left
  cases b with
  | none => rfl
  | some ad => cases hb
 | some g => exact .inr fun e => hne g hb e.symm
structure XI (w wr:World) (N N6 N8 base n ql qk:Nat) (D:List Int) (s:St) (pa la ka ma:Option Addr) (pc lc kc mc:Nat) (lv:List Int) (ks:List Nat):Prop where
 b4:wr.heap[N]? = some (.cells #[.slice none 0 0,.slice none 0 0,.slice none 0 0] 84)
 b6:wr.heap[N6]? = some (.cells #[.int .i8 base,.slice pa s.l.length pc,.int .i64 s.isos,.int .i64 s.embs,.int .i64 s.valid] 155)
 b8:wr.heap[N8]? = some (.cells #[.slice la ql lc,.slice ka qk kc,.slice ma n mc] 84)
 st:Own wr N 3 pa s.l.length pc (entsV s.l)
 lo:Own wr (N8 + 1) 1 la ql lc (lv.map i8V)
 ko:Own wr (N8 + 1) 1 ka qk kc (ks.map u8V)
 mo:Own wr N 1 ma n mc (D.map i64V)
 o46:N < N6
 o68:N6 < N8
 o8:N8 < wr.heap.size
 ps:∀ g,blockOf pa = some g→g≠N∧g≠N6∧g≠N8∧blockOf la≠some g∧blockOf ka≠some g
 ms:∀ g,blockOf ma = some g→g < N8∧g≠N∧g≠N6
 lk:∀ g,blockOf la = some g→blockOf ka≠some g
 below:Below N w wr
 hN:N = w.heap.size
 ok:Ok base s
variable {w wr w5 W1:World} {N N6 N8 base n ql qk:Nat} {D:List Int} {s t:St} {pa la ka ma qa:Option Addr} {pc lc kc mc qc:Nat} {lv:List Int} {ks:List Nat}
theorem XI.after (h:XI w wr N N6 N8 base n ql qk D s pa la ka ma pc lc kc mc lv ks) (hb:Below wr.heap.size wr w5):XI w w5 N N6 N8 base n ql qk D s pa la ka ma pc lc kc mc lv ks:=by
 have h1:=h.o46
 have h2:=h.o68
 have h3:=h.o8
 have hs:=hb.size
 exact ⟨(hb.block N (by omega)).trans h.b4,(hb.block N6 (by omega)).trans h.b6,(hb.block N8 (by omega)).trans h.b8,h.st.below hb,h.lo.below hb,h.ko.below hb,h.mo.below hb,h1,h2,by omega,h.ps,h.ms,h.lk,h.below.trans (hb.mono (by omega)),h.hN,h.ok⟩
theorem XI.fresh (h:XI w wr N N6 N8 base n ql qk D s pa la ka ma pc lc kc mc lv ks) {xs:List Value} {m B:Nat} (ho:Own w5 B 3 qa m qc xs) (hq:∀ g,qa = some ⟨g,0,none⟩→pa = some ⟨g,0,none⟩∨wr.heap.size≤g):
 ∀ g,blockOf qa = some g→g≠N∧g≠N6∧g≠N8∧blockOf la≠some g∧blockOf ka≠some g:=fun g hg => by
 rcases hq g (own_at ho hg).1 with h1 | h1
 · exact h.ps g (by rw [h1];rfl)
 · have h2:=h.o46
   have h3:=h.o68
   have h4:=h.o8
   exact ⟨by omega,by omega,by omega,fun e => by have:=(own_at h.lo e).2.2;omega,fun e => by have:=(own_at h.ko e).2.2;omega⟩
theorem own_five {size m c M:Nat} {B:Nat} {a:Option Addr} {xs:List Value} (h:Own w B size a m c xs) (hne:blockOf a≠some M) (x0 x1 x2 x3 x4:Value):Own (((((w.setCell ⟨M,0,none⟩ x0).setCell ⟨M,1,none⟩ x1).setCell ⟨M,2,none⟩ x2).setCell ⟨M,3,none⟩ x3).setCell ⟨M,4,none⟩ x4) B size a m c xs:=
 have hn:=own_not h hne
 ((((h.stored_other ⟨M,0,none⟩ _ hn).stored_other ⟨M,1,none⟩ _ hn).stored_other ⟨M,2,none⟩ _ hn).stored_other ⟨M,3,none⟩ _ hn).stored_other ⟨M,4,none⟩ _ hn
theorem heap_five {o:Obj} {K M:Nat} (h:w.heap[K]? = some o) (hne:K≠M) (x0 x1 x2 x3 x4:Value):(((((w.setCell ⟨M,0,none⟩ x0).setCell ⟨M,1,none⟩ x1).setCell ⟨M,2,none⟩ x2).setCell ⟨M,3,none⟩ x3).setCell ⟨M,4,none⟩ x4).heap[K]? = some o:=
 heap_other (heap_other (heap_other (heap_other (heap_other h hne _) hne _) hne _) hne _) hne _
theorem XI.stack (h:XI w wr N N6 N8 base n ql qk D s pa la ka ma pc lc kc mc lv ks) (ho:Own wr N 3 qa t.l.length qc (entsV t.l)) (hf:∀ g,blockOf qa = some g→g≠N∧g≠N6∧g≠N8∧blockOf la≠some g∧blockOf ka≠some g) (hok:Ok base t):
 XI w (((((wr.setCell ⟨N6,0,none⟩ (.int .i8 base)).setCell ⟨N6,1,none⟩ (.slice qa t.l.length qc)).setCell ⟨N6,2,none⟩ (.int .i64 t.isos)).setCell ⟨N6,3,none⟩ (.int .i64 t.embs)).setCell ⟨N6,4,none⟩ (.int .i64 t.valid)) N N6 N8 base n ql qk D t qa la ka ma qc lc kc mc lv ks:=by
 have h1:=h.o46
 have h2:=h.o68
 have h3:=h.o8
 refine ⟨heap_five h.b4 (by omega) _ _ _ _ _,set_all5 h.b6 _ _ _ _ _,heap_five h.b8 (by omega) _ _ _ _ _,own_five ho (fun e => (hf _ e).2.1 rfl) _ _ _ _ _,own_five h.lo (fun e => by have:=(own_at h.lo e).2.1;omega) _ _ _ _ _,own_five h.ko (fun e => by have:=(own_at h.ko e).2.1;omega) _ _ _ _ _,own_five h.mo (fun e => (h.ms _ e).2.2 rfl) _ _ _ _ _,h1,h2,by simpa using h3,hf,h.ms,h.lk,below_set5 h.below (by omega) _ _ _ _ _,h.hN,hok⟩
theorem XI.pushL (h:XI w wr N N6 N8 base n ql qk D s pa la ka ma pc lc kc mc lv ks) {o:Obj} {la':Option Addr} {lc':Nat} {v:Int} (h1:Own W1 (N8 + 1) 1 la' (ql + 1) lc' (lv.map i8V ++ [i8V v])) (h2:Apped (wr.alloc o) W1 la la') (h3:Below (N8 + 1) wr W1):
 XI w (W1.setCell ⟨N8,0,none⟩ (.slice la' (ql + 1:Nat) lc')) N N6 N8 base n (ql + 1) qk D s pa la' ka ma pc lc' kc mc (lv ++ [v]) ks:=by
 have e1:=h.o46
 have e2:=h.o68
 have e3:=h.o8
 have hs:=h3.size
 have hla:∀ g,blockOf la' = some g→(∀ g',blockOf la = some g'→g'≠g)→wr.heap.size < g∨wr.heap.size + 1≤g:=fun g hg hn => by
  rcases h2.place with hp | ⟨g2,hg2,hge⟩
  · exact absurd rfl (hn g (by rw [← hp];exact hg))
  · rw [hg] at hg2;cases hg2;simp at hge;omega
 have old:∀ g,g < wr.heap.size→blockOf la≠some g→blockOf la'≠some g:=fun g hlt hn e => by
  have:=hla g e (fun g' hg' e2 => hn (by rw [hg',e2]));omega
 have hst:=h2.keeps (h.st.alloc o) (fun g hg => (h.ps g hg).2.2.2.1)
 have hko:=h2.keeps (h.ko.alloc o) (fun g hg e => h.lk g e hg)
 have hmo:Own W1 N 1 ma n mc (D.map i64V):=h.mo.same hs fun g hg => h3.block g (by have:=(h.ms g (by rw [hg];rfl)).1;omega)
 have c1:∀ g,blockOf pa = some g→blockOf la'≠some g:=fun g hg => old g (own_at h.st hg).2.2 (h.ps g hg).2.2.2.1
 have c2:∀ g,blockOf ka = some g→blockOf la'≠some g:=fun g hg => old g (own_at h.ko hg).2.2 (fun e => h.lk g e hg)
 refine ⟨heap_other ((h3.block N (by omega)).trans h.b4) (by omega) _,heap_other ((h3.block N6 (by omega)).trans h.b6) (by omega) _,heap_set ((h3.block N8 (by omega)).trans h.b8) _,own_st hst N8 (fun e => (h.ps _ e).2.2.1 rfl) _ _,?_,own_st hko N8 (fun e => by have:=(own_at h.ko e).2.1;omega) _ _,own_st hmo N8 (fun e => by have:=(h.ms _ e).1;omega) _ _,e1,e2,by simp;omega,fun g hg => ⟨(h.ps g hg).1,(h.ps g hg).2.1,(h.ps g hg).2.2.1,c1 g hg,(h.ps g hg).2.2.2.2⟩,h.ms,fun g hg e => c2 g e hg,?_,h.hN,h.ok⟩
 · exact (own_st h1 N8 (fun e => by have:=(own_at h1 e).2.1;omega) _ _).eqL (by rw [List.map_append];rfl)
 · exact (h.below.trans (h3.mono (by omega))).setCell (p:=⟨N8,0,none⟩) (by show N≤N8;omega) _
theorem XI.pushK (h:XI w wr N N6 N8 base n ql qk D s pa la ka ma pc lc kc mc lv ks) {o:Obj} {ka':Option Addr} {kc':Nat} {v:Nat} (h1:Own W1 (N8 + 1) 1 ka' (qk + 1) kc' (ks.map u8V ++ [u8V v])) (h2:Apped (wr.alloc o) W1 ka ka') (h3:Below (N8 + 1) wr W1):
 XI w (W1.setCell ⟨N8,1,none⟩ (.slice ka' (qk + 1:Nat) kc')) N N6 N8 base n ql (qk + 1) D s pa la ka' ma pc lc kc' mc lv (ks ++ [v]):=by
 have e1:=h.o46
 have e2:=h.o68
 have e3:=h.o8
 have hs:=h3.size
 have old:∀ g,g < wr.heap.size→blockOf ka≠some g→blockOf ka'≠some g:=fun g hlt hn e => by
  rcases h2.place with hp | ⟨g2,hg2,hge⟩
  · rw [hp] at e;exact hn e
  · rw [e] at hg2;cases hg2;simp at hge;omega
 have hst:=h2.keeps (h.st.alloc o) (fun g hg => (h.ps g hg).2.2.2.2)
 have hlo:=h2.keeps (h.lo.alloc o) (fun g hg e => h.lk g hg e)
 have hmo:Own W1 N 1 ma n mc (D.map i64V):=h.mo.same hs fun g hg => h3.block g (by have:=(h.ms g (by rw [hg];rfl)).1;omega)
 have c1:∀ g,blockOf pa = some g→blockOf ka'≠some g:=fun g hg => old g (own_at h.st hg).2.2 (h.ps g hg).2.2.2.2
 have c2:∀ g,blockOf la = some g→blockOf ka'≠some g:=fun g hg => old g (own_at h.lo hg).2.2 (fun e => h.lk g hg e)
 refine ⟨heap_other ((h3.block N (by omega)).trans h.b4) (by omega) _,heap_other ((h3.block N6 (by omega)).trans h.b6) (by omega) _,heap_set ((h3.block N8 (by omega)).trans h.b8) _,own_st hst N8 (fun e => (h.ps _ e).2.2.1 rfl) _ _,own_st hlo N8 (fun e => by have:=(own_at h.lo e).2.1;omega) _ _,?_,own_st hmo N8 (fun e => by have:=(h.ms _ e).1;omega) _ _,e1,e2,by simp;omega,fun g hg => ⟨(h.ps g hg).1,(h.ps g hg).2.1,(h.ps g hg).2.2.1,(h.ps g hg).2.2.2.1,c1 g hg⟩,h.ms,c2,?_,h.hN,h.ok⟩
 · exact (own_st h1 N8 (fun e => by have:=(own_at h1 e).2.1;omega) _ _).eqL (by rw [List.map_append];rfl)
 · exact (h.below.trans (h3.mono (by omega))).setCell (p:=⟨N8,1,none⟩) (by show N≤N8;omega) _
theorem res52 {B:Nat} (x0 x1 x2:Value) (e:Int):∀ (tmps:Array Value) (W':World),W'.heap[B]? = some (.cells #[x0,x1,x2] 84)→tmps.getD 4 undef = .pointer (some ⟨B,0,none⟩)→tmps.getD 5 undef = .int .i64 e→(results Tryz.f52 tmps).run Tryz.prog W' = .ok (.tuple #[.agg #[x0,x1,x2],.int .i64 e]) W':=by
 intro tmps W' h1 h2 h3
 rw [results_cell_tmp rfl]
 have hlv:=run_loadVar_row (P:=Tryz.prog) _ B 84 84 _ _ _ h1 Tryz.underlying84 rfl (by kernel_rfl)
 rw [h2,h3]
 simp [asAddr,hlv]
end Go.Proofs.YtjnidopbdjbbgaaGreat
end
/-
  The reference's runs: what is held of them. No walk.
-/
section
namespace Go.Proofs.YtjnidopbdjbbgaaGreat
open Go.RowKit
set_option linter.unusedVariables false
/-- A run of the reference, and where its places lie. -/
structure XR where
 pa:Option Addr
 pc:Nat
 ps:List Nat
 lv:Int
def XR.cells (r:XR):List Value:=[.slice r.pa r.ps.length r.pc,.int .i8 r.lv]
def xrV (R:List XR):List Value:=R.flatMap XR.cells
theorem xrV_len (R:List XR):(xrV R).length = R.length * 2:=by
 induction R with
 | nil => rfl
 | cons r R ih => simp only [xrV,List.flatMap_cons,List.length_append,List.length_cons] at ih ⊢;rw [ih];simp [XR.cells];omega
theorem xrV_snoc (R:List XR) (r:XR):xrV (R ++ [r]) = xrV R ++ r.cells:=by simp [xrV]
theorem xrV_at (R:List XR):∀ (k:Nat) (r:XR),R[k]? = some r→(xrV R)[k * 2]? = some (.slice r.pa r.ps.length r.pc)∧(xrV R)[k * 2 + 1]? = some (.int .i8 r.lv):=by
 induction R with
 | nil => intro k r h;simp at h
 | cons x R ih =>
  intro k r h
  have e:xrV (x :: R) = x.cells ++ xrV R:=rfl
  cases k with
  | zero => simp at h;subst h;rw [e];exact ⟨rfl,rfl⟩
  | succ k =>
   simp at h
   obtain ⟨h1,h2⟩:=ih k r h
   rw [e]
   have e1:(k + 1) * 2 = x.cells.length + k * 2:=by simp [XR.cells];omega
   refine ⟨?_,?_⟩
   · rw [e1,List.getElem?_append_right (by omega),Nat.add_sub_cancel_left];exact h1
   · rw [show (k + 1) * 2 + 1 = x.cells.length + (k * 2 + 1) by omega,List.getElem?_append_right (by omega),Nat.add_sub_cancel_left];exact h2
theorem xrV_set (Q:List XR) (r:XR) (v:Value):(xrV (Q ++ [r])).set (Q.length * 2) v = xrV Q ++ [v,.int .i8 r.lv]:=by
 rw [xrV_snoc,List.set_append_right _ _ (by rw [xrV_len];exact Nat.le_refl _),xrV_len,Nat.sub_self]
 rfl
/-- A store into a slice whose elements have several cells. -/
theorem Own.put {w:World} {B size g n c:Nat} {xs:List Value} (h:Own w B size (some ⟨g,0,none⟩) n c xs) (i:Nat) (hi:i < n * size) (v:Value):
 Own (w.setCell ⟨g,i,none⟩ v) B size (some ⟨g,0,none⟩) n c (xs.set i v):=by
 refine ⟨by simpa using h.len,h.le,h.ml,?_⟩
 rcases h.row with ⟨h0,_⟩ | ⟨g',ha,h1,h2,h3,h4⟩
 · cases h0
 · simp at ha
   subst ha
   have hle:=Nat.lt_of_lt_of_le hi (Nat.mul_le_mul_right size h.le)
   refine .inr ⟨g,rfl,h1,by simpa using h2,fun j u hu => ?_,fun j hj => ?_⟩
   · by_cases hij:i = j
     · subst hij
       obtain ⟨u',hu'⟩:=Option.isSome_iff_exists.1 (h4 i hle).1
       rw [World.cell?_setCell_same _ _ _ hu']
       rw [List.getElem?_set_self' ] at hu
       cases hx:xs[i]? with
       | none => simp [hx] at hu
       | some y => simp [hx] at hu;rw [hu]
     · rw [World.cell?_setCell_other _ _ _ _ (fun e => hij (by simpa using congrArg Addr.off e))]
       rw [List.getElem?_set_ne (by omega)] at hu
       exact h3 j u hu
   · rw [World.frozen?_setCell]
     refine ⟨?_,(h4 j hj).2⟩
     by_cases hij:i = j
     · subst hij
       obtain ⟨u',hu'⟩:=Option.isSome_iff_exists.1 (h4 i hj).1
       rw [World.cell?_setCell_same _ _ _ hu']
       rfl
     · rw [World.cell?_setCell_other _ _ _ _ (fun e => hij (by simpa using congrArg Addr.off e))]
       exact (h4 j hj).1
/-- What lies in such a slice. -/
theorem Own.look {w:World} {B size g n c:Nat} {xs:List Value} (h:Own w B size (some ⟨g,0,none⟩) n c xs) {k:Nat} {u:Value} (hu:xs[k]? = some u):w.cell? ⟨g,k,none⟩ = some u∧w.frozen? ⟨g,k,none⟩ = false:=by
 rcases h.row with ⟨h0,_⟩ | ⟨g',ha,h1,h2,h3,h4⟩
 · cases h0
 · cases ha
   have hk:=(List.getElem?_eq_some_iff.1 hu).1
   rw [h.len] at hk
   exact ⟨h3 k u hu,(h4 k (Nat.lt_of_lt_of_le hk (Nat.mul_le_mul_right size h.le))).2⟩
/-- What the loop of the runs holds. -/
structure RI (w wr:World) (B:Nat) (ra:Option Addr) (rc:Nat) (R:List XR):Prop where
 own:Own wr B 2 ra R.length rc (xrV R)
 ps:∀ r∈R,Own wr B 1 r.pa r.ps.length r.pc (r.ps.map natV)
 out:∀ r∈R,∀ g,blockOf r.pa = some g→blockOf ra≠some g
 sep:R.Pairwise fun a b => ∀ g,blockOf a.pa = some g→blockOf b.pa≠some g
 below:Below B w wr
theorem RI.start {w:World} {B:Nat}:RI w w B none 0 []:=⟨Own.nil _ _ _,by simp,by simp,List.Pairwise.nil,Below.refl _ _⟩
variable {w wr W1:World} {B rc:Nat} {ra:Option Addr} {R:List XR}
theorem RI.push (h:RI w wr B ra rc R) {o:Obj} {ra':Option Addr} {rc':Nat} {v:Int} (h1:Own W1 B 2 ra' (R.length + 1) rc' (xrV R ++ [.slice none 0 0,.int .i8 v])) (h2:Apped (wr.alloc o) W1 ra ra') (h3:Below B wr W1):
 RI w W1 B ra' rc' (R ++ [⟨none,0,[],v⟩]):=by
 have old:∀ g,g < wr.heap.size→blockOf ra≠some g→blockOf ra'≠some g:=fun g hlt hn e => by
  rcases h2.place with hp | ⟨g2,hg2,hge⟩
  · rw [hp] at e;exact hn e
  · rw [e] at hg2;cases hg2;simp at hge;omega
 refine ⟨?_,fun r hr => ?_,fun r hr g hg => ?_,?_,h.below.trans h3⟩
 · rw [xrV_snoc,List.length_append]
   exact h1
 · rcases List.mem_append.1 hr with hr | hr
   · exact h2.keeps ((h.ps r hr).alloc o) (fun g hg => h.out r hr g hg)
   · obtain rfl:=List.mem_singleton.1 hr
     exact Own.nil _ _ _
 · rcases List.mem_append.1 hr with hr | hr
   · exact old g (own_at (h.ps r hr) hg).2.2 (h.out r hr g hg)
   · obtain rfl:=List.mem_singleton.1 hr
     cases hg
 · refine List.pairwise_append.2 ⟨h.sep,List.pairwise_singleton _ _,fun a ha b hb g hg e => ?_⟩
   obtain rfl:=List.mem_singleton.1 hb
   cases e
theorem RI.add {Q:List XR} {r:XR} {g:Nat} (h:RI w wr B (some ⟨g,0,none⟩) rc (Q ++ [r])) {o:Obj} {pa':Option Addr} {pc' k:Nat} (h1:Own W1 B 1 pa' (r.ps.length + 1) pc' (r.ps.map natV ++ [natV k])) (h2:Apped (wr.alloc o) W1 r.pa pa'):
 RI w (W1.setCell ⟨g,Q.length * 2,none⟩ (.slice pa' (r.ps.length + 1) pc')) B (some ⟨g,0,none⟩) rc (Q ++ [⟨pa',pc',r.ps ++ [k],r.lv⟩]):=by
 have hrm:r∈Q ++ [r]:=by simp
 have hg:=h.own.lt
 have h3:Below B wr W1:=((Below.refl B wr).alloc (by omega) o).trans (h2.below ((h.ps r hrm).alloc o) (by simp;omega))
 have old:∀ g',g' < wr.heap.size→blockOf r.pa≠some g'→blockOf pa'≠some g':=fun g' hlt hn e => by
  rcases h2.place with hp | ⟨g2,hg2,hge⟩
  · rw [hp] at e;exact hn e
  · rw [e] at hg2;cases hg2;simp at hge;omega
 have hrg:blockOf r.pa≠some g:=fun e => h.out r hrm g e rfl
 have hpg:=old g hg.2 hrg
 have hown:=h2.keeps (h.own.alloc o) (fun g' hg' => by cases hg';exact hrg)
 have hQ:∀ a∈Q,∀ g',blockOf a.pa = some g'→blockOf r.pa≠some g':=fun a ha => (List.pairwise_append.1 h.sep).2.2 a ha r (List.mem_singleton.2 rfl)
 refine ⟨?_,fun a ha => ?_,fun a ha g' hg' => ?_,?_,?_⟩
 · have:=hown.put (Q.length * 2) (by simp) (.slice pa' (r.ps.length + 1) pc')
   rw [xrV_set] at this
   refine (this.eqN (by simp)).eqL ?_
   rw [xrV_snoc]
   simp [XR.cells]
 · rcases List.mem_append.1 ha with ha | ha
   · have:=h2.keeps ((h.ps a (List.mem_append_left _ ha)).alloc o) (fun g' hg' => hQ a ha g' hg')
     exact own_st this g (fun e => h.out a (List.mem_append_left _ ha) g e rfl) _ _
   · obtain rfl:=List.mem_singleton.1 ha
     exact ((own_st h1 g hpg _ _).eqN (by simp)).eqL (by simp)
 · rcases List.mem_append.1 ha with ha | ha
   · exact h.out a (List.mem_append_left _ ha) g' hg'
   · obtain rfl:=List.mem_singleton.1 ha
     intro e
     cases e
     exact hpg hg'
 · refine List.pairwise_append.2 ⟨(List.pairwise_append.1 h.sep).1,List.pairwise_singleton _ _,fun a ha b hb g' hg' => ?_⟩
   obtain rfl:=List.mem_singleton.1 hb
   exact old g' (own_at (h.ps a (List.mem_append_left _ ha)) hg').2.2 (hQ a ha g' hg')
 · exact (h.below.trans h3).setCell (p:=⟨g,Q.length * 2,none⟩) hg.1 _
theorem RI.box {Q:List XR} {r:XR} {g:Nat} (h:RI w wr B (some ⟨g,0,none⟩) rc (Q ++ [r])) {o:Obj} {pa':Option Addr} (h2:Apped (wr.alloc o) W1 r.pa pa'):
 W1.cell? ⟨g,Q.length * 2,none⟩ = some (.slice r.pa r.ps.length r.pc)∧W1.frozen? ⟨g,Q.length * 2,none⟩ = false:=
 (h2.keeps (h.own.alloc o) (fun g' hg' => by cases hg';exact fun e => h.out r (by simp) _ e rfl)).look (xrV_at _ _ _ (by simp)).1
theorem RI.after {W:World} (h:RI w wr B ra rc R) (hb:Below wr.heap.size wr W) (hB:B≤wr.heap.size):RI w W B ra rc R:=
 ⟨h.own.below hb,fun r hr => (h.ps r hr).below hb,h.out,h.sep,h.below.trans (hb.mono hB)⟩
theorem info165:(Tryz.prog.info? 165).map (fun i => (i.zero,i.size,i.bytes)) = some (some (.agg #[.slice none 0 0,.int .i8 0]),2,32):=by kernel_rfl
/-- Runs that are read. -/
structure XRuns (w:World) (ra:Option Addr) (R:List XR):Prop where
 own:Cells w ra (xrV R)
 ps:∀ r∈R,Cells w r.pa (r.ps.map natV)
theorem RI.toRuns (h:RI w wr B ra rc R):XRuns wr ra R:=⟨h.own.toCells,fun r hr => (h.ps r hr).toCells⟩
theorem XRuns.below {w w':World} (h:XRuns w ra R) (hb:Below w.heap.size w w'):XRuns w' ra R:=⟨h.own.below hb,fun r hr => (h.ps r hr).below hb⟩
/-- The cells of one run. -/
theorem XRuns.at {w:World} (h:XRuns w ra R) {k:Nat} {r:XR} (hr:R[k]? = some r):∃ b o,ra = some ⟨b,o,none⟩∧w.cell? ⟨b,o + k * 2,none⟩ = some (.slice r.pa r.ps.length r.pc)∧w.cell? ⟨b,o + (k * 2 + 1),none⟩ = some (.int .i8 r.lv):=by
 obtain ⟨h1,h2⟩:=xrV_at R k r hr
 obtain ⟨b,o,e,hc⟩:=h.own (fun e => by rw [e] at h1;simp at h1)
 exact ⟨b,o,e,hc _ _ h1,hc _ _ h2⟩
end Go.Proofs.YtjnidopbdjbbgaaGreat
end
/-
  The reference's runs: which places and levels they have. No walk.
-/
section
namespace Go.Proofs.YtjnidopbdjbbgaaGreat
open Go.RowKit
set_option linter.unusedVariables false
/-- Runs that hold these places, none empty. -/
structure XOk (K:List Nat) (R:List XR):Prop where
 all:R.flatMap XR.ps = K
 pos:∀ r∈R,r.ps≠[]
 lev:∀ r∈R,-128≤r.lv∧r.lv≤127
/-- The same, but for the last of them. -/
structure XPre (K:List Nat) (Q:List XR) (r:XR):Prop where
 all:Q.flatMap XR.ps ++ r.ps = K
 pos:∀ x∈Q,x.ps≠[]
 lev:∀ x∈Q,-128≤x.lv∧x.lv≤127
 lev1:-128≤r.lv∧r.lv≤127
theorem XOk.start:XOk [] []:=⟨rfl,by simp,by simp⟩
theorem XOk.new {K:List Nat} {R:List XR} (h:XOk K R) {v:Int} (hv:-128≤v∧v≤127):XPre K R ⟨none,0,[],v⟩:=
 ⟨by rw [h.all];simp,h.pos,h.lev,hv⟩
theorem XOk.last {K:List Nat} {Q:List XR} {r:XR} (h:XOk K (Q ++ [r])):XPre K Q r:=
 ⟨by rw [← h.all];simp,fun x hx => h.pos x (List.mem_append_left _ hx),fun x hx => h.lev x (List.mem_append_left _ hx),h.lev r (by simp)⟩
theorem XPre.fin {K:List Nat} {Q:List XR} {r:XR} (h:XPre K Q r) (p:Nat) (pa:Option Addr) (pc:Nat):XOk (K ++ [p]) (Q ++ [⟨pa,pc,r.ps ++ [p],r.lv⟩]):=by
 refine ⟨by rw [← h.all];simp,fun x hx => ?_,fun x hx => ?_⟩
 · rcases List.mem_append.1 hx with hx | hx
   · exact h.pos x hx
   · obtain rfl:=List.mem_singleton.1 hx
     simp
 · rcases List.mem_append.1 hx with hx | hx
   · exact h.lev x hx
   · obtain rfl:=List.mem_singleton.1 hx
     exact h.lev1
theorem XOk.ends {K:List Nat} {R:List XR} (h:XOk K R) (hK:K≠[]):∃ Q r,R = Q ++ [r]:=by
 cases hR:R.reverse with
 | nil => rw [List.reverse_eq_nil_iff] at hR;subst hR;exact absurd h.all.symm hK
 | cons r Q => exact ⟨Q.reverse,r,by rw [← List.reverse_reverse R,hR];simp⟩
theorem kept_up (l:List Nat):(keptOf l).Pairwise (· < ·):=List.pairwise_lt_range.filter _
theorem kept_below {l:List Nat} {p:Nat} (h:p∈keptOf l):p < l.length:=by
 unfold keptOf keptTo at h
 exact List.mem_range.1 (List.mem_filter.1 h).1
theorem XOk.mem {K:List Nat} {R:List XR} (h:XOk K R) {r:XR} (hr:r∈R) {p:Nat} (hp:p∈r.ps):p∈K:=by
 rw [← h.all]
 exact List.mem_flatMap.2 ⟨r,hr,hp⟩
theorem XOk.below {l:List Nat} {R:List XR} (h:XOk (keptOf l) R) {r:XR} (hr:r∈R) {p:Nat} (hp:p∈r.ps):p < l.length:=kept_below (h.mem hr hp)
/-- A run that begins behind another's last place lies behind it. -/
theorem XOk.next {l:List Nat} {R:List XR} (h:XOk (keptOf l) R) {i k p q:Nat} {r s:XR} (hr:R[i]? = some r) (hs:R[k]? = some s) (hp:r.ps[r.ps.length - 1]? = some p) (hq:s.ps[0]? = some q) (hpq:p < q):i < k:=by
 have hup:=kept_up l
 rw [← h.all,List.pairwise_flatMap] at hup
 obtain ⟨h1,h2⟩:=hup
 rcases Nat.lt_trichotomy i k with hlt | rfl | hgt
 · exact hlt
 · rw [hr] at hs
   cases hs
   have hpl:=(List.getElem?_eq_some_iff.1 hp).1
   rcases Nat.eq_zero_or_pos (r.ps.length - 1) with h0 | h0
   · rw [h0] at hp
     rw [hp] at hq
     cases hq
     omega
   · have:=List.pairwise_iff_getElem.1 (h1 r (List.mem_of_getElem? hr)) 0 (r.ps.length - 1) (by omega) hpl h0
     rw [(List.getElem?_eq_some_iff.1 hp).2,(List.getElem?_eq_some_iff.1 hq).2] at this
     omega
 · have h3:=List.pairwise_iff_getElem.1 h2 k i (List.getElem?_eq_some_iff.1 hs).1 (List.getElem?_eq_some_iff.1 hr).1 hgt
   rw [(List.getElem?_eq_some_iff.1 hs).2,(List.getElem?_eq_some_iff.1 hr).2] at h3
   have:=h3 q (List.mem_of_getElem? hq) p (List.mem_of_getElem? hp)
   omega
/-- The number of places of the first k runs. -/
def cntTo (R:List XR) (k:Nat):Nat:=((R.take k).flatMap XR.ps).length
theorem cnt_succ {R:List XR} {k:Nat} {r:XR} (h:R[k]? = some r):cntTo R (k + 1) = cntTo R k + r.ps.length:=by
 unfold cntTo
 rw [List.take_add_one,h]
 simp
theorem cnt_mono (R:List XR) {i k:Nat} (h:i≤k):cntTo R i≤cntTo R k:=by
 induction h with
 | refl => exact Nat.le_refl _
 | step h ih =>
  rename_i m
  refine Nat.le_trans ih ?_
  cases hm:R[m]? with
  | none => unfold cntTo;rw [List.take_add_one,hm];simp
  | some r => rw [cnt_succ hm];omega
theorem XOk.cnt_le {l:List Nat} {R:List XR} (h:XOk (keptOf l) R) (k:Nat):cntTo R k≤l.length:=by
 rcases Nat.lt_or_ge R.length k with hk | hk
 · unfold cntTo
   rw [List.take_of_length_le (Nat.le_of_lt hk),h.all]
   exact keptTo_le l l.length
 · refine Nat.le_trans (cnt_mono R hk) ?_
   unfold cntTo
   rw [List.take_length,h.all]
   exact keptTo_le l l.length
theorem runs_cnt {R:List XR} (hp:∀ r∈R,r.ps≠[]):R.length≤(R.flatMap XR.ps).length:=by
 induction R with
 | nil => simp
 | cons r R ih =>
  have h1:=ih (fun x hx => hp x (List.mem_cons_of_mem _ hx))
  have h2:=List.length_pos_iff.2 (hp r (by simp))
  simp only [List.length_cons,List.flatMap_cons,List.length_append]
  omega
theorem XOk.runs_le {l:List Nat} {R:List XR} (h:XOk (keptOf l) R):R.length≤l.length:=by
 have h1:=runs_cnt h.pos
 rw [h.all] at h1
 exact Nat.le_trans h1 (keptTo_le l l.length)
end Go.Proofs.YtjnidopbdjbbgaaGreat
end
/-
  The reference: which run follows (follows): walked.
-/
section
namespace Go.Proofs.YtjnidopbdjbbgaaGreat
open Go.RowKit
set_option linter.unusedVariables false
/-- What follows gives. -/
def FolP (R:List XR) (i:Nat) (w:World) (e:Ending) (w':World):Prop:=∃ v:Int,e = .returned (.int .i64 v)∧(v = -1∨∃ k:Nat,v = k∧i < k∧k < R.length)∧Below w.heap.size w w'
set_option maxRecDepth 20000 in
set_option maxHeartbeats 8000000 in
theorem xfollows_any (w:World) (ra ma a:Option Addr) (rc mc n c i:Nat) (l:List Nat) (R:List XR) (hok:XOk (keptOf l) R) (hl:l.length = n) (hn:n≤1048576) (hi:i < R.length) (hr:XRuns w ra R) (hm:Cells w ma ((matchOf l).map i64V)) (hc:Cells w a (l.map u8V)):
 Calls Tryz.prog 92 #[.slice ra R.length rc,.slice ma n mc,.int .i64 i,.slice a n c] w (FolP R i w):=by
 obtain ⟨r,hri⟩:∃ r,R[i]? = some r:=⟨_,List.getElem?_eq_getElem hi⟩
 obtain ⟨rb,ro,rfl,hr0,hr1⟩:=hr.at hri
 obtain ⟨t,ht⟩:∃ t,r.ps.length = t + 1:=⟨r.ps.length - 1,by have:=List.length_pos_iff.2 (hok.pos r (List.mem_of_getElem? hri));omega⟩
 obtain ⟨p,hp⟩:∃ p,r.ps[t]? = some p:=⟨_,List.getElem?_eq_getElem (by omega)⟩
 have hpn:p < n:=by rw [← hl];exact hok.below (List.mem_of_getElem? hri) (List.mem_of_getElem? hp)
 obtain ⟨pb,po,hpa,hcp⟩:=(hr.ps r (List.mem_of_getElem? hri)).getm hp
 obtain ⟨x,hx⟩:∃ x,l[p]? = some x:=⟨_,List.getElem?_eq_getElem (by rw [hl];exact hpn)⟩
 rw [hpa,ht] at hr0
 unfold natV at hcp
 have HR:=Lib.hid hr
 have HOK:=Lib.hid hok
 have HM:=Lib.hid hm
 have HC:=Lib.hid hc
 have HL:=Lib.hid hl
 have HRI:=Lib.hid hri
 have HPT:Hid (r.ps[r.ps.length - 1]? = some p):=Lib.hid (by rw [ht];exact hp)
 have HX:=Lib.hid hx
 have HI:=Lib.hid hi
 have HRL:Hid (R.length≤1048576):=Lib.hid (Nat.le_trans hok.runs_le (by omega))
 obtain ⟨m,hmm⟩:∃ m,m = R.length:=⟨_,rfl⟩
 have HMM:=Lib.hid hmm
 have HTL:Hid (t≤1048576):=Lib.hid (by have:=cnt_succ hri;have:=hok.cnt_le (i + 1);omega)
 rw [← hmm] at hi ⊢
 have hi0:(0:Int)≤(i:Int):=by omega
 have hi1:(i:Int) < (m:Int):=by omega
 have ht0:(0:Int)≤(t:Int):=by omega
 have ht1:(t:Int) < (t:Int) + 1:=by omega
 have ht2:(t:Int)≤1048576:=by have:=HTL.out;omega
 have hp0:(0:Int)≤(p:Int):=by omega
 have hp1:(p:Int) < (n:Int):=by omega
 clear hok hl hi hr hm hc hri hp hmm ht hpa hr1 hx
 go_enter Tryz.func92,Tryz.ntmps92
 go_wp2_with fail
 go_quiet (fail)
 generalize hU:w.drewN _ = U
 have hBU:Below w.heap.size w U:=by rw [← hU];exact below_drewN (Below.refl _ _) _
 have HBU:=Lib.hid hBU
 have HCU:=Lib.hid (HC.out.below hBU)
 have HMU:=Lib.hid (HM.out.below hBU)
 have HRU:=Lib.hid (HR.out.below hBU)
 clear hr0 hcp hU hBU
 obtain ⟨ab,ao,rfl,hcx⟩:=HCU.out.getm HX.out
 unfold u8V at hcx
 go_wp2_with fail
 refine (rbegins_any _ x).mono ?_
 rintro e w2 ⟨rfl,rfl⟩
 cases hbg:(x == 20 || x == 21 || x == 22) with
 | false =>
  go_wp2
  go_ret
  exact ⟨-1,rfl,.inl rfl,HBU.out⟩
 | true =>
  obtain ⟨j,hj,hpj,hjl⟩:=jump_at HX.out hbg
  obtain ⟨mb,mo,rfl,hcj⟩:=HMU.out.getm hj
  unfold i64V at hcj
  have HPJ:=Lib.hid hpj
  have HJJ:=Lib.hid hj
  clear hj hbg hpj hjl hcx hcj
  go_wp2_with fail
  go_loopg [10] m (fun r s10 wr => ∃ k:Nat,k + r = m∧s10 = .int .i64 k∧Below U.heap.size U wr)
  case atStart => exact ⟨0,by omega,rfl,Below.refl _ _⟩
  case round =>
   obtain ⟨k,hk,rfl,hb⟩:=hrel
   obtain ⟨V,rfl⟩:∃ V:World,V = wr:=⟨_,rfl⟩
   have HK:=Lib.hid hk
   have HB:=Lib.hid hb
   by_cases hlt:k < m
   · have HLT:=Lib.hid hlt
     have hk0:(0:Int)≤(k:Int):=by omega
     have hk1:(k:Int) < (m:Int):=by omega
     by_cases hki:k = i
     · subst hki
       have hkk:((k:Int) != (k:Int)) = false:=by simp
       have hk2:(k:Int)≤1048576:=by have:=HRL.out;have:=HMM.out;omega
       clear hk hb hlt
       go_wp2_with fail
       go_quiet (fail)
       go_wp2
       go_roundg (gk - 1)
       case measure => have:=HK.out;have:=HLT.out;omega
       case rel => exact ⟨k + 1,by have:=HK.out;have:=HLT.out;omega,by go_num,below_drewN HB.out _⟩
     · have hkk:((k:Int) != (i:Int)) = true:=by simp;omega
       have hk2:(k:Int)≤1048576:=by have:=HRL.out;have:=HMM.out;omega
       obtain ⟨s,hs⟩:∃ s,R[k]? = some s:=⟨_,List.getElem?_eq_getElem (by rw [← HMM.out];exact hlt)⟩
       have HRV:=Lib.hid (HRU.out.below hb)
       obtain ⟨_,_,he,hs0,hs1⟩:=HRV.out.at hs
       cases he
       have hsp:=HOK.out.pos s (List.mem_of_getElem? hs)
       obtain ⟨q,hq⟩:∃ q,s.ps[0]? = some q:=⟨_,List.getElem?_eq_getElem (List.length_pos_iff.2 hsp)⟩
       obtain ⟨qb,qo,hqa,hcq⟩:=(HRV.out.ps s (List.mem_of_getElem? hs)).getm hq
       obtain ⟨_,_,he,hcj⟩:=(HMU.out.below hb).getm (show (matchOf l)[p]? = some (j:Int) from HJJ.out)
       cases he
       unfold natV at hcq
       rw [Nat.add_zero] at hcq
       unfold i64V at hcj
       rw [hqa] at hs0
       obtain ⟨sl,hsl⟩:∃ sl,s.ps.length = sl:=⟨_,rfl⟩
       have hsl0:(0:Int) < (sl:Int):=by have:=List.length_pos_iff.2 hsp;omega
       have hsl1:0 < sl:=by omega
       rw [hsl] at hs0
       have HS:=Lib.hid hs
       have HQ:=Lib.hid hq
       clear hs hq hk hb hlt hki hqa hs1 hsp hsl
       cases hqj:((q:Int) == (j:Int)) with
       | false =>
        go_wp2_with fail
        go_quiet (fail)
        go_wp2
        go_roundg (gk - 1)
        case measure => have:=HK.out;have:=HLT.out;omega
        case rel => exact ⟨k + 1,by have:=HK.out;have:=HLT.out;omega,by go_num,below_drewN HB.out _⟩
       | true =>
        have HQJ:=Lib.hid hqj
        go_wp2_with fail
        go_quiet (fail)
        go_wp2
        go_ret
        refine ⟨k,rfl,.inr ⟨k,rfl,HOK.out.next HRI.out HS.out HPT.out HQ.out ?_,by have:=HLT.out;have:=HMM.out;omega⟩,HBU.out.trans ((below_drewN HB.out _).mono HBU.out.size)⟩
        have h1:=HQJ.out
        have h2:=HPJ.out
        simp at h1
        omega
   · obtain rfl:k = m:=by omega
     clear hk hlt
     go_wp2
     go_ret
     exact ⟨-1,rfl,.inl rfl,HBU.out.trans (hb.mono HBU.out.size)⟩
end Go.Proofs.YtjnidopbdjbbgaaGreat
end
/-
  The reference's sequences: what is gathered, and where it lies. No walk.
-/
section
namespace Go.Proofs.YtjnidopbdjbbgaaGreat
open Go.RowKit
set_option linter.unusedVariables false
/-- A sequence of the reference, and where it lies. -/
structure XS where
 ps:List Nat
 cs:List Nat
 lv:Int
 sos:Nat
 eos:Nat
 pa:Option Addr
 pc:Nat
 ca:Option Addr
 cc:Nat
def XS.cells (s:XS):List Value:=[.slice s.pa s.ps.length s.pc,.slice s.ca s.ps.length s.cc,.int .i8 s.lv,.int .u8 s.sos,.int .u8 s.eos]
def xsV (S:List XS):List Value:=S.flatMap XS.cells
theorem xsV_snoc (S:List XS) (s:XS):xsV (S ++ [s]) = xsV S ++ s.cells:=by simp [xsV]
theorem xsV_at (S:List XS):∀ (k:Nat) (s:XS),S[k]? = some s→∀ j,j < 5→(xsV S)[k * 5 + j]? = s.cells[j]?:=by
 induction S with
 | nil => intro k r h;simp at h
 | cons x R ih =>
  intro k r h j hj
  have e:xsV (x :: R) = x.cells ++ xsV R:=rfl
  have hx:x.cells.length = 5:=rfl
  cases k with
  | zero => simp at h;subst h;rw [e,Nat.zero_mul,Nat.zero_add,List.getElem?_append_left (by omega)]
  | succ k =>
   simp at h
   rw [e,show (k + 1) * 5 + j = x.cells.length + (k * 5 + j) by omega,List.getElem?_append_right (by omega),Nat.add_sub_cancel_left]
   exact ih k r h j hj
/-- A sequence that may be. -/
structure XSOk (n:Nat) (s:XS):Prop where
 lt:∀ p∈s.ps,p < n
 same:s.cs.length = s.ps.length
 le:s.ps.length≤n
 lv:-128≤s.lv∧s.lv≤127
/-- The sequences that lie in a slice of the call's own. -/
structure XOuts (w:World) (B:Nat) (oa:Option Addr) (oc:Nat) (S:List XS):Prop where
 own:Own w B 5 oa S.length oc (xsV S)
 ps:∀ s∈S,Own w B 1 s.pa s.ps.length s.pc (s.ps.map natV)∧∀ g∈blk s.pa,g ∉ blk oa
 cs:∀ s∈S,Own w B 1 s.ca s.ps.length s.cc (s.cs.map u8V)∧∀ g∈blk s.ca,g ∉ blk oa
theorem XOuts.nil (w:World) (B:Nat):XOuts w B none 0 []:=⟨Own.nil _ _ _,by simp,by simp⟩
theorem XOuts.below {w w':World} {B:Nat} {oa:Option Addr} {oc:Nat} {S:List XS} (h:XOuts w B oa oc S) (hb:Below w.heap.size w w'):XOuts w' B oa oc S:=
 ⟨h.own.below hb,fun s hs => ⟨(h.ps s hs).1.below hb,(h.ps s hs).2⟩,fun s hs => ⟨(h.cs s hs).1.below hb,(h.cs s hs).2⟩⟩
theorem XOuts.mono {w:World} {B B':Nat} {oa:Option Addr} {oc:Nat} {S:List XS} (h:XOuts w B oa oc S) (hB:B'≤B):XOuts w B' oa oc S:=
 ⟨h.own.mono hB,fun s hs => ⟨(h.ps s hs).1.mono hB,(h.ps s hs).2⟩,fun s hs => ⟨(h.cs s hs).1.mono hB,(h.cs s hs).2⟩⟩
theorem XOuts.st {w:World} {B:Nat} {oa:Option Addr} {oc:Nat} {S:List XS} (h:XOuts w B oa oc S) {k:Nat} (hk:k < B) (j:Nat) (v:Value):XOuts (w.setCell ⟨k,j,none⟩ v) B oa oc S:=
 ⟨own_st h.own k (fun e => by have:=(own_at h.own e).2.1;omega) j v,fun s hs => ⟨own_st (h.ps s hs).1 k (fun e => by have:=(own_at (h.ps s hs).1 e).2.1;omega) j v,(h.ps s hs).2⟩,fun s hs => ⟨own_st (h.cs s hs).1 k (fun e => by have:=(own_at (h.cs s hs).1 e).2.1;omega) j v,(h.cs s hs).2⟩⟩
theorem XOuts.push {W w4:World} {o:Obj} {B:Nat} {oa oa':Option Addr} {oc oc':Nat} {S:List XS} (h:XOuts W B oa oc S) (s:XS) (hp:Own W B 1 s.pa s.ps.length s.pc (s.ps.map natV)) (hc:Own W B 1 s.ca s.ps.length s.cc (s.cs.map u8V))
 (hdp:∀ g∈blk s.pa,g ∉ blk oa) (hdc:∀ g∈blk s.ca,g ∉ blk oa) (h4:Own w4 B 5 oa' (S.length + 1) oc' (xsV S ++ s.cells)) (hap:Apped (W.alloc o) w4 oa oa'):XOuts w4 B oa' oc' (S ++ [s]):=by
 refine ⟨by rw [xsV_snoc,List.length_append];exact h4,fun x hx => ?_,fun x hx => ?_⟩
 · rcases List.mem_append.1 hx with hx | hx
   · exact (h.ps x hx).1.apped hap (h.ps x hx).2
   · simp at hx
     subst hx
     exact hp.apped hap hdp
 · rcases List.mem_append.1 hx with hx | hx
   · exact (h.cs x hx).1.apped hap (h.cs x hx).2
   · simp at hx
     subst hx
     exact hc.apped hap hdc
/-- Sequences that are read. -/
structure XRead (w:World) (oa:Option Addr) (S:List XS):Prop where
 own:Cells w oa (xsV S)
 ps:∀ s∈S,Cells w s.pa (s.ps.map natV)
 cs:∀ s∈S,Cells w s.ca (s.cs.map u8V)
theorem XOuts.read {w:World} {B:Nat} {oa:Option Addr} {oc:Nat} {S:List XS} (h:XOuts w B oa oc S):XRead w oa S:=⟨h.own.toCells,fun s hs => (h.ps s hs).1.toCells,fun s hs => (h.cs s hs).1.toCells⟩
theorem XRead.at {w:World} {oa:Option Addr} {S:List XS} (h:XRead w oa S) {k:Nat} {s:XS} (hs:S[k]? = some s):
 ∃ b o,oa = some ⟨b,o,none⟩∧w.cell? ⟨b,o + k * 5,none⟩ = some (.slice s.pa s.ps.length s.pc)∧w.cell? ⟨b,o + k * 5 + 1,none⟩ = some (.slice s.ca s.ps.length s.cc)∧w.cell? ⟨b,o + k * 5 + 2,none⟩ = some (.int .i8 s.lv)∧w.cell? ⟨b,o + k * 5 + 3,none⟩ = some (.int .u8 s.sos)∧w.cell? ⟨b,o + k * 5 + 4,none⟩ = some (.int .u8 s.eos):=by
 have h0:=xsV_at S k s hs
 obtain ⟨b,o,e,hc⟩:=h.own (fun e => by have:=h0 0 (by omega);rw [e] at this;simp [XS.cells] at this)
 exact ⟨b,o,e,hc _ _ (h0 0 (by omega)),by rw [Nat.add_assoc];exact hc _ _ (h0 1 (by omega)),by rw [Nat.add_assoc];exact hc _ _ (h0 2 (by omega)),by rw [Nat.add_assoc];exact hc _ _ (h0 3 (by omega)),by rw [Nat.add_assoc];exact hc _ _ (h0 4 (by omega))⟩
/-- What has been gathered lies at a block N. -/
structure XG (N:Nat) (ps cs:List Nat) (lv:Int) (so eo:Nat) (pa:Option Addr) (pc:Nat) (ca:Option Addr) (cc:Nat) (W:World):Prop where
 box:W.heap[N]? = some (.cells #[.slice pa ps.length pc,.slice ca cs.length cc,.int .i8 lv,.int .u8 so,.int .u8 eo] 75)
 ps:Own W N 1 pa ps.length pc (ps.map natV)
 cs:Own W N 1 ca cs.length cc (cs.map u8V)
 ap:∀ g∈blk pa,g ∉ blk ca
 np:N ∉ blk pa
 nc:N ∉ blk ca
section
variable {N:Nat} {ps cs:List Nat} {lv:Int} {so eo:Nat} {pa ca pa' ca':Option Addr} {pc cc pc' cc':Nat} {W w4:World}
theorem XG.lt (h:XG N ps cs lv so eo pa pc ca cc W):N < W.heap.size:=(Array.getElem?_eq_some_iff.1 h.box).1
theorem XG.below {W':World} (h:XG N ps cs lv so eo pa pc ca cc W) (hb:Below W.heap.size W W'):XG N ps cs lv so eo pa pc ca cc W':=
 ⟨(hb.block N h.lt).trans h.box,h.ps.below hb,h.cs.below hb,h.ap,h.np,h.nc⟩
theorem XG.new (V:World) (lv:Int):XG V.heap.size [] [] lv 0 0 none 0 none 0 (V.alloc (.cells #[.slice none 0 0,.slice none 0 0,.int .i8 lv,.int .u8 0,.int .u8 0] 75)):=
 ⟨heap_alloc_new V _,Own.nil _ _ _,Own.nil _ _ _,by simp [blk_none],by simp [blk_none],by simp [blk_none]⟩
theorem XG.pushR (h:XG N ps cs lv so eo pa pc ca cc W) (qs:List Nat) (h4:Own w4 N 1 pa' (ps.length + qs.length) pc' (ps.map natV ++ qs.map natV)) (hap:Apped W w4 pa pa'):
 XG N (ps ++ qs) cs lv so eo pa' pc' ca cc (w4.setCell ⟨N,0,none⟩ (.slice pa' (ps.length + qs.length) pc'))∧Below N W (w4.setCell ⟨N,0,none⟩ (.slice pa' (ps.length + qs.length) pc'))∧w4.heap[N]? = W.heap[N]?:=by
 have hlt:=h.lt
 have hsz:=hap.grown.size
 have hN:w4.heap[N]? = W.heap[N]?:=hap.grown.block N hlt (fun e => h.np (blk_mem.2 e.symm))
 have hN':N ∉ blk pa':=fun hm => by
  rcases hap.blk hm with h1 | h1
  · exact h.np h1
  · omega
 have hbox:=heap_set (hN.trans h.box) (.slice pa' (ps.length + qs.length) pc') (j:=0)
 have hcs:Own w4 N 1 ca cs.length cc (cs.map u8V):=hap.keeps h.cs (fun g hg e => h.ap g (blk_mem.2 e) (blk_mem.2 hg))
 refine ⟨⟨?_,?_,own_st hcs N (fun e => h.nc (blk_mem.2 e)) _ _,fun g hg hc => ?_,hN',h.nc⟩,?_,hN⟩
 · rw [hbox,List.length_append];rfl
 · have:=own_st h4 N (fun e => hN' (blk_mem.2 e)) 0 (.slice pa' (ps.length + qs.length) pc')
   rw [List.length_append,List.map_append]
   exact this
 · rcases hap.blk hg with h1 | h1
   · exact h.ap g h1 hc
   · have:=(h.cs.blk_lt g hc).2;omega
 · exact (hap.below h.ps (Nat.le_of_lt hlt)).setCell (p:=⟨N,0,none⟩) (Nat.le_refl N) _
theorem XG.pushC {o:Obj} (h:XG N ps cs lv so eo pa pc ca cc W) (x:Nat) (h4:Own w4 N 1 ca' (cs.length + 1) cc' (cs.map u8V ++ [u8V x])) (hap:Apped (W.alloc o) w4 ca ca'):
 XG N ps (cs ++ [x]) lv so eo pa pc ca' cc' (w4.setCell ⟨N,1,none⟩ (.slice ca' (cs.length + 1) cc'))∧Below N W (w4.setCell ⟨N,1,none⟩ (.slice ca' (cs.length + 1) cc'))∧w4.heap[N]? = W.heap[N]?:=by
 have hlt:=h.lt
 have hsz:=hap.grown.size
 simp only [World.size_alloc] at hsz
 have hN:=hap.heap hlt h.nc
 have hN':N ∉ blk ca':=fun hm => by
  rcases hap.blk hm with h1 | h1
  · exact h.nc h1
  · simp at h1;omega
 have hbox:=heap_set (hN.trans h.box) (.slice ca' (cs.length + 1) cc') (j:=1)
 have hps:Own w4 N 1 pa ps.length pc (ps.map natV):=hap.keeps (h.ps.alloc o) (fun g hg e => h.ap g (blk_mem.2 hg) (blk_mem.2 e))
 refine ⟨⟨?_,own_st hps N (fun e => h.np (blk_mem.2 e)) _ _,?_,fun g hg hc => ?_,h.np,hN'⟩,?_,hN⟩
 · rw [hbox,List.length_append];rfl
 · have:=own_st h4 N (fun e => hN' (blk_mem.2 e)) 1 (.slice ca' (cs.length + 1) cc')
   rw [List.length_append,List.map_append]
   exact this
 · rcases hap.blk hc with h1 | h1
   · exact h.ap g hg h1
   · have:=(h.ps.blk_lt g hg).2;simp at h1;omega
 · exact (((Below.refl N W).alloc (Nat.le_of_lt hlt) o).trans (hap.below (h.cs.alloc o) (by simp;omega))).setCell (p:=⟨N,1,none⟩) (Nat.le_refl N) _
theorem XG.setS (h:XG N ps cs lv so eo pa pc ca cc W) (x:Nat):XG N ps cs lv x eo pa pc ca cc (W.setCell ⟨N,3,none⟩ (.int .u8 x)):=
 ⟨heap_set h.box (.int .u8 x) (j:=3),own_st h.ps N (fun e => h.np (blk_mem.2 e)) _ _,own_st h.cs N (fun e => h.nc (blk_mem.2 e)) _ _,h.ap,h.np,h.nc⟩
theorem XG.setE (h:XG N ps cs lv so eo pa pc ca cc W) (x:Nat):XG N ps cs lv so x pa pc ca cc (W.setCell ⟨N,4,none⟩ (.int .u8 x)):=
 ⟨heap_set h.box (.int .u8 x) (j:=4),own_st h.ps N (fun e => h.np (blk_mem.2 e)) _ _,own_st h.cs N (fun e => h.nc (blk_mem.2 e)) _ _,h.ap,h.np,h.nc⟩
theorem XG.drew (h:XG N ps cs lv so eo pa pc ca cc W):XG N ps cs lv so eo pa pc ca cc W.drew:=h.below ((Below.refl _ _).drew)
end
theorem ite_max (x y:Int) [Decidable (x < y)]:(if x < y then y else x) = max x y:=by split <;> omega
theorem ite_maxG (x y:Int) [Decidable (y > x)]:(if y > x then y else x) = max x y:=by split <;> omega
end Go.Proofs.YtjnidopbdjbbgaaGreat
end
/-
  The reference's resolved paragraph: what is held of it. No walk.
-/
section
namespace Go.Proofs.YtjnidopbdjbbgaaGreat
open Go.RowKit
set_option linter.unusedVariables false
/-- The resolved paragraph at block N, and its levels. -/
structure RX (W3 wr:World) (N v n:Nat) (a:Option Addr) (c k:Nat) (ga:Option Addr) (gc:Nat) (X:List Int):Prop where
 box:wr.heap[N]? = some (.cells #[.int .i8 v,.slice a n c,.slice ga k gc] 29)
 own:Own wr (N + 1) 1 ga k gc (X.map i8V)
 below:Below N W3 wr
section
variable {W3 wr W1:World} {N v n c k gc gc':Nat} {a ga ga':Option Addr} {X:List Int}
theorem RX.lt (h:RX W3 wr N v n a c k ga gc X):N < wr.heap.size:=(Array.getElem?_eq_some_iff.1 h.box).1
theorem RX.after {W:World} (h:RX W3 wr N v n a c k ga gc X) (hb:Below wr.heap.size wr W):RX W3 W N v n a c k ga gc X:=
 ⟨(hb.block N h.lt).trans h.box,h.own.below hb,h.below.trans (hb.mono (Nat.le_of_lt h.lt))⟩
theorem RX.push (h:RX W3 wr N v n a c k ga gc X) {x:Int} (h1:Own W1 (N + 1) 1 ga' (k + 1) gc' (X.map i8V ++ [i8V x])) (h2:Below (N + 1) wr W1):
 RX W3 (W1.setCell ⟨N,2,none⟩ (.slice ga' (k + 1) gc')) N v n a c (k + 1) ga' gc' (X ++ [x]):=by
 refine ⟨heap_set ((h2.block N (Nat.lt_succ_self N)).trans h.box) (.slice ga' (k + 1) gc') (j:=2),?_,?_⟩
 · refine (own_st h1 N (fun e => by have:=(own_at h1 e).2.1;omega) 2 _).eqL ?_
   rw [List.map_append];rfl
 · exact (h.below.trans (h2.mono (Nat.le_succ N))).setCell (p:=⟨N,2,none⟩) (Nat.le_refl N) _
theorem RX.store {g:Nat} (h:RX W3 wr N v n a c k (some ⟨g,0,none⟩) gc X) {j:Nat} (hj:j < k) (y:Int):
 RX W3 (wr.setCell ⟨g,j,none⟩ (.int .i8 y)) N v n a c k (some ⟨g,0,none⟩) gc (X.set j y)∧N < g∧g < wr.heap.size:=by
 have hg:=h.own.lt
 refine ⟨⟨heap_other h.box (by omega) _,(h.own.stored j hj (i8V y)).eqL (by rw [List.map_set]),h.below.setCell (p:=⟨g,j,none⟩) (show N≤g by omega) _⟩,hg.1,hg.2⟩
end
theorem res30 {B:Nat} (x y z:Value) (e:Int):∀ (tmps:Array Value) (W':World),W'.heap[B]? = some (.cells #[x,y,z] 29)→tmps.getD 8 undef = .pointer (some ⟨B,0,none⟩)→tmps.getD 9 undef = .int .i64 e→(results Tryz.f30 tmps).run Tryz.prog W' = .ok (.tuple #[.agg #[x,y,z],.int .i64 e]) W':=by
 intro tmps W' h1 h2 h3
 rw [results_cell_tmp rfl]
 have hlv:=run_loadVar_row (P:=Tryz.prog) _ B 29 29 _ _ _ h1 Tryz.underlying29 rfl (by kernel_rfl)
 rw [h2,h3]
 simp [asAddr,hlv]
theorem res10 {B:Nat} (x y z:Value) (e:Int):∀ (tmps:Array Value) (W':World),W'.heap[B]? = some (.cells #[x,y,z] 29)→tmps.getD 4 undef = .pointer (some ⟨B,0,none⟩)→tmps.getD 5 undef = .int .i64 e→(results Tryz.f10 tmps).run Tryz.prog W' = .ok (.tuple #[.agg #[x,y,z],.int .i64 e]) W':=by
 intro tmps W' h1 h2 h3
 rw [results_cell_tmp rfl]
 have hlv:=run_loadVar_row (P:=Tryz.prog) _ B 29 29 _ _ _ h1 Tryz.underlying29 rfl (by kernel_rfl)
 rw [h2,h3]
 simp [asAddr,hlv]
end Go.Proofs.YtjnidopbdjbbgaaGreat
end
/-
  The reference's rules of neutrals: they end; walked (printed by genxrest.py).
-/
section
namespace Go.Proofs.YtjnidopbdjbbgaaGreat
open Go.RowKit
set_option linter.unusedVariables false
set_option maxRecDepth 20000
set_option maxHeartbeats 8000000
theorem xrest_any (w:World) (pa ca:Option Addr) (m n pc cc sos eos:Nat) (lv:Int) (cs:List Nat) (hl:cs.length = n) (hn:n≤1048576) (hlv:-128≤lv∧lv≤127) (hc:Cells w ca (cs.map u8V)):
 Calls Tryz.prog 56 #[.agg #[.slice pa m pc,.slice ca n cc,.int .i8 lv,.int .u8 sos,.int .u8 eos]] w fun e w' => ∃ b d,e = .returned (.slice b n d)∧∃ vs:List Nat,vs.length = n∧Own w' w.heap.size 1 b n d (vs.map u8V)∧Below w.heap.size w w':=by
 obtain ⟨i0,hi,hz0,hz1,hz2⟩:=info_parts info35
 have HC:=Lib.hid hc
 have HL:=Lib.hid hl
 have HLV:=Lib.hid hlv
 have hnn:(n:Int)≤1048576:=by omega
 obtain ⟨O,hO⟩:∃ O,O = Obj.cells #[.slice pa m pc,.slice ca n cc,.int .i8 lv,.int .u8 sos,.int .u8 eos] 75:=⟨_,rfl⟩
 have HW:Hid (Below w.heap.size w (w.alloc O)):=Lib.hid ((Below.refl _ _).alloc (Nat.le_refl _) _)
 have HX:Hid ((w.alloc O).heap[w.heap.size]? = some O):=Lib.hid (heap_alloc_new w O)
 subst hO
 clear hc hl hlv
 go_enter Tryz.func56,Tryz.ntmps56
 go_wp2_with (at_builtin;refine wpList_app rfl _ _ 22 22 rfl 35 i0 (.int .u8 0) 1 1 Tryz.underlying22 hi hz0 hz1 hz2 rfl (by simp [Value.cells,Value.oneCell']) (w.heap.size + 1) _ 0 0 [] rfl (Own.nil _ _ _) _ n (cs.map u8V) rfl (Src.ofCells Tryz.underlying22 ca n cc _ (by rw [List.length_map,HL.out];omega) (HC.out.below HW.out) (ones u8V (fun _ => rfl) cs) (by decide)) (by simp only [maxLen];omega) (by omega) (by simp) ?_;intro a4 c4 w4 hown4 hap4;have HO4:Hid (Own w4 (w.heap.size + 1) 1 a4 n c4 (cs.map u8V)):=Lib.hid ((hown4.eqN (by omega)).eqL (by simp));have hb4:=hap4.below (Own.nil (w.alloc (.cells #[.slice pa m pc,.slice ca n cc,.int .i8 lv,.int .u8 sos,.int .u8 eos] 75)) (w.heap.size + 1) 1) (by simp);have HB4:=Lib.hid (HW.out.trans (hb4.mono (Nat.le_succ _)));have HX4:=Lib.hid ((hb4.block w.heap.size (by omega)).trans HX.out);have HS4:=Lib.hid (show w.heap.size + 1≤w4.heap.size by have:=hb4.size;simp at this;exact this);clear hown4 hap4 hb4)
 go_loopg [4] n (fun r s4 wr => ∃ (q:Nat) (vs:List Nat),q + r = n∧s4 = .int .i64 q∧vs.length = n∧Own wr (w.heap.size + 1) 1 a4 n c4 (vs.map u8V)∧Below (w.heap.size + 1) w4 wr)
 case atStart => exact ⟨0,cs,by omega,rfl,HL.out,HO4.out,Below.refl _ _⟩
 case round =>
  obtain ⟨q,vs,hq,rfl,hvs,hown,hbw⟩:=hrel
  obtain ⟨V,rfl⟩:∃ V:World,V = wr:=⟨_,rfl⟩
  obtain ⟨G,rfl⟩:∃ G,G = gk:=⟨_,rfl⟩
  have HQ:=Lib.hid hq
  have HO:=Lib.hid hown
  have HB:=Lib.hid hbw
  have HV:=Lib.hid hvs
  by_cases hlt:q < n
  · obtain ⟨g,rfl⟩:=hown.pos (by omega)
    have HXV:=Lib.hid ((hbw.block w.heap.size (by omega)).trans HX4.out)
    have hb1:=cells_at HXV.out 1
    have hb2:=cells_at HXV.out 2
    have hb3:=cells_at HXV.out 3
    have hb4:=cells_at HXV.out 4
    have HCV:=Lib.hid (HC.out.below (HB4.out.trans (hbw.mono (Nat.le_succ _))))
    obtain ⟨x,hx⟩:∃ x,cs[q]? = some x:=⟨_,List.getElem?_eq_getElem (by rw [HL.out];exact hlt)⟩
    obtain ⟨ab,ao,rfl,hcx⟩:=HCV.out.getm hx
    unfold u8V at hcx
    have hq0:(0:Int)≤(q:Int):=by omega
    have hq1:(q:Int) < (n:Int):=by omega
    have hq2:(q:Int)≤1048576:=by omega
    have HLT:=Lib.hid hlt
    clear hq hown hbw hvs hlt hx
    go_wp2_with fail
    refine (xneutral_any _ x).mono ?_
    rintro e w2 ⟨⟨nb,rfl⟩,rfl⟩
    cases nb with
    | false =>
     go_wp2
     go_roundg (G - 1)
     case measure => have:=HQ.out;have:=HLT.out;omega
     case rel => exact ⟨q + 1,vs,by have:=HQ.out;have:=HLT.out;omega,by go_num,HV.out,HO.out,HB.out⟩
    | true =>
     go_wp2_with fail
     go_quiet (fail)
     generalize hU:V.drewN _ = U
     have hBU:Below V.heap.size V U:=by rw [← hU];exact below_drewN (Below.refl _ _) _
     clear hb1 hb2 hb3 hb4 hcx
     have hown:=HO.out.below hBU
     have hbw:=HB.out.trans (hBU.mono (Nat.le_trans HS4.out HB.out.size))
     have HXU:=Lib.hid ((hbw.block w.heap.size (by have:=HS4.out;omega)).trans HX4.out)
     have hb1:=cells_at HXU.out 1
     have hb2:=cells_at HXU.out 2
     have HCU:=Lib.hid (HC.out.below (HB4.out.trans (hbw.mono (Nat.le_succ _))))
     obtain ⟨u,hu⟩:∃ u,vs[q]? = some u:=⟨_,List.getElem?_eq_getElem (by rw [HV.out];exact HLT.out)⟩
     obtain ⟨hc5,hf5⟩:=hown.getm hu
     unfold u8V at hc5
     have hfin:Hid (∀ y:Nat,∃ (q':Nat) (vs':List Nat),q' + (G - 1) = n∧Value.int .i64 ((q:Int) + 1) = .int .i64 q'∧vs'.length = n∧Own (U.setCell ⟨g,q,none⟩ (.int .u8 y)) (w.heap.size + 1) 1 (some ⟨g,0,none⟩) n c4 (vs'.map u8V)∧Below (w.heap.size + 1) w4 (U.setCell ⟨g,q,none⟩ (.int .u8 y))):=Lib.hid (fun y =>
      ⟨q + 1,vs.set q y,by have:=HQ.out;have:=HLT.out;omega,by go_num,by rw [List.length_set];exact HV.out,(hown.stored q HLT.out (u8V y)).eqL (by rw [List.map_set]),hown.storeBelow hbw q (u8V y)⟩)
     clear hown hbw hu hU hBU
     go_wp2_with fail
     go_loopg [5,7] q (fun r s5 s7 wr => ∃ iv:Int,iv = (r:Int) - 1∧r≤q∧s5 = .int .u8 sos∧s7 = .int .i64 iv∧U = wr)
     case atStart => exact ⟨_,rfl,Nat.le_refl _,rfl,rfl,rfl⟩
     case round =>
      obtain ⟨iv,hiv,hri,rfl,rfl,rfl⟩:=hrel
      obtain ⟨G1,rfl⟩:∃ G1,G1 = gk:=⟨_,rfl⟩
      cases G1 with
      | zero =>
       obtain rfl:iv = -1:=by omega
       clear hiv
       go_wp2_with fail
       go_loopg [6,8] (n - (q + 1)) (fun r s6 s8 wr => ∃ t:Nat,t + r = n∧s6 = .int .u8 eos∧s8 = .int .i64 t∧U = wr)
       case atStart => exact ⟨q + 1,by have:=HLT.out;omega,rfl,by go_num,rfl⟩
       case round =>
        obtain ⟨t,ht,rfl,rfl,rfl⟩:=hrel
        have HT:=Lib.hid ht
        have ht0:(0:Int)≤(t:Int):=by omega
        by_cases htl:t < n
        · obtain ⟨y,hy⟩:∃ y,cs[t]? = some y:=⟨_,List.getElem?_eq_getElem (by rw [HL.out];exact htl)⟩
          obtain ⟨yb,yo,hye,hcy⟩:=HCU.out.getm hy
          cases hye
          unfold u8V at hcy
          have ht1:(t:Int) < (n:Int):=by omega
          have HTL:=Lib.hid htl
          clear ht htl hy
          go_wp2_with fail
          refine (xneutral_any _ y).mono ?_
          rintro e w2 ⟨⟨nb2,rfl⟩,rfl⟩
          cases nb2 with
          | true =>
           go_wp2
           go_roundg (gk - 1)
           case measure => have:=HT.out;have:=HTL.out;omega
           case rel => exact ⟨t + 1,by have:=HT.out;have:=HTL.out;omega,rfl,by go_num,rfl⟩
          | false =>
           go_wp2_with fail
           refine (xway_any _ y).mono ?_
           rintro e w2 ⟨⟨y1,rfl⟩,rfl⟩
           cases hxy:((sos:Int) == (y1:Int)) with
           | true =>
            go_wp2
            go_roundg (G - 1)
            case measure => have:=HQ.out;have:=HLT.out;omega
            case rel => exact hfin.out _
           | false =>
            go_wp2_with fail
            refine (xWay_any _ lv HLV.out).mono ?_
            rintro e w2 ⟨⟨k1,rfl⟩,rfl⟩
            go_wp2
            go_roundg (G - 1)
            case measure => have:=HQ.out;have:=HLT.out;omega
            case rel => exact hfin.out _
        · obtain rfl:t = n:=by omega
          clear ht htl
          cases hxy:((sos:Int) == (eos:Int)) with
          | true =>
           go_wp2
           go_roundg (G - 1)
           case measure => have:=HQ.out;have:=HLT.out;omega
           case rel => exact hfin.out _
          | false =>
           go_wp2_with fail
           refine (xWay_any _ lv HLV.out).mono ?_
           rintro e w2 ⟨⟨k1,rfl⟩,rfl⟩
           go_wp2
           go_roundg (G - 1)
           case measure => have:=HQ.out;have:=HLT.out;omega
           case rel => exact hfin.out _
      | succ k =>
       obtain rfl:iv = (k:Int):=by omega
       clear hiv
       obtain ⟨z,hz⟩:∃ z,cs[k]? = some z:=⟨_,List.getElem?_eq_getElem (by have:=HL.out;have:=HLT.out;omega)⟩
       obtain ⟨zb,zo,hze,hcz⟩:=HCU.out.getm hz
       cases hze
       unfold u8V at hcz
       have hk0:(0:Int)≤(k:Int):=by omega
       have hk1:(k:Int) < (n:Int):=by omega
       have hk2:(k:Int)≤1048576:=by omega
       have HRI:=Lib.hid hri
       clear hz hri
       go_wp2_with fail
       refine (xneutral_any _ z).mono ?_
       rintro e w2 ⟨⟨nb,rfl⟩,rfl⟩
       cases nb with
       | true =>
        go_wp2
        go_roundg k
        case measure => omega
        case rel => exact ⟨_,rfl,by have:=HRI.out;omega,rfl,rfl,rfl⟩
       | false =>
        go_wp2_with fail
        refine (xway_any _ z).mono ?_
        rintro e w2 ⟨⟨x1,rfl⟩,rfl⟩
        go_wp2_with fail
        go_loopg [6,8] (n - (q + 1)) (fun r s6 s8 wr => ∃ t:Nat,t + r = n∧s6 = .int .u8 eos∧s8 = .int .i64 t∧U = wr)
        case atStart => exact ⟨q + 1,by have:=HLT.out;omega,rfl,by go_num,rfl⟩
        case round =>
         obtain ⟨t,ht,rfl,rfl,rfl⟩:=hrel
         have HT:=Lib.hid ht
         have ht0:(0:Int)≤(t:Int):=by omega
         by_cases htl:t < n
         · obtain ⟨y,hy⟩:∃ y,cs[t]? = some y:=⟨_,List.getElem?_eq_getElem (by rw [HL.out];exact htl)⟩
           obtain ⟨yb,yo,hye,hcy⟩:=HCU.out.getm hy
           cases hye
           unfold u8V at hcy
           have ht1:(t:Int) < (n:Int):=by omega
           have HTL:=Lib.hid htl
           clear ht htl hy
           go_wp2_with fail
           refine (xneutral_any _ y).mono ?_
           rintro e w2 ⟨⟨nb2,rfl⟩,rfl⟩
           cases nb2 with
           | true =>
            go_wp2
            go_roundg (gk - 1)
            case measure => have:=HT.out;have:=HTL.out;omega
            case rel => exact ⟨t + 1,by have:=HT.out;have:=HTL.out;omega,rfl,by go_num,rfl⟩
           | false =>
            go_wp2_with fail
            refine (xway_any _ y).mono ?_
            rintro e w2 ⟨⟨y1,rfl⟩,rfl⟩
            cases hxy:((x1:Int) == (y1:Int)) with
            | true =>
             go_wp2
             go_roundg (G - 1)
             case measure => have:=HQ.out;have:=HLT.out;omega
             case rel => exact hfin.out _
            | false =>
             go_wp2_with fail
             refine (xWay_any _ lv HLV.out).mono ?_
             rintro e w2 ⟨⟨k1,rfl⟩,rfl⟩
             go_wp2
             go_roundg (G - 1)
             case measure => have:=HQ.out;have:=HLT.out;omega
             case rel => exact hfin.out _
         · obtain rfl:t = n:=by omega
           clear ht htl
           cases hxy:((x1:Int) == (eos:Int)) with
           | true =>
            go_wp2
            go_roundg (G - 1)
            case measure => have:=HQ.out;have:=HLT.out;omega
            case rel => exact hfin.out _
           | false =>
            go_wp2_with fail
            refine (xWay_any _ lv HLV.out).mono ?_
            rintro e w2 ⟨⟨k1,rfl⟩,rfl⟩
            go_wp2
            go_roundg (G - 1)
            case measure => have:=HQ.out;have:=HLT.out;omega
            case rel => exact hfin.out _
  · obtain rfl:q = n:=by omega
    have HOF:=Lib.hid (hown.mono (Nat.le_succ _))
    have HBF:=Lib.hid (HB4.out.trans (hbw.mono (Nat.le_succ _)))
    clear hown hbw hq hlt
    go_wp2
    go_ret
    exact ⟨_,_,rfl,vs,HV.out,HOF.out,HBF.out⟩
end Go.Proofs.YtjnidopbdjbbgaaGreat
end
