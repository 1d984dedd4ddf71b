/-
  The reference's Classes: walked: it ends, and when it tells an error.
-/
import Derived.Test.YtjnidopbdjbbgaaGreatB37
import Derived.Test.YtjnidopbdjbbgaaGreatB26
namespace Go.Proofs.YtjnidopbdjbbgaaGreat
open Go.RowKit
set_option linter.unusedVariables false
def RefC (w:World) (l:List Nat) (b:Int) (e:Ending) (w':World):Prop:=∃ (bx err:Int) (ka la:Option Addr) (n1 n2 kc lc:Nat),e = .returned (.tuple #[.agg #[.int .i8 bx,.slice ka n1 kc,.slice la n2 lc],.int .i64 err]) ∧
 ((mayB b = true∧lastB (l.map knownOf) = true∧err = 0)∨((mayB b = false∨lastB (l.map knownOf) = false)∧(err = 2∨err = 210)))∧Below w.heap.size w w'
theorem three_below {w W:World} (h:Below w.heap.size w W) (x y z:Value):Below w.heap.size w (((W.setCell ⟨w.heap.size,0,none⟩ x).setCell ⟨w.heap.size,1,none⟩ y).setCell ⟨w.heap.size,2,none⟩ z):=
 ((h.setCell (p:=⟨w.heap.size,0,none⟩) (Nat.le_refl _) _).setCell (p:=⟨w.heap.size,1,none⟩) (Nat.le_refl _) _).setCell (p:=⟨w.heap.size,2,none⟩) (Nat.le_refl _) _
set_option maxRecDepth 20000 in
set_option maxHeartbeats 8000000 in
theorem refC_any (w:World) (a:Option Addr) (c:Nat) (l:List Nat) (b:Int) (hn:l.length≤1048576) (hc:Cells w a (l.map u8V)):
 Calls Tryz.prog 10 #[.slice a l.length c,.int .i8 b] w fun e w' => ∃ (bx err:Int) (ka la:Option Addr) (n1 n2 kc lc:Nat),e = .returned (.tuple #[.agg #[.int .i8 bx,.slice ka n1 kc,.slice la n2 lc],.int .i64 err]) ∧
  ((mayB b = true∧lastB (l.map knownOf) = true∧err = 0)∨((mayB b = false∨lastB (l.map knownOf) = false)∧(err = 2∨err = 210)))∧Below w.heap.size w w':=by
 show Calls _ _ _ _ (RefC w l b)
 obtain ⟨i0,hi,hz0,hz1,hz2⟩:=info_parts info35
 have HC:=Lib.hid hc
 have hh:=heap_alloc_new w (.cells #[.int .i8 0,.slice none 0 0,.slice none 0 0] 29)
 have HH:=Lib.hid hh
 have HB0:=Lib.hid (show Below w.heap.size w (w.alloc (.cells #[.int .i8 0,.slice none 0 0,.slice none 0 0] 29)) from (Below.refl _ _).alloc (Nat.le_refl _) _)
 cases hm:mayB b with
 | false =>
  have HM:=Lib.hid hm
  have hb:¬ (b = -1∨b = 0∨b = 1):=fun h => by rw [(mayB_iff b).2 h] at hm;cases hm
  have hb1:(b != -1) = true:=by simp;omega
  have hb2:(b != 0) = true:=by simp;omega
  have hb3:(b != 1) = true:=by simp;omega
  clear hc hh hm hb
  go_enter Tryz.func10,Tryz.ntmps10
  go_wp2
  exact bodyPost_ret (res10 _ _ _ _ _ _ HH.out rfl rfl) rfl ⟨0,2,none,none,0,0,0,0,rfl,.inr ⟨.inl HM.out,.inl rfl⟩,HB0.out⟩
 | true =>
  have HM:=Lib.hid hm
  have HMB:=Lib.hid ((mayB_iff b).1 hm)
  obtain ⟨n,hnn⟩:∃ n,n = l.length:=⟨_,rfl⟩
  have HN:=Lib.hid hnn
  rw [← hnn] at hn ⊢
  have hn2:(n:Int)≤1048576:=by omega
  have hn3:¬ (1048576:Int) < (n:Int):=by omega
  obtain ⟨L,hL⟩:∃ L,L = l.map knownOf:=⟨_,rfl⟩
  have HL:=Lib.hid hL
  have HLN:=Lib.hid (show L.length = n from by rw [hL,List.length_map,hnn])
  have HKN:Hid (∀ (x:Nat),x∈L→1≤x∧x≤23):=Lib.hid fun x hx => by
   rw [hL] at hx
   obtain ⟨y,_,rfl⟩:=List.mem_map.1 hx
   unfold knownOf
   split <;> omega
  clear hc hh hm hnn hL
  go_enter Tryz.func10,Tryz.ntmps10
  go_upto_region 1 with (fail)
  obtain ⟨W0,hW0⟩:∃ W0,W0 = w.alloc (.cells #[.int .i8 0,.slice none 0 0,.slice none 0 0] 29):=⟨_,rfl⟩
  rw [← hW0] at HH HB0 ⊢
  clear hW0
  go_cut [17] from 8 to 17 (fun s17 wx => s17 = .bool false∧W0 = wx)
  case first =>
   rcases HMB.out with rfl | rfl | rfl
   all_goals
    go_wp2
    go_meet
    case rel => exact ⟨rfl,rfl⟩
  case rest =>
  obtain ⟨rfl,rfl⟩:=hcut
  have HS0:=Lib.hid (Array.getElem?_eq_some_iff.1 HH.out).1
  go_wp2_with fail
  go_loopg [6,7] n (fun r s6 s7 wr => ∃ (k oc:Nat) (oa:Option Addr),k + r = n∧s6 = .slice oa k oc∧s7 = .int .i64 k∧Own wr W0.heap.size 1 oa k oc ((L.take k).map u8V)∧Below W0.heap.size W0 wr)
  case atStart => exact ⟨0,0,none,by omega,rfl,rfl,Own.nil _ _ _,Below.refl _ _⟩
  case round =>
   obtain ⟨k,oc,oa,hk,rfl,rfl,ho,hb⟩:=hrel
   obtain ⟨V,rfl⟩:∃ V:World,V = wr:=⟨_,rfl⟩
   have HK:=Lib.hid hk
   have HO:=Lib.hid ho
   have HB:=Lib.hid hb
   by_cases hlt:k < n
   · obtain ⟨x,hx⟩:∃ x,l[k]? = some x:=⟨_,List.getElem?_eq_getElem (by rw [← HN.out];exact hlt)⟩
     obtain ⟨ab,ao,rfl,hcx⟩:=(HC.out.below (HB0.out.trans (hb.mono HB0.out.size))).getm hx
     unfold u8V at hcx
     have HT:=Lib.hid (show L.take (k + 1) = L.take k ++ [knownOf x] from by rw [List.take_add_one,HL.out,List.getElem?_map,hx];rfl)
     have hk0:(0:Int)≤(k:Int):=by omega
     have hk1:(k:Int) < (n:Int):=by omega
     have HLT:=Lib.hid hlt
     clear hk ho hb hlt hx
     go_wp2_with (first
      | (go_at_call 28;refine (knownR_any _ x).mono ?_;rintro e w2 ⟨rfl,rfl⟩)
      | (at_builtin;refine wpList_push rfl _ _ 22 rfl 35 i0 (.int .u8 0) 1 Tryz.underlying22 hi hz0 hz1 hz2 rfl rfl W0.heap.size oa k oc _ rfl _ _ rfl HO.out _ rfl rfl rfl (by have:=HLT.out;omega) (by decide) HB.out.size ?_;intro oa5 oc5 w5 h1 h2 h3;have HO5:=Lib.hid h1;have HB5:=Lib.hid (HB.out.trans h3);clear h1 h2 h3))
     go_roundg (gk - 1)
     case measure => have:=HK.out;have:=HLT.out;omega
     case rel => exact ⟨k + 1,oc5,oa5,by have:=HK.out;have:=HLT.out;omega,rfl,by go_num,HO5.out.eqL (by rw [HT.out,List.map_append];rfl),HB5.out⟩
   · obtain rfl:n = k:=by omega
     have HOL:=Lib.hid (show Own V W0.heap.size 1 oa n oc (L.map u8V) from ho.eqL (by rw [List.take_of_length_le (by rw [HLN.out];exact Nat.le_refl _)]))
     have HHV:=Lib.hid ((hb.block _ HS0.out).trans HH.out)
     have HBV:=Lib.hid (HB0.out.trans (hb.mono HB0.out.size))
     have HPA:Hid (∀ w',Cells w' oa (L.map u8V)→Calls Tryz.prog 29 #[.slice none 0 0,.slice oa n oc] w' fun e w'' => e = .returned (.bool (lastB L))∧w' = w''):=Lib.hid (fun w' h => by have:=xpara_any w' oa oc L (by rw [HLN.out];exact hn) h;rw [HLN.out] at this;exact this)
     have HRS:Hid (∀ w',Cells w' oa (L.map u8V)→Calls Tryz.prog 30 #[.agg #[.int .u8 0,.slice none 0 0],.slice none 0 0,.slice oa n oc,.int .i8 b] w' (RefP w')):=Lib.hid (fun w' h => xresol_any w' oa n oc L b HMB.out HKN.out HLN.out hn h)
     clear hk ho hb hlt
     go_wp2_with fail
     refine (HPA.out _ HOL.out.toCells).mono ?_
     rintro e w2 ⟨rfl,rfl⟩
     cases hla:lastB L with
     | false =>
      have n0:=cells_at HHV.out 0
      have n1:=cells_at HHV.out 1
      have n2:=cells_at HHV.out 2
      have z0:=frozen_at HHV.out 0
      have z1:=frozen_at HHV.out 1
      have z2:=frozen_at HHV.out 2
      have hr:=heap_set3 HHV.out (.int .i8 0) (.slice none 0 0) (.slice none 0 0)
      go_wp2
      exact bodyPost_ret (res10 _ _ _ _ _ _ hr rfl rfl) rfl ⟨0,210,none,none,0,0,0,0,rfl,.inr ⟨.inr (by rw [← HL.out];exact hla),.inr rfl⟩,three_below HBV.out _ _ _⟩
     | true =>
      have HLA:=Lib.hid hla
      clear hla
      go_wp2_with fail
      refine (HRS.out _ HOL.out.toCells).mono ?_
      rintro e w3 ⟨bx,ka,la,n1,n2,kc,lc,rfl,b3⟩
      have hh3:=(b3.block _ (Array.getElem?_eq_some_iff.1 HHV.out).1).trans HHV.out
      have m0:=cells_at hh3 0
      have m1:=cells_at hh3 1
      have m2:=cells_at hh3 2
      have z0:=frozen_at hh3 0
      have z1:=frozen_at hh3 1
      have z2:=frozen_at hh3 2
      have hr:=heap_set3 hh3 (.int .i8 bx) (.slice ka n1 kc) (.slice la n2 lc)
      have HBF:=Lib.hid (HBV.out.trans (b3.mono HBV.out.size))
      clear b3 hh3
      go_wp2
      exact bodyPost_ret (res10 _ _ _ _ _ _ hr rfl rfl) rfl ⟨bx,0,ka,la,n1,n2,kc,lc,rfl,.inl ⟨HM.out,by rw [← HL.out];exact HLA.out,rfl⟩,three_below HBF.out _ _ _⟩
end Go.Proofs.YtjnidopbdjbbgaaGreat
