/-
  The reference's runs (Runs): walked (printed by mk_rruns.py).
-/
import Derived.Test.YtjnidopbdjbbgaaGreatB27
import Derived.Test.YtjnidopbdjbbgaaGreatB23
import Derived.BigQuiet
import Derived.Deep.RegionLaw
import Derived.Laws.Small
namespace Go.Proofs.YtjnidopbdjbbgaaGreat
open Go.RowKit
set_option linter.unusedVariables false
attribute [local go_sem] Oper.semAt_some
set_option maxRecDepth 20000 in
set_option maxHeartbeats 8000000 in
theorem xruns_any (w:World) (a la:Option Addr) (n c lc:Nat) (l:List Nat) (lv:List Int) (hl:l.length = n) (hlv:lv.length = n) (hn:n≤1048576) (hbd:LvIn l lv) (hc:Cells w a (l.map u8V)) (hcl:Cells w la (lv.map i8V)):
 Calls Tryz.prog 91 #[.slice a n c,.slice la n lc] w fun e w' => ∃ ra rc R,e = .returned (.slice ra R.length rc)∧XOk (keptOf l) R∧XRuns w' ra R∧Below w.heap.size w w':=by
 obtain ⟨i3,hi3,ha0,ha1,ha2⟩:=info_parts info3
 obtain ⟨i165,hi165,hb0,hb1,hb2⟩:=info_parts info165
 have HC:=Lib.hid hc
 have HCL:=Lib.hid hcl
 have HL:=Lib.hid hl
 have HLV:=Lib.hid hlv
 have HBD:=Lib.hid hbd
 have HKP:=Lib.hid (fun w' h => xkept_any w' a c l (by omega) h)
 rw [hl] at HKP
 clear hc hcl hl hlv hbd
 go_enter Tryz.func91,Tryz.ntmps91
 go_wp2_with (go_at_call 124;refine (HKP.out _ HC.out).mono ?_;rintro e w1 ⟨ka,kc,rfl,ko,b1⟩;have HKO:=Lib.hid ko;have HB1:=Lib.hid b1;clear ko b1)
 obtain ⟨m,hm⟩:∃ m,m = (keptOf l).length:=⟨_,rfl⟩
 have HMN:=Lib.hid (show m≤n by have:=keptTo_le l l.length;have:=HL.out;rw [hm];unfold keptOf;omega)
 have HM:=Lib.hid hm
 rw [← hm] at HKO ⊢
 clear hm
 go_loopg [5,7] m (fun r s5 s7 wr => ∃ (k rc:Nat) (ra:Option Addr) (R:List XR),k + r = m∧s5 = .slice ra R.length rc∧s7 = .int .i64 k∧RI w1 wr w1.heap.size ra rc R∧XOk ((keptOf l).take k) R)
 case atStart => exact ⟨0,0,none,[],by omega,rfl,rfl,RI.start,XOk.start⟩
 case round =>
  obtain ⟨k,rc,ra,R,hk,rfl,rfl,hi,hx⟩:=hrel
  obtain ⟨V,rfl⟩:∃ V:World,V = wr:=⟨_,rfl⟩
  obtain ⟨G,rfl⟩:∃ G,G = gk:=⟨_,rfl⟩
  have HI:=Lib.hid hi
  have HX:=Lib.hid hx
  have HK:=Lib.hid hk
  by_cases hlt:k < m
  · obtain ⟨p,hp⟩:∃ p,(keptOf l)[k]? = some p:=⟨_,List.getElem?_eq_getElem (by rw [← HM.out];exact hlt)⟩
    have hpn:p < n:=by have:=kept_below (List.mem_of_getElem? hp);have:=HL.out;omega
    obtain ⟨v,hv⟩:∃ v,lv[p]? = some v:=⟨_,List.getElem?_eq_getElem (by rw [HLV.out];exact hpn)⟩
    have HVB:=Lib.hid (show -128≤v∧v≤127 from by obtain ⟨x,hx,hr⟩:=kept_in (List.mem_of_getElem? hp);exact HBD.out p x v hx hr hv)
    have HCLV:=Lib.hid (HCL.out.below (HB1.out.trans (hi.below.mono HB1.out.size)))
    have HKV:=Lib.hid (HKO.out.toCells.below hi.below)
    obtain ⟨lb,lo,rfl,hcv⟩:=HCLV.out.getm hv
    obtain ⟨kb,kof,rfl,hck⟩:=HKV.out.getm hp
    unfold i8V at hcv
    unfold natV at hck
    have HP:=Lib.hid hp
    have HVAT:=Lib.hid hv
    have HTK:=Lib.hid (show (keptOf l).take (k + 1) = (keptOf l).take k ++ [p] by rw [List.take_add_one,hp];rfl)
    have HBN:=Lib.hid (show (keptOf l).length≤1048576 from by rw [← HM.out];exact Nat.le_trans HMN.out hn)
    have HRL:=Lib.hid (show R.length≤1048576 from by
     have h1:R.length≤(R.flatMap XR.ps).length:=runs_cnt hx.pos
     rw [hx.all,List.length_take] at h1
     have:=HBN.out
     omega)
    have hp0:(0:Int)≤(p:Int):=by omega
    have hp1:(p:Int) < (n:Int):=by omega
    have hk0:(0:Int)≤(k:Int):=by omega
    have hk1:(k:Int) < (m:Int):=by omega
    have HKM:=Lib.hid hlt
    have hk5:(k:Int)≤1048576:=by have:=HBN.out;have:=HM.out;omega
    clear hi hx hk hlt hp hv
    rcases Nat.eq_zero_or_pos k with hkz | hkp
    · have hke0:((k:Int) == 0) = true:=by rw [hkz];rfl
      clear hkz
      go_wp2_with fail
      go_upto_region 6 with (fail)
      go_quiet (fail)
      generalize hU:V.drewN _ = U
      have hBU:Below V.heap.size V U:=by rw [← hU];exact below_drewN (Below.refl _ _) _
      clear hcv hck
      have HIU:=Lib.hid (HI.out.after hBU HI.out.below.size)
      have HCLU:=Lib.hid (HCLV.out.below hBU)
      have HKU:=Lib.hid (HKV.out.below hBU)
      obtain ⟨_,_,he,hcv⟩:=HCLU.out.getm (show lv[p]? = some v from HVAT.out)
      cases he
      obtain ⟨_,_,he,hck⟩:=HKU.out.getm HP.out
      cases he
      unfold i8V at hcv
      unfold natV at hck
      clear hU hBU
      go_wp2_with (at_builtin;refine wpList_pushN rfl _ _ 161 rfl 165 i165 _ 2 32 Tryz.underlying161 hi165 hb0 hb1 (by decide) hb2 rfl (by simp [Value.cells,Value.oneCell']) w1.heap.size ra R.length rc (xrV R) rfl U [.slice none 0 0,.int .i8 v] rfl rfl HIU.out.own _ rfl rfl (by simp [Value.oneCell']) (by have:=HRL.out;omega) (by decide) HIU.out.below.size ?_;intro ra5 rc5 W5 hown5 hap5 hb5;have HI5:=Lib.hid (HIU.out.push hown5 hap5 hb5);clear hown5 hap5 hb5)
      have HPRE:=Lib.hid (HX.out.new HVB.out)
      have HQL:=HRL
      obtain ⟨g,rfl⟩:=HI5.out.own.pos (by simp)
      have HKV5:=Lib.hid (HKO.out.toCells.below HI5.out.below)
      clear hcv hck HIU HCLU HKU HI HX HRL
      obtain ⟨_,_,he,hck⟩:=HKV5.out.getm HP.out
      cases he
      unfold natV at hck
      have hbx:W5.cell? ⟨g,R.length * 2,none⟩ = some (.slice none 0 0):=(HI5.out.own.look (xrV_at (R ++ [(⟨none,0,[],v⟩:XR)]) R.length (⟨none,0,[],v⟩:XR) (by simp)).1).1
      have hbxa:(W5.alloc (.cells #[.int .i64 p] 3)).cell? ⟨g,R.length * 2,none⟩ = some (.slice none 0 0):=(((Below.refl W5.heap.size W5).alloc (Nat.le_refl _) _).cell (World.block_lt_of_cell? W5 _ hbx)).trans hbx
      have HID:Hid (RI w1 W5.drew w1.heap.size (some ⟨g,0,none⟩) rc5 (R ++ [(⟨none,0,[],v⟩:XR)])):=Lib.hid (HI5.out.after ((Below.refl _ _).drew) HI5.out.below.size)
      have HRN:Hid (0≤1048576):=Lib.hid (by have h1:=congrArg List.length HPRE.out.all;rw [List.length_append,List.length_take] at h1;have:=HBN.out;(try simp only [List.length_nil] at h1 ⊢);omega)
      have HBB:Hid (∀ o,w1.heap.size≤(W5.drew.alloc o).heap.size):=Lib.hid fun o => by rw [World.size_alloc];exact Nat.le_trans HI5.out.below.size (Nat.le_succ _)
      have hq0:(0:Int)≤(R.length:Int):=by omega
      have hq1:(R.length:Int) < (R.length:Int) + 1:=by omega
      have hq2:(R.length:Int)≤1048576:=by have:=HQL.out;omega
      have hwr:=IntWalk.i64_in (R.length:Int) (by omega)
      go_upto_region 8 with (fail)
      go_region_law (refine step_app (by rfl) _ _ 33 33 (by rfl) 3 i3 (.int .i64 0) 1 8 Tryz.underlying33 hi3 ha0 ha1 ha2 rfl (by simp [Value.cells,Value.oneCell']) w1.heap.size none 0 0 _ (by rfl) ((HID.out.ps (⟨none,0,[],v⟩:XR) (by simp)).alloc _) _ 1 [.int .i64 p] (by rfl) (Src.ofCells Tryz.underlying33 _ _ _ _ rfl (Cells.new W5.drew [.int .i64 p] 3) (by simp [Value.oneCell']) (by decide)) (by have:=HRN.out;simp only [maxLen];omega) (by have:=HRN.out;omega) (HBB.out _) ?_;intro a7 c7 w7 hown7 hap7;have HI7:=Lib.hid (HID.out.add hown7 hap7);have e0:=(HID.out.box hap7).1;have e1:=(HID.out.box hap7).2;clear hown7 hap7)
      all_goals
       go_wp2_with fail
       go_roundg (G - 1)
       case measure => have:=HK.out;have:=HKM.out;omega
       case rel => exact ⟨k + 1,rc5,some ⟨g,0,none⟩,_,by have:=HK.out;have:=HKM.out;omega,by simp,by go_num,HI7.out,by rw [HTK.out];exact HPRE.out.fin p _ _⟩
    · have hke0:((k:Int) == 0) = false:=by simp;omega
      obtain ⟨j,hjk⟩:∃ j,j + 1 = k:=⟨k - 1,by omega⟩
      have hkj:(k:Int) - 1 = (j:Int):=by omega
      have hjm:j < m:=by have:=HKM.out;omega
      obtain ⟨u,hu⟩:∃ u,(keptOf l)[j]? = some u:=⟨_,List.getElem?_eq_getElem (by rw [← HM.out];exact hjm)⟩
      have hun:u < n:=by have:=kept_below (List.mem_of_getElem? hu);have:=HL.out;omega
      obtain ⟨v2,hv2⟩:∃ v,lv[u]? = some v:=⟨_,List.getElem?_eq_getElem (by rw [HLV.out];exact hun)⟩
      obtain ⟨_,_,he,hcv2⟩:=HCLV.out.getm hv2
      cases he
      obtain ⟨_,_,he,hck2⟩:=HKV.out.getm hu
      cases he
      unfold i8V at hcv2
      unfold natV at hck2
      have hu0:(0:Int)≤(u:Int):=by omega
      have hu1:(u:Int) < (n:Int):=by omega
      have hj0:(0:Int)≤(j:Int):=by omega
      have hj1:(j:Int) < (m:Int):=by omega
      have HJK:=Lib.hid hjk
      clear hu hv2 hkp hjm hun hjk
      cases hvv:(v == v2) with
      | false =>
       have hvn:(v != v2) = true:=by simp [bne,hvv]
       clear hvv
       have hk4:(k:Int)≤1048576:=by have:=HBN.out;have:=HM.out;omega
       go_wp2_with fail
       go_upto_region 6 with (fail)
       go_quiet (fail)
       generalize hU:V.drewN _ = U
       have hBU:Below V.heap.size V U:=by rw [← hU];exact below_drewN (Below.refl _ _) _
       clear hcv hck hcv2 hck2
       have HIU:=Lib.hid (HI.out.after hBU HI.out.below.size)
       have HCLU:=Lib.hid (HCLV.out.below hBU)
       have HKU:=Lib.hid (HKV.out.below hBU)
       obtain ⟨_,_,he,hcv⟩:=HCLU.out.getm (show lv[p]? = some v from HVAT.out)
       cases he
       obtain ⟨_,_,he,hck⟩:=HKU.out.getm HP.out
       cases he
       unfold i8V at hcv
       unfold natV at hck
       clear hU hBU
       go_wp2_with (at_builtin;refine wpList_pushN rfl _ _ 161 rfl 165 i165 _ 2 32 Tryz.underlying161 hi165 hb0 hb1 (by decide) hb2 rfl (by simp [Value.cells,Value.oneCell']) w1.heap.size ra R.length rc (xrV R) rfl U [.slice none 0 0,.int .i8 v] rfl rfl HIU.out.own _ rfl rfl (by simp [Value.oneCell']) (by have:=HRL.out;omega) (by decide) HIU.out.below.size ?_;intro ra5 rc5 W5 hown5 hap5 hb5;have HI5:=Lib.hid (HIU.out.push hown5 hap5 hb5);clear hown5 hap5 hb5)
       have HPRE:=Lib.hid (HX.out.new HVB.out)
       have HQL:=HRL
       obtain ⟨g,rfl⟩:=HI5.out.own.pos (by simp)
       have HKV5:=Lib.hid (HKO.out.toCells.below HI5.out.below)
       clear hcv hck HIU HCLU HKU HI HX HRL
       obtain ⟨_,_,he,hck⟩:=HKV5.out.getm HP.out
       cases he
       unfold natV at hck
       have hbx:W5.cell? ⟨g,R.length * 2,none⟩ = some (.slice none 0 0):=(HI5.out.own.look (xrV_at (R ++ [(⟨none,0,[],v⟩:XR)]) R.length (⟨none,0,[],v⟩:XR) (by simp)).1).1
       have hbxa:(W5.alloc (.cells #[.int .i64 p] 3)).cell? ⟨g,R.length * 2,none⟩ = some (.slice none 0 0):=(((Below.refl W5.heap.size W5).alloc (Nat.le_refl _) _).cell (World.block_lt_of_cell? W5 _ hbx)).trans hbx
       have HID:Hid (RI w1 W5.drew w1.heap.size (some ⟨g,0,none⟩) rc5 (R ++ [(⟨none,0,[],v⟩:XR)])):=Lib.hid (HI5.out.after ((Below.refl _ _).drew) HI5.out.below.size)
       have HRN:Hid (0≤1048576):=Lib.hid (by have h1:=congrArg List.length HPRE.out.all;rw [List.length_append,List.length_take] at h1;have:=HBN.out;(try simp only [List.length_nil] at h1 ⊢);omega)
       have HBB:Hid (∀ o,w1.heap.size≤(W5.drew.alloc o).heap.size):=Lib.hid fun o => by rw [World.size_alloc];exact Nat.le_trans HI5.out.below.size (Nat.le_succ _)
       have hq0:(0:Int)≤(R.length:Int):=by omega
       have hq1:(R.length:Int) < (R.length:Int) + 1:=by omega
       have hq2:(R.length:Int)≤1048576:=by have:=HQL.out;omega
       have hwr:=IntWalk.i64_in (R.length:Int) (by omega)
       go_upto_region 8 with (fail)
       go_region_law (refine step_app (by rfl) _ _ 33 33 (by rfl) 3 i3 (.int .i64 0) 1 8 Tryz.underlying33 hi3 ha0 ha1 ha2 rfl (by simp [Value.cells,Value.oneCell']) w1.heap.size none 0 0 _ (by rfl) ((HID.out.ps (⟨none,0,[],v⟩:XR) (by simp)).alloc _) _ 1 [.int .i64 p] (by rfl) (Src.ofCells Tryz.underlying33 _ _ _ _ rfl (Cells.new W5.drew [.int .i64 p] 3) (by simp [Value.oneCell']) (by decide)) (by have:=HRN.out;simp only [maxLen];omega) (by have:=HRN.out;omega) (HBB.out _) ?_;intro a7 c7 w7 hown7 hap7;have HI7:=Lib.hid (HID.out.add hown7 hap7);have e0:=(HID.out.box hap7).1;have e1:=(HID.out.box hap7).2;clear hown7 hap7)
       all_goals
        go_wp2_with fail
        go_roundg (G - 1)
        case measure => have:=HK.out;have:=HKM.out;omega
        case rel => exact ⟨k + 1,rc5,some ⟨g,0,none⟩,_,by have:=HK.out;have:=HKM.out;omega,by simp,by go_num,HI7.out,by rw [HTK.out];exact HPRE.out.fin p _ _⟩
      | true =>
       have hvn:(v != v2) = false:=by simp [bne,hvv]
       clear hvv
       have hk4:(k:Int)≤1048576:=by have:=HBN.out;have:=HM.out;omega
       go_wp2_with fail
       go_upto_region 6 with (fail)
       go_quiet (fail)
       generalize hU:V.drewN _ = U
       have hBU:Below V.heap.size V U:=by rw [← hU];exact below_drewN (Below.refl _ _) _
       clear hcv hck hcv2 hck2
       obtain ⟨Q,r,hQ⟩:=HX.out.ends (by have:=HKM.out;have:=HM.out;intro e;have:=congrArg List.length e;simp only [List.length_take,List.length_nil] at this;have:=HJK.out;omega)
       have HI5:Hid (RI w1 U w1.heap.size ra rc (Q ++ [r])):=Lib.hid (by rw [← hQ];exact HI.out.after hBU HI.out.below.size)
       have HPRE:Hid (XPre ((keptOf l).take k) Q r):=Lib.hid (by have:=HX.out;rw [hQ] at this;exact this.last)
       have hRQ:R.length = Q.length + 1:=by rw [hQ];simp
       have HQL:Hid (Q.length≤1048576):=Lib.hid (by have:=HRL.out;omega)
       rw [hRQ]
       clear hQ hRQ HI HX HRL hU hBU
       obtain ⟨W5,rfl⟩:∃ W5:World,W5 = U:=⟨_,rfl⟩
       obtain ⟨g,rfl⟩:=HI5.out.own.pos (by simp)
       have HKV5:=Lib.hid (HKO.out.toCells.below HI5.out.below)
       obtain ⟨_,_,he,hck⟩:=HKV5.out.getm HP.out
       cases he
       unfold natV at hck
       have hbx:W5.cell? ⟨g,Q.length * 2,none⟩ = some (.slice r.pa r.ps.length r.pc):=(HI5.out.own.look (xrV_at (Q ++ [r]) Q.length r (by simp)).1).1
       have hbxa:(W5.alloc (.cells #[.int .i64 p] 3)).cell? ⟨g,Q.length * 2,none⟩ = some (.slice r.pa r.ps.length r.pc):=(((Below.refl W5.heap.size W5).alloc (Nat.le_refl _) _).cell (World.block_lt_of_cell? W5 _ hbx)).trans hbx
       have HID:Hid (RI w1 W5.drew w1.heap.size (some ⟨g,0,none⟩) rc (Q ++ [r])):=Lib.hid (HI5.out.after ((Below.refl _ _).drew) HI5.out.below.size)
       have HRN:Hid (r.ps.length≤1048576):=Lib.hid (by have h1:=congrArg List.length HPRE.out.all;rw [List.length_append,List.length_take] at h1;have:=HBN.out;(try simp only [List.length_nil] at h1 ⊢);omega)
       have HBB:Hid (∀ o,w1.heap.size≤(W5.drew.alloc o).heap.size):=Lib.hid fun o => by rw [World.size_alloc];exact Nat.le_trans HI5.out.below.size (Nat.le_succ _)
       have hq0:(0:Int)≤(Q.length:Int):=by omega
       have hq1:(Q.length:Int) < (Q.length:Int) + 1:=by omega
       have hq2:(Q.length:Int)≤1048576:=by have:=HQL.out;omega
       have hwr:=IntWalk.i64_in (Q.length:Int) (by omega)
       go_upto_region 8 with (fail)
       go_region_law (refine step_app (by rfl) _ _ 33 33 (by rfl) 3 i3 (.int .i64 0) 1 8 Tryz.underlying33 hi3 ha0 ha1 ha2 rfl (by simp [Value.cells,Value.oneCell']) w1.heap.size r.pa r.ps.length r.pc _ (by rfl) ((HID.out.ps r (by simp)).alloc _) _ 1 [.int .i64 p] (by rfl) (Src.ofCells Tryz.underlying33 _ _ _ _ rfl (Cells.new W5.drew [.int .i64 p] 3) (by simp [Value.oneCell']) (by decide)) (by have:=HRN.out;simp only [maxLen];omega) (by have:=HRN.out;omega) (HBB.out _) ?_;intro a7 c7 w7 hown7 hap7;have HI7:=Lib.hid (HID.out.add hown7 hap7);have e0:=(HID.out.box hap7).1;have e1:=(HID.out.box hap7).2;clear hown7 hap7)
       all_goals
        go_wp2_with fail
        go_roundg (G - 1)
        case measure => have:=HK.out;have:=HKM.out;omega
        case rel => exact ⟨k + 1,rc,some ⟨g,0,none⟩,_,by have:=HK.out;have:=HKM.out;omega,by simp,by go_num,HI7.out,by rw [HTK.out];exact HPRE.out.fin p _ _⟩
  · obtain rfl:k = m:=by omega
    have hR:Hid (XRuns V ra R):=Lib.hid hi.toRuns
    have HXX:Hid (XOk (keptOf l) R):=Lib.hid (by have:=HX.out;rw [List.take_of_length_le (by rw [← HM.out];exact Nat.le_refl _)] at this;exact this)
    have HB:=Lib.hid (HB1.out.trans (hi.below.mono HB1.out.size))
    clear hi hx hk hlt
    go_wp2
    go_ret
    exact ⟨ra,rc,R,rfl,HXX.out,hR.out,HB.out⟩
end Go.Proofs.YtjnidopbdjbbgaaGreat
