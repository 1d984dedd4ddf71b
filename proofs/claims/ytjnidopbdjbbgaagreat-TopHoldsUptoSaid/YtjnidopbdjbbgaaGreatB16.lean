/-
  The weak rules W1, W2, W3, W6, W7: walked (printed by genweak.py).
-/
import Derived.Test.YtjnidopbdjbbgaaGreatB07
namespace Go.Proofs.YtjnidopbdjbbgaaGreat
open Go.RowKit
set_option linter.unusedVariables false
set_option maxRecDepth 20000
set_option maxHeartbeats 4000000
theorem letters_any (w:World) (B wb g c:Nat) (sos:Nat) (l:List Nat) (hl:l.length≤1099511627776) (h23:∀ x∈l,1≤x∧x≤23) (hs:sos = 1∨sos = 2) (h:WkAt w w wb B g c sos l.length l):
 Calls Tryz.prog 77 #[.pointer (some ⟨wb,0,none⟩)] w fun e w' => e = .returned (.tuple #[])∧WkAt w w' wb B g c sos l.length (scan (fun (_:Unit) c => (w3 c,())) () l):=by
 have H23:=Lib.hid h23
 have HW:=Lib.hid h
 obtain ⟨n,hn⟩:∃ n,n = l.length:=⟨_,rfl⟩
 have HN:=Lib.hid hn
 rw [← hn] at hl HW ⊢
 obtain ⟨c0,c1⟩:=HW.out.cells
 have hsi:(sos:Int) = 1∨(sos:Int) = 2:=by omega
 clear h23 h hn
 go_enter Tryz.func77,Tryz.ntmps77
 go_wp2
 go_loopg [9] n (fun r i wr => ∃ k:Nat,k + r = n∧i = .int .i64 k∧WkAt w wr wb B g c sos n (scanAt (fun (_:Unit) c => (w3 c,())) () l k))
 case atStart => exact ⟨0,by omega,rfl,HW.out⟩
 case round =>
  obtain ⟨k,hk,rfl,hA⟩:=hrel
  by_cases hlt:k < n
  · obtain ⟨x,hx⟩:∃ x,l[k]? = some x:=⟨_,List.getElem?_eq_getElem (by rw [← HN.out];exact hlt)⟩
    have hx23:=H23.out x (List.mem_of_getElem? hx)
    obtain ⟨d0,d1⟩:=hA.cells
    obtain ⟨hcx,hfx⟩:=hA.own.getm (scanAt_here (fun (_:Unit) c => (w3 c,())) () hx)
    unfold u8V at hcx
    have HX:=Lib.hid hx
    have HA:=Lib.hid hA
    have HK:=Lib.hid hk
    have hk0:(0:Int)≤(k:Int):=by omega
    have hk1:(k:Int) < (n:Int):=by omega
    clear hx hA
    by_cases h3:x = 3
    · subst h3
      have hv:w3 3 = 2:=rfl
      go_wp2
      go_roundg (gk - 1)
      case measure => have:=HK.out;omega
      case rel => exact ⟨k + 1,by have:=HK.out;omega,by go_num,by rw [scanAt_step (fun (_:Unit) c => (w3 c,())) () HX.out,hv];exact HA.out.store k 2⟩
    · have e3:((x:Int) == 3) = false:=by simp;omega
      have HV:Hid (w3 x = x):=Lib.hid (by unfold w3;rw [if_neg h3])
      clear h3
      go_wp2
      go_roundg (gk - 1)
      case measure => have:=HK.out;omega
      case rel => exact ⟨k + 1,by have:=HK.out;omega,by go_num,by rw [scanAt_step (fun (_:Unit) c => (w3 c,())) () HX.out,HV.out,scanAt_keep (fun (_:Unit) c => (w3 c,())) () HX.out];exact HA.out⟩
  · obtain rfl:k = n:=by have:=hk;omega
    have HA:=Lib.hid hA
    clear hA
    go_wp2
    go_end0
    refine ⟨rfl,?_⟩
    have:=HA.out
    rw [scanAt_all _ _ _ _ (by rw [HN.out];exact Nat.le_refl _)] at this
    exact this
theorem others_any (w:World) (B wb g c:Nat) (sos:Nat) (l:List Nat) (hl:l.length≤1099511627776) (h23:∀ x∈l,1≤x∧x≤23) (hs:sos = 1∨sos = 2) (h:WkAt w w wb B g c sos l.length l):
 Calls Tryz.prog 80 #[.pointer (some ⟨wb,0,none⟩)] w fun e w' => e = .returned (.tuple #[])∧WkAt w w' wb B g c sos l.length (scan (fun (_:Unit) c => (w6 c,())) () l):=by
 have H23:=Lib.hid h23
 have HW:=Lib.hid h
 obtain ⟨n,hn⟩:∃ n,n = l.length:=⟨_,rfl⟩
 have HN:=Lib.hid hn
 rw [← hn] at hl HW ⊢
 obtain ⟨c0,c1⟩:=HW.out.cells
 have hsi:(sos:Int) = 1∨(sos:Int) = 2:=by omega
 clear h23 h hn
 go_enter Tryz.func80,Tryz.ntmps80
 go_wp2
 go_loopg [9] n (fun r i wr => ∃ k:Nat,k + r = n∧i = .int .i64 k∧WkAt w wr wb B g c sos n (scanAt (fun (_:Unit) c => (w6 c,())) () l k))
 case atStart => exact ⟨0,by omega,rfl,HW.out⟩
 case round =>
  obtain ⟨k,hk,rfl,hA⟩:=hrel
  by_cases hlt:k < n
  · obtain ⟨x,hx⟩:∃ x,l[k]? = some x:=⟨_,List.getElem?_eq_getElem (by rw [← HN.out];exact hlt)⟩
    have hx23:=H23.out x (List.mem_of_getElem? hx)
    obtain ⟨d0,d1⟩:=hA.cells
    obtain ⟨hcx,hfx⟩:=hA.own.getm (scanAt_here (fun (_:Unit) c => (w6 c,())) () hx)
    unfold u8V at hcx
    have HX:=Lib.hid hx
    have HA:=Lib.hid hA
    have HK:=Lib.hid hk
    have hk0:(0:Int)≤(k:Int):=by omega
    have hk1:(k:Int) < (n:Int):=by omega
    clear hx hA
    rcases (show x = 5∨x = 6∨x = 8∨(x≠5∧x≠6∧x≠8) by omega) with rfl | rfl | rfl | ⟨h5,h6,h8⟩
    · have hv:w6 5 = 14:=rfl
      go_wp2
      go_roundg (gk - 1)
      case measure => have:=HK.out;omega
      case rel => exact ⟨k + 1,by have:=HK.out;omega,by go_num,by rw [scanAt_step (fun (_:Unit) c => (w6 c,())) () HX.out,hv];exact HA.out.store k 14⟩
    · have hv:w6 6 = 14:=rfl
      go_wp2
      go_roundg (gk - 1)
      case measure => have:=HK.out;omega
      case rel => exact ⟨k + 1,by have:=HK.out;omega,by go_num,by rw [scanAt_step (fun (_:Unit) c => (w6 c,())) () HX.out,hv];exact HA.out.store k 14⟩
    · have hv:w6 8 = 14:=rfl
      go_wp2
      go_roundg (gk - 1)
      case measure => have:=HK.out;omega
      case rel => exact ⟨k + 1,by have:=HK.out;omega,by go_num,by rw [scanAt_step (fun (_:Unit) c => (w6 c,())) () HX.out,hv];exact HA.out.store k 14⟩
    · have e5:((x:Int) == 5) = false:=by simp;omega
      have e6:((x:Int) == 6) = false:=by simp;omega
      have e8:((x:Int) == 8) = false:=by simp;omega
      have HV:Hid (w6 x = x):=Lib.hid (by unfold w6;rw [if_neg (by omega)])
      clear h5 h6 h8
      go_wp2
      go_roundg (gk - 1)
      case measure => have:=HK.out;omega
      case rel => exact ⟨k + 1,by have:=HK.out;omega,by go_num,by rw [scanAt_step (fun (_:Unit) c => (w6 c,())) () HX.out,HV.out,scanAt_keep (fun (_:Unit) c => (w6 c,())) () HX.out];exact HA.out⟩
  · obtain rfl:k = n:=by have:=hk;omega
    have HA:=Lib.hid hA
    clear hA
    go_wp2
    go_end0
    refine ⟨rfl,?_⟩
    have:=HA.out
    rw [scanAt_all _ _ _ _ (by rw [HN.out];exact Nat.le_refl _)] at this
    exact this
theorem arabic_any (w:World) (B wb g c:Nat) (sos:Nat) (l:List Nat) (hl:l.length≤1099511627776) (h23:∀ x∈l,1≤x∧x≤23) (hs:sos = 1∨sos = 2) (h:WkAt w w wb B g c sos l.length l):
 Calls Tryz.prog 76 #[.pointer (some ⟨wb,0,none⟩)] w fun e w' => e = .returned (.tuple #[])∧WkAt w w' wb B g c sos l.length (scan w2 sos l):=by
 have H23:=Lib.hid h23
 have HW:=Lib.hid h
 obtain ⟨n,hn⟩:∃ n,n = l.length:=⟨_,rfl⟩
 have HN:=Lib.hid hn
 rw [← hn] at hl HW ⊢
 obtain ⟨c0,c1⟩:=HW.out.cells
 have hsi:(sos:Int) = 1∨(sos:Int) = 2:=by omega
 clear h23 h hn
 go_enter Tryz.func76,Tryz.ntmps76
 go_wp2
 go_loopg [2,14] n (fun r s i wr => ∃ k:Nat,k + r = n∧i = .int .i64 k∧s = .int .u8 (scanSt w2 sos (l.take k):Nat)∧WkAt w wr wb B g c sos n (scanAt w2 sos l k))
 case atStart => exact ⟨0,by omega,rfl,rfl,HW.out⟩
 case round =>
  obtain ⟨k,hk,rfl,rfl,hA⟩:=hrel
  by_cases hlt:k < n
  · obtain ⟨x,hx⟩:∃ x,l[k]? = some x:=⟨_,List.getElem?_eq_getElem (by rw [← HN.out];exact hlt)⟩
    have hx23:=H23.out x (List.mem_of_getElem? hx)
    obtain ⟨d0,d1⟩:=hA.cells
    obtain ⟨hcx,hfx⟩:=hA.own.getm (scanAt_here w2 sos hx)
    unfold u8V at hcx
    have HX:=Lib.hid hx
    have HA:=Lib.hid hA
    have HK:=Lib.hid hk
    have hk0:(0:Int)≤(k:Int):=by omega
    have hk1:(k:Int) < (n:Int):=by omega
    obtain ⟨st,hst⟩:∃ st,st = scanSt w2 sos (l.take k):=⟨_,rfl⟩
    rw [← hst]
    have HST:=Lib.hid hst
    clear hst
    clear hx hA
    rcases (show x = 2∨x = 1∨x = 3∨x = 4∨(x≠2∧x≠1∧x≠3∧x≠4) by omega) with rfl | rfl | rfl | rfl | ⟨h2,h1,h3,h4⟩
    · have hv:∀ s,w2 s 2 = (2,2):=fun s => rfl
      go_wp2
      go_roundg (gk - 1)
      case measure => have:=HK.out;omega
      case rel => exact ⟨k + 1,by have:=HK.out;omega,by go_num,by rw [scanSt_step w2 sos HX.out];(rw [hv];try rfl),by rw [scanAt_step w2 sos HX.out,hv,scanAt_keep w2 sos HX.out];exact HA.out⟩
    · have hv:∀ s,w2 s 1 = (1,1):=fun s => rfl
      go_wp2
      go_roundg (gk - 1)
      case measure => have:=HK.out;omega
      case rel => exact ⟨k + 1,by have:=HK.out;omega,by go_num,by rw [scanSt_step w2 sos HX.out];(rw [hv];try rfl),by rw [scanAt_step w2 sos HX.out,hv,scanAt_keep w2 sos HX.out];exact HA.out⟩
    · have hv:∀ s,w2 s 3 = (3,3):=fun s => rfl
      go_wp2
      go_roundg (gk - 1)
      case measure => have:=HK.out;omega
      case rel => exact ⟨k + 1,by have:=HK.out;omega,by go_num,by rw [scanSt_step w2 sos HX.out];(rw [hv];try rfl),by rw [scanAt_step w2 sos HX.out,hv,scanAt_keep w2 sos HX.out];exact HA.out⟩
    · by_cases hw:st = 3
      · subst hw
        have HV:Hid (w2 (scanSt w2 sos (l.take k)) 4 = (7,3)):=Lib.hid (by rw [← HST.out];rfl)
        go_wp2
        go_roundg (gk - 1)
        case measure => have:=HK.out;omega
        case rel => exact ⟨k + 1,by have:=HK.out;omega,by go_num,by rw [scanSt_step w2 sos HX.out];(rw [HV.out];try rfl),by rw [scanAt_step w2 sos HX.out,HV.out];exact HA.out.store k 7⟩
      · have ew:((st:Int) == 3) = false:=by simp;omega
        have HV:Hid (w2 (scanSt w2 sos (l.take k)) 4 = (4,st)):=Lib.hid (by rw [← HST.out];unfold w2;rw [if_neg (by omega),if_neg (by omega)])
        clear hw
        go_wp2
        go_roundg (gk - 1)
        case measure => have:=HK.out;omega
        case rel => exact ⟨k + 1,by have:=HK.out;omega,by go_num,by rw [scanSt_step w2 sos HX.out];(rw [HV.out];try rfl),by rw [scanAt_step w2 sos HX.out,HV.out,scanAt_keep w2 sos HX.out];exact HA.out⟩
    · have e2:((x:Int) == 2) = false:=by simp;omega
      have e1:((x:Int) == 1) = false:=by simp;omega
      have e3:((x:Int) == 3) = false:=by simp;omega
      have e4:((x:Int) == 4) = false:=by simp;omega
      have HV:Hid (w2 (scanSt w2 sos (l.take k)) x = (x,st)):=Lib.hid (by rw [← HST.out];unfold w2;rw [if_neg (by omega),if_neg (by omega)])
      clear h2 h1 h3 h4
      go_wp2
      go_roundg (gk - 1)
      case measure => have:=HK.out;omega
      case rel => exact ⟨k + 1,by have:=HK.out;omega,by go_num,by rw [scanSt_step w2 sos HX.out];(rw [HV.out];try rfl),by rw [scanAt_step w2 sos HX.out,HV.out,scanAt_keep w2 sos HX.out];exact HA.out⟩
  · obtain rfl:k = n:=by have:=hk;omega
    have HA:=Lib.hid hA
    clear hA
    go_wp2
    go_end0
    refine ⟨rfl,?_⟩
    have:=HA.out
    rw [scanAt_all _ _ _ _ (by rw [HN.out];exact Nat.le_refl _)] at this
    exact this
theorem european_any (w:World) (B wb g c:Nat) (sos:Nat) (l:List Nat) (hl:l.length≤1099511627776) (h23:∀ x∈l,1≤x∧x≤23) (hs:sos = 1∨sos = 2) (h:WkAt w w wb B g c sos l.length l):
 Calls Tryz.prog 81 #[.pointer (some ⟨wb,0,none⟩)] w fun e w' => e = .returned (.tuple #[])∧WkAt w w' wb B g c sos l.length (scan w7 sos l):=by
 have H23:=Lib.hid h23
 have HW:=Lib.hid h
 obtain ⟨n,hn⟩:∃ n,n = l.length:=⟨_,rfl⟩
 have HN:=Lib.hid hn
 rw [← hn] at hl HW ⊢
 obtain ⟨c0,c1⟩:=HW.out.cells
 have hsi:(sos:Int) = 1∨(sos:Int) = 2:=by omega
 clear h23 h hn
 go_enter Tryz.func81,Tryz.ntmps81
 go_wp2
 go_loopg [2,14] n (fun r s i wr => ∃ k:Nat,k + r = n∧i = .int .i64 k∧s = .int .u8 (scanSt w7 sos (l.take k):Nat)∧WkAt w wr wb B g c sos n (scanAt w7 sos l k))
 case atStart => exact ⟨0,by omega,rfl,rfl,HW.out⟩
 case round =>
  obtain ⟨k,hk,rfl,rfl,hA⟩:=hrel
  by_cases hlt:k < n
  · obtain ⟨x,hx⟩:∃ x,l[k]? = some x:=⟨_,List.getElem?_eq_getElem (by rw [← HN.out];exact hlt)⟩
    have hx23:=H23.out x (List.mem_of_getElem? hx)
    obtain ⟨d0,d1⟩:=hA.cells
    obtain ⟨hcx,hfx⟩:=hA.own.getm (scanAt_here w7 sos hx)
    unfold u8V at hcx
    have HX:=Lib.hid hx
    have HA:=Lib.hid hA
    have HK:=Lib.hid hk
    have hk0:(0:Int)≤(k:Int):=by omega
    have hk1:(k:Int) < (n:Int):=by omega
    obtain ⟨st,hst⟩:∃ st,st = scanSt w7 sos (l.take k):=⟨_,rfl⟩
    rw [← hst]
    have HST:=Lib.hid hst
    clear hst
    clear hx hA
    rcases (show x = 2∨x = 1∨x = 4∨(x≠2∧x≠1∧x≠4) by omega) with rfl | rfl | rfl | ⟨h2,h1,h4⟩
    · have hv:∀ s,w7 s 2 = (2,2):=fun s => rfl
      go_wp2
      go_roundg (gk - 1)
      case measure => have:=HK.out;omega
      case rel => exact ⟨k + 1,by have:=HK.out;omega,by go_num,by rw [scanSt_step w7 sos HX.out];(rw [hv];try rfl),by rw [scanAt_step w7 sos HX.out,hv,scanAt_keep w7 sos HX.out];exact HA.out⟩
    · have hv:∀ s,w7 s 1 = (1,1):=fun s => rfl
      go_wp2
      go_roundg (gk - 1)
      case measure => have:=HK.out;omega
      case rel => exact ⟨k + 1,by have:=HK.out;omega,by go_num,by rw [scanSt_step w7 sos HX.out];(rw [hv];try rfl),by rw [scanAt_step w7 sos HX.out,hv,scanAt_keep w7 sos HX.out];exact HA.out⟩
    · by_cases hw:st = 1
      · subst hw
        have HV:Hid (w7 (scanSt w7 sos (l.take k)) 4 = (1,1)):=Lib.hid (by rw [← HST.out];rfl)
        go_wp2
        go_roundg (gk - 1)
        case measure => have:=HK.out;omega
        case rel => exact ⟨k + 1,by have:=HK.out;omega,by go_num,by rw [scanSt_step w7 sos HX.out];(rw [HV.out];try rfl),by rw [scanAt_step w7 sos HX.out,HV.out];exact HA.out.store k 1⟩
      · have ew:((st:Int) == 1) = false:=by simp;omega
        have HV:Hid (w7 (scanSt w7 sos (l.take k)) 4 = (4,st)):=Lib.hid (by rw [← HST.out];unfold w7;rw [if_neg (by omega),if_neg (by omega)])
        clear hw
        go_wp2
        go_roundg (gk - 1)
        case measure => have:=HK.out;omega
        case rel => exact ⟨k + 1,by have:=HK.out;omega,by go_num,by rw [scanSt_step w7 sos HX.out];(rw [HV.out];try rfl),by rw [scanAt_step w7 sos HX.out,HV.out,scanAt_keep w7 sos HX.out];exact HA.out⟩
    · have e2:((x:Int) == 2) = false:=by simp;omega
      have e1:((x:Int) == 1) = false:=by simp;omega
      have e4:((x:Int) == 4) = false:=by simp;omega
      have HV:Hid (w7 (scanSt w7 sos (l.take k)) x = (x,st)):=Lib.hid (by rw [← HST.out];unfold w7;rw [if_neg (by omega),if_neg (by omega)])
      clear h2 h1 h4
      go_wp2
      go_roundg (gk - 1)
      case measure => have:=HK.out;omega
      case rel => exact ⟨k + 1,by have:=HK.out;omega,by go_num,by rw [scanSt_step w7 sos HX.out];(rw [HV.out];try rfl),by rw [scanAt_step w7 sos HX.out,HV.out,scanAt_keep w7 sos HX.out];exact HA.out⟩
  · obtain rfl:k = n:=by have:=hk;omega
    have HA:=Lib.hid hA
    clear hA
    go_wp2
    go_end0
    refine ⟨rfl,?_⟩
    have:=HA.out
    rw [scanAt_all _ _ _ _ (by rw [HN.out];exact Nat.le_refl _)] at this
    exact this
theorem marks_any (w:World) (B wb g c:Nat) (sos:Nat) (l:List Nat) (hl:l.length≤1099511627776) (h23:∀ x∈l,1≤x∧x≤23) (hs:sos = 1∨sos = 2) (h:WkAt w w wb B g c sos l.length l):
 Calls Tryz.prog 75 #[.pointer (some ⟨wb,0,none⟩)] w fun e w' => e = .returned (.tuple #[])∧WkAt w w' wb B g c sos l.length (scan w1 sos l):=by
 have H23:=Lib.hid h23
 have HW:=Lib.hid h
 obtain ⟨n,hn⟩:∃ n,n = l.length:=⟨_,rfl⟩
 have HN:=Lib.hid hn
 rw [← hn] at hl HW ⊢
 obtain ⟨c0,c1⟩:=HW.out.cells
 have hsi:(sos:Int) = 1∨(sos:Int) = 2:=by omega
 clear h23 h hn
 go_enter Tryz.func75,Tryz.ntmps75
 go_wp2
 go_loopg [10] n (fun r i wr => ∃ k:Nat,k + r = n∧i = .int .i64 k∧WkAt w wr wb B g c sos n (scanAt w1 sos l k))
 case atStart => exact ⟨0,by omega,rfl,HW.out⟩
 case round =>
  obtain ⟨k,hk,rfl,hA⟩:=hrel
  by_cases hlt:k < n
  · obtain ⟨x,hx⟩:∃ x,l[k]? = some x:=⟨_,List.getElem?_eq_getElem (by rw [← HN.out];exact hlt)⟩
    have hx23:=H23.out x (List.mem_of_getElem? hx)
    obtain ⟨d0,d1⟩:=hA.cells
    obtain ⟨hcx,hfx⟩:=hA.own.getm (scanAt_here w1 sos hx)
    unfold u8V at hcx
    have HX:=Lib.hid hx
    have HA:=Lib.hid hA
    have HK:=Lib.hid hk
    have hk0:(0:Int)≤(k:Int):=by omega
    have hk1:(k:Int) < (n:Int):=by omega
    obtain ⟨st,hst⟩:∃ st,st = scanSt w1 sos (l.take k):=⟨_,rfl⟩
    have HST:=Lib.hid hst
    have HAH:=Lib.hid (fun W hA => ahead_any w W B wb g c sos n (scanAt w1 sos l k) k st hl hA (by omega) (by rw [hst];exact w1_ahead sos l k (by rw [← HN.out];omega)))
    clear hst
    clear hx hA
    by_cases h9:x = 9
    · subst h9
      rcases (show st = 20∨st = 21∨st = 22∨st = 23∨¬ (20≤st∧st≤23) by omega) with rfl | rfl | rfl | rfl | hq
      · have HV:Hid (w1 (scanSt w1 sos (l.take k)) 9 = (14,14)):=Lib.hid (by rw [← HST.out];rfl)
        go_wp2_with (go_at_call 117;refine (HAH.out _ HA.out).mono ?_;rintro e w1 ⟨rfl,rfl⟩)
        go_roundg (gk - 1)
        case measure => have:=HK.out;omega
        case rel => exact ⟨k + 1,by have:=HK.out;omega,by go_num,by rw [scanAt_step w1 sos HX.out,HV.out];exact HA.out.store k 14⟩
      · have HV:Hid (w1 (scanSt w1 sos (l.take k)) 9 = (14,14)):=Lib.hid (by rw [← HST.out];rfl)
        go_wp2_with (go_at_call 117;refine (HAH.out _ HA.out).mono ?_;rintro e w1 ⟨rfl,rfl⟩)
        go_roundg (gk - 1)
        case measure => have:=HK.out;omega
        case rel => exact ⟨k + 1,by have:=HK.out;omega,by go_num,by rw [scanAt_step w1 sos HX.out,HV.out];exact HA.out.store k 14⟩
      · have HV:Hid (w1 (scanSt w1 sos (l.take k)) 9 = (14,14)):=Lib.hid (by rw [← HST.out];rfl)
        go_wp2_with (go_at_call 117;refine (HAH.out _ HA.out).mono ?_;rintro e w1 ⟨rfl,rfl⟩)
        go_roundg (gk - 1)
        case measure => have:=HK.out;omega
        case rel => exact ⟨k + 1,by have:=HK.out;omega,by go_num,by rw [scanAt_step w1 sos HX.out,HV.out];exact HA.out.store k 14⟩
      · have HV:Hid (w1 (scanSt w1 sos (l.take k)) 9 = (14,14)):=Lib.hid (by rw [← HST.out];rfl)
        go_wp2_with (go_at_call 117;refine (HAH.out _ HA.out).mono ?_;rintro e w1 ⟨rfl,rfl⟩)
        go_roundg (gk - 1)
        case measure => have:=HK.out;omega
        case rel => exact ⟨k + 1,by have:=HK.out;omega,by go_num,by rw [scanAt_step w1 sos HX.out,HV.out];exact HA.out.store k 14⟩
      · have e20:((st:Int) == 20) = false:=by simp;omega
        have e21:((st:Int) == 21) = false:=by simp;omega
        have e22:((st:Int) == 22) = false:=by simp;omega
        have e23:((st:Int) == 23) = false:=by simp;omega
        have HV:Hid (w1 (scanSt w1 sos (l.take k)) 9 = (st,st)):=Lib.hid (by rw [← HST.out];unfold w1;rw [if_pos rfl,if_neg hq])
        clear hq
        go_wp2_with (go_at_call 117;refine (HAH.out _ HA.out).mono ?_;rintro e w1 ⟨rfl,rfl⟩)
        go_roundg (gk - 1)
        case measure => have:=HK.out;omega
        case rel => exact ⟨k + 1,by have:=HK.out;omega,by go_num,by rw [scanAt_step w1 sos HX.out,HV.out];exact HA.out.store k st⟩
    · have e9:((x:Int) != 9) = true:=by simp;omega
      have HV:Hid (w1 (scanSt w1 sos (l.take k)) x = (x,x)):=Lib.hid (by unfold w1;rw [if_neg h9])
      clear h9
      go_wp2
      go_roundg (gk - 1)
      case measure => have:=HK.out;omega
      case rel => exact ⟨k + 1,by have:=HK.out;omega,by go_num,by rw [scanAt_step w1 sos HX.out,HV.out,scanAt_keep w1 sos HX.out];exact HA.out⟩
  · obtain rfl:k = n:=by have:=hk;omega
    have HA:=Lib.hid hA
    clear hA
    go_wp2
    go_end0
    refine ⟨rfl,?_⟩
    have:=HA.out
    rw [scanAt_all _ _ _ _ (by rw [HN.out];exact Nat.le_refl _)] at this
    exact this
end Go.Proofs.YtjnidopbdjbbgaaGreat
