/-
  Brackets found in the one text: walked.
-/
import Derived.Test.YtjnidopbdjbbgaaGreatB31
import Derived.Test.YtjnidopbdjbbgaaGreatB09
import Derived.Deep.CutBlock
section
namespace Go.Proofs.YtjnidopbdjbbgaaGreat
open Go.RowKit
set_option linter.unusedVariables false
set_option maxRecDepth 20000
set_option maxHeartbeats 4000000
theorem eq_nil112 (w:World) (a:Option Addr) (n c:Nat):(binOp .eql 112 (.slice a n c) (.slice none 0 0)).run Tryz.prog w = .ok (.bool a.isNone) w:=Lib.run_eql_slice_nil w 112 119 a n c 0 0 Tryz.underlying112
attribute [local go_sem] eq_nil112
theorem Own.empty2 (w:World) (B e:Nat) (hB:B≤w.heap.size):Own (w.alloc (.cells #[] e)) B 2 (some ⟨w.heap.size,0,none⟩) 0 0 []:=
 ⟨rfl,Nat.le_refl _,by simp [maxLen],.inr ⟨w.heap.size,rfl,hB,by simp,fun j u hu => by simp at hu,fun j hj => by simp at hj⟩⟩
theorem cloneB_any (w:World) (ad:Addr) (c x y:Nat) (hc:Cells w (some ad) [.int .i64 x,.int .i64 y]):
 Calls Tryz.prog 134 #[.slice (some ad) 1 c] w fun e w' => ∃ a' c',e = .returned (.slice a' 1 c')∧Own w' w.heap.size 2 a' 1 c' [.int .i64 x,.int .i64 y]∧Below w.heap.size w w':=by
 obtain ⟨i0,hi,hz0,hz1,hz2⟩:=info_parts info119
 have HC:=Lib.hid hc
 clear hc
 go_enter Tryz.func134,Tryz.ntmps134
 go_wp2_with (at_builtin;refine wpList_app rfl _ _ 112 112 rfl 119 i0 (.agg #[.int .i64 0,.int .i64 0]) 2 16 Tryz.underlying112 hi hz0 hz1 hz2 rfl (by simp [Value.cells,Value.oneCell']) w.heap.size _ 0 0 [] rfl (Own.empty2 w w.heap.size 119 (Nat.le_refl _)) _ 1 [.int .i64 x,.int .i64 y] rfl (Src.ofCells Tryz.underlying112 (some ad) 1 c _ rfl (HC.out.below ((Below.refl _ _).alloc (Nat.le_refl _) _)) (by simp [Value.oneCell']) (by decide)) (by simp [maxLen]) (by decide) (by simp) ?_;intro a4 c4 w4 hown4 hap4;have HO4:=Lib.hid hown4;have HB4:=Lib.hid (((Below.refl w.heap.size w).alloc (Nat.le_refl _) (.cells #[] 119)).trans (hap4.below (Own.empty2 w w.heap.size 119 (Nat.le_refl _)) (by simp)));clear hown4 hap4)
 go_ret
 exact ⟨a4,c4,by simp,HO4.out,HB4.out⟩
theorem insert1_any (w:World) (a:Option Addr) (c:Nat):Calls Tryz.prog 155 #[.slice a 1 c,.int .i64 0,.int .i64 1,.func (.func 136) #[] #[]] w fun e w' => e = .returned (.tuple #[])∧w = w':=by
 go_enter Tryz.func155,Tryz.ntmps155
 go_wp2
 refine wp_loop_rounds 1 ?_
 rw [rounds_succ]
 go_wp2
 go_end0
 exact ⟨rfl,rfl⟩
theorem stable1_any (w:World) (a:Option Addr) (c:Nat):Calls Tryz.prog 152 #[.slice a 1 c,.int .i64 1,.func (.func 136) #[] #[]] w fun e w' => e = .returned (.tuple #[])∧w = w':=by
 have HI:=Lib.hid (fun w => insert1_any w a c)
 go_enter Tryz.func152,Tryz.ntmps152
 go_wp2
 refine wp_loop_rounds 1 ?_
 rw [rounds_succ]
 go_wp2_with (go_at_call 155;refine (HI.out _).mono ?_;rintro e w2 ⟨rfl,rfl⟩)
 refine wp_loop_rounds 1 ?_
 rw [rounds_succ]
 go_wp2
 go_end0
 exact ⟨rfl,rfl⟩
theorem sort1_any (w:World) (a:Option Addr) (c:Nat):Calls Tryz.prog 135 #[.slice a 1 c,.func (.func 136) #[] #[]] w fun e w' => e = .returned (.tuple #[])∧w = w':=by
 have HI:=Lib.hid (fun w => stable1_any w a c)
 go_enter Tryz.func135,Tryz.ntmps135
 go_wp2_with (go_at_call 152;refine (HI.out _).mono ?_;rintro e w2 ⟨rfl,rfl⟩)
 go_end0
 exact ⟨rfl,rfl⟩
theorem braces_any (w:World) (sb:Nat) (la:Option Addr) (ln lc:Nat) (fa:Option Addr) (fc x y:Nat) (h:PkAt w sb la ln lc fa 1 fc) (ho:Own w 0 2 fa 1 fc [.int .i64 x,.int .i64 y]):
 Calls Tryz.prog 106 #[.pointer (some ⟨sb,0,none⟩)] w fun e w' => ∃ a' c',e = .returned (.slice a' 1 c')∧Own w' w.heap.size 2 a' 1 c' [.int .i64 x,.int .i64 y]∧Below w.heap.size w w':=by
 obtain ⟨g,rfl⟩:=ho.pos (by decide)
 have HN:=Lib.hid (fun w h => pnone_any w sb la ln lc (some ⟨g,0,none⟩) 1 fc h)
 have HCL:=Lib.hid (fun w h => cloneB_any w ⟨g,0,none⟩ fc x y h)
 have HO:=Lib.hid ho.toCells
 have k1:=cells_at h 1
 have H:=Lib.hid h
 clear h ho
 go_enter Tryz.func106,Tryz.ntmps106
 go_wp2_with (first | (go_at_call 132;refine (HN.out _ H.out).mono ?_;rintro e w2 ⟨rfl,rfl⟩) | (go_at_call 134;refine (HCL.out _ HO.out).mono ?_;rintro e w3 ⟨a',c',rfl,h1,h2⟩;have H1:=Lib.hid h1;have H2:=Lib.hid h2;clear h1 h2) | (go_at_call 135;refine (sort1_any _ _ _).mono ?_;rintro e w4 ⟨rfl,rfl⟩))
 go_ret
 exact ⟨a',c',rfl,H1.out,H2.out⟩
/-- The props of the text: its nine characters. -/
def handC:List Ch:=[⟨97,1,0,0,0,0,false⟩,⟨98,1,0,0,0,0,false⟩,⟨1488,2,0,0,0,0,false⟩,⟨1489,2,0,0,0,0,false⟩,⟨49,4,0,0,0,0,false⟩,⟨32,13,0,0,0,0,false⟩,⟨10,11,0,0,0,0,false⟩,⟨40,14,41,1,0,41,true⟩,⟨41,14,40,2,0,40,true⟩]
def propsV (hb:Nat):Value:=.agg #[.int .u8 14,.slice (some ⟨hb,0,none⟩) 9 9]
def i32V (x:Int):Value:=.int .i32 x
def textT:List Int:=[97,32,1488,40,1489,41,49]
/-- The sequence behind the weak rules. -/
def seqT1:Sq:=⟨[0,1,2,3,4,5,6],[1,13,2,14,2,14,4],0,1,1⟩
theorem seqT1_ok:seqT1.Ok:=⟨by decide,by decide,by decide,by decide,by decide,by unfold seqT1 Cl;decide,by decide,by decide,by decide⟩
theorem pmay_any (w:World) (hb:Nat) (pa ca:Option Addr) (pc cc:Nat) (hi:seqT1.In w pa ca):
 Calls Tryz.prog 101 #[.iface 52 (propsV hb),.int .i64 7,seqT1.val pa pc ca cc] w fun e w' => e = .returned (.int .i64 0)∧Below w.heap.size w w':=by
 have HCK:=Lib.hid (fun w h => check_any w seqT1 seqT1_ok pa ca pc cc h)
 have HIN:=Lib.hid hi
 obtain ⟨b,o,rfl,h6⟩:=hi.ps.getm (k:=6) (x:=6) rfl
 unfold natV at h6
 have hv:seqT1.val (some ⟨b,o,none⟩) pc ca cc = .agg #[.slice (some ⟨b,o,none⟩) 7 pc,.slice ca 7 cc,.int .i8 0,.int .u8 1,.int .u8 1]:=rfl
 rw [hv] at HCK ⊢
 clear hi
 go_enter Tryz.func101,Tryz.ntmps101
 go_wp2_with fail
 obtain ⟨O1,hO1⟩:∃ O,O = Obj.cells #[.slice (some ⟨b,o,none⟩) 7 pc,.slice ca 7 cc,.int .i8 0,.int .u8 1,.int .u8 1] 75:=⟨_,rfl⟩
 have hbw:Below w.heap.size w (w.alloc O1):=(Below.refl _ _).alloc (Nat.le_refl _) _
 have HX:=Lib.hid (heap_alloc_new w O1)
 have H6:=Lib.hid ((hbw.cell (p:=⟨b,o + 6,none⟩) (World.block_lt_of_cell? w _ h6)).trans h6)
 have HBW:=Lib.hid hbw
 rw [← hO1]
 have HO1:=Lib.hid hO1
 clear hbw hO1 h6
 refine (HCK.out _ (HIN.out.below HBW.out)).mono ?_
 rintro e w2 ⟨rfl,hb2⟩
 have HB2:=Lib.hid (HBW.out.trans (hb2.mono (by simp)))
 have hx2:=(hb2.block w.heap.size (by simp)).trans HX.out
 have h6:=(hb2.cell (p:=⟨b,o + 6,none⟩) (World.block_lt_of_cell? _ _ H6.out)).trans H6.out
 rw [HO1.out] at hx2
 have c0:=cells_at hx2 0
 clear hb2 hx2
 go_wp2
 go_ret
 exact ⟨rfl,HB2.out⟩
/-- What a method of the props is. -/
theorem m_bracket (hb : Nat) (w : World) : (method 358 52 (propsV hb) "Bracket").run Tryz.prog w = .ok (149, propsV hb) w := by kernel_rfl
theorem m_twin (hb : Nat) (w : World) : (method 358 52 (propsV hb) "Twin").run Tryz.prog w = .ok (150, propsV hb) w := by kernel_rfl
theorem m_class (hb : Nat) (w : World) : (method 358 52 (propsV hb) "Class").run Tryz.prog w = .ok (175, propsV hb) w := by kernel_rfl
/-- What Find has of the pile, at place k. -/
def PileT (sb k:Nat) (wr:World):Prop:=
 (k≤3∧PkAt wr sb none 0 0 none 0 0)∨(3 < k∧k≤5∧∃ ab lc,1≤lc∧PkAt wr sb (some ⟨ab,0,none⟩) 1 lc none 0 0∧wr.cell? ⟨ab,0,none⟩ = some (.int .i64 (3:Nat))∧wr.cell? ⟨ab,1,none⟩ = some (.int .i32 41)) ∨
 (5 < k∧∃ la lc fa fc,PkAt wr sb la 0 lc fa 1 fc∧Own wr 0 2 fa 1 fc [.int .i64 (3:Nat),.int .i64 (5:Nat)])
theorem pfind_any (w:World) (hb:Nat) (ta:Option Addr) (tc:Nat) (pa ca:Option Addr) (pc cc:Nat) (hi:seqT1.In w pa ca) (ht:Cells w ta (textT.map i32V)) (hh:Cells w (some ⟨hb,0,none⟩) (chV handC)):
 Calls Tryz.prog 63 #[.iface 52 (propsV hb),.slice ta 7 tc,seqT1.val pa pc ca cc] w fun e w' => ∃ a' c',e = .returned (.tuple #[.slice a' 1 c',.int .i64 0])∧Own w' w.heap.size 2 a' 1 c' [.int .i64 (3:Nat),.int .i64 (5:Nat)]∧Below w.heap.size w w':=by
 have HM:=Lib.hid (fun w h => pmay_any w hb pa ca pc cc h)
 have HIN:=Lib.hid hi
 have HT:=Lib.hid ht
 have HH:=Lib.hid hh
 have hv:seqT1.val pa pc ca cc = .agg #[.slice pa 7 pc,.slice ca 7 cc,.int .i8 0,.int .u8 1,.int .u8 1]:=rfl
 rw [hv] at HM ⊢
 obtain ⟨O1,hO1⟩:∃ O,O = Obj.cells #[.slice pa 7 pc,.slice ca 7 cc,.int .i8 0,.int .u8 1,.int .u8 1] 75:=⟨_,rfl⟩
 have HX:=Lib.hid (heap_alloc_new w O1)
 have HBW:=Lib.hid (show Below w.heap.size w (w.alloc O1) from (Below.refl _ _).alloc (Nat.le_refl _) _)
 have HO1:=Lib.hid hO1
 have HS1:=Lib.hid (show w.heap.size < (w.alloc O1).heap.size by simp)
 clear hi ht hh hO1
 go_enter Tryz.func63,Tryz.ntmps63
 go_wp2
 go_step3
 go_wp2_with fail
 rw [← HO1.out]
 refine (HM.out _ (HIN.out.below HBW.out)).mono ?_
 rintro e w2 ⟨rfl,hb2⟩
 have HB2:=Lib.hid (HBW.out.trans (hb2.mono (Nat.le_of_lt HS1.out)))
 have HX2:=Lib.hid ((hb2.block w.heap.size HS1.out).trans HX.out)
 clear hb2
 go_wp2_with fail
 refine (pnew_any _).mono ?_
 rintro e w3 ⟨rfl,hp3,hb3⟩
 have HB3:=Lib.hid (HB2.out.trans (hb3.mono HB2.out.size))
 have HX3:=Lib.hid (((hb3.block w.heap.size (Array.getElem?_eq_some_iff.1 HX2.out).1).trans HX2.out).trans (congrArg some HO1.out))
 have HP3:=Lib.hid hp3
 have HSB:=Lib.hid (show w.heap.size < w2.heap.size from (Array.getElem?_eq_some_iff.1 HX2.out).1)
 obtain ⟨sb,hsb⟩:∃ sb,w2.heap.size = sb:=⟨_,rfl⟩
 rw [hsb] at HP3 HSB ⊢
 have HLP:=Lib.hid (show ∀ g∈blk pa,g < w.heap.size from fun g hg => by
  obtain ⟨b,o,he,h6⟩:=HIN.out.ps.getm (k:=0) (x:=0) rfl
  rw [he,blk_some] at hg
  simp at hg
  subst hg
  exact World.block_lt_of_cell? w _ h6)
 have HLC:=Lib.hid (show ∀ g∈blk ca,g < w.heap.size from fun g hg => by
  obtain ⟨b,o,he,h6⟩:=HIN.out.cs.getm (k:=0) (x:=1) rfl
  rw [he,blk_some] at hg
  simp at hg
  subst hg
  exact World.block_lt_of_cell? w _ h6)
 have HLT:=Lib.hid (show ∀ g∈blk ta,g < w.heap.size from fun g hg => by
  obtain ⟨b,o,he,h6⟩:=HT.out.getm (k:=0) (x:=97) rfl
  rw [he,blk_some] at hg
  simp at hg
  subst hg
  exact World.block_lt_of_cell? w _ h6)
 have HLH:=Lib.hid (show hb < w.heap.size from by
  obtain ⟨b,o,he,h6⟩:=HH.out.getv (k:=0) rfl
  cases he
  exact World.block_lt_of_cell? w _ h6)
 have c0:=cells_at HX3.out 0
 clear hp3 hb3 hsb
 go_wp2
 go_step3
 go_wp2
 go_loopg [27] 7 (fun r i wr => ∃ k:Nat,k + r = 7∧i = .int .i64 k∧PileT sb k wr∧Kept (fun k => k = sb) w3 wr)
 case atStart => exact ⟨0,by omega,rfl,.inl ⟨by omega,HP3.out⟩,Kept.refl _ _⟩
 case round =>
  obtain ⟨k,hk,rfl,hp,hkp⟩:=hrel
  obtain ⟨wa,rfl⟩:∃ wa:World,wa = wr:=⟨_,rfl⟩
  have HPL:=Lib.hid hp
  have HKP:=Lib.hid hkp
  have HK:=Lib.hid hk
  have HXA:=Lib.hid ((hkp.block w.heap.size (Array.getElem?_eq_some_iff.1 HX3.out).1 (by have:=HSB.out;omega)).trans HX3.out)
  have hk0:(0:Int)≤(k:Int):=by omega
  have hk7:k≤7:=by omega
  clear hp hkp hk c0
  by_cases hlt:k < 7
  · have hk1:(k:Int) < 7:=by omega
    obtain ⟨c,hc⟩:∃ c,seqT1.cs[k]? = some c:=⟨_,List.getElem?_eq_getElem hlt⟩
    obtain ⟨pb,po,rfl,q0⟩:=(HKP.out.cells (HIN.out.ps.below HB3.out) (fun g hg => by have:=HLP.out g hg;have:=HSB.out;omega)).getm (k:=k) (x:=k) (by
     rcases (show k = 0∨k = 1∨k = 2∨k = 3∨k = 4∨k = 5∨k = 6 by omega) with rfl | rfl | rfl | rfl | rfl | rfl | rfl <;> rfl)
    obtain ⟨cb,co,rfl,q1⟩:=(HKP.out.cells (HIN.out.cs.below HB3.out) (fun g hg => by have:=HLC.out g hg;have:=HSB.out;omega)).getm hc
    unfold natV at q0
    unfold u8V at q1
    have b0:=cells_at HXA.out 0
    have b1:=cells_at HXA.out 1
    by_cases h14:c = 14
    · subst h14
      have h35:k = 3∨k = 5:=by
       rcases (show k = 0∨k = 1∨k = 2∨k = 3∨k = 4∨k = 5∨k = 6 by omega) with rfl | rfl | rfl | rfl | rfl | rfl | rfl <;> simp [seqT1] at hc ⊢
      clear hc
      rcases h35 with rfl | rfl
      · obtain ⟨tb,tq,rfl,q2⟩:=(HKP.out.cells (HT.out.below HB3.out) (fun g hg => by have:=HLT.out g hg;have:=HSB.out;omega)).getm (k:=3) (x:=40) rfl
        unfold i32V at q2
        have HHA:=Lib.hid (HKP.out.cells (HH.out.below HB3.out) (fun g hg => by rw [blk_some] at hg;simp at hg;subst hg;have:=HLH.out;have:=HSB.out;omega))
        have HBRK:=Lib.hid (show ∀ W,Cells W (some ⟨hb,0,none⟩) (chV handC)→Calls Tryz.prog 149 #[propsV hb,.int .i32 40] W fun e w' => e = .returned (.tuple #[.int .i32 41,.int .u8 (1:Nat)])∧Below W.heap.size W w' from fun W h => bracket_of W handC (some ⟨hb,0,none⟩) 9 14 40 (by decide) h ⟨40,14,41,1,0,41,true⟩ rfl (.inl rfl))
        have HTWN:=Lib.hid (show ∀ W,Cells W (some ⟨hb,0,none⟩) (chV handC)→Calls Tryz.prog 150 #[propsV hb,.int .i32 41] W fun e w' => e = .returned (.int .i32 41)∧Below W.heap.size W w' from fun W h => twin_of W handC (some ⟨hb,0,none⟩) 9 14 41 (by decide) h ⟨41,14,40,2,0,40,true⟩ rfl rfl)
        have mb:=m_bracket hb
        have mt:=m_twin hb
        have HPK:=Lib.hid (show PkAt wa sb none 0 0 none 0 0 from by
         rcases HPL.out with ⟨_,h3⟩ | ⟨h2,_⟩ | ⟨h2,_⟩
         · exact h3
         · omega
         · omega)
        go_wp2_with (first | (go_at_call 103;refine (plain_ok _ 40 (by decide) (by decide)).mono ?_;rintro e w5 ⟨rfl,rfl⟩) | (go_at_call 149;refine (HBRK.out _ HHA.out).mono ?_;rintro e w6 ⟨rfl,hb6⟩;have HB6:=Lib.hid hb6;clear hb6) | (go_at_call 150;refine (HTWN.out _ (HHA.out.below HB6.out)).mono ?_;rintro e w7 ⟨rfl,hb7⟩;have HB7:=Lib.hid (HB6.out.trans (hb7.mono HB6.out.size));clear hb7) | (go_at_call 104;refine (popen_any _ sb 3 41 ((HB7.out.block sb (Array.getElem?_eq_some_iff.1 HPK.out).1).trans HPK.out)).mono ?_;rintro e w8 ⟨rfl,la,lc,k1,k2,k3⟩;have K1:=Lib.hid k1;have K2:=Lib.hid k2;have K3:=Lib.hid k3;clear k1 k2 k3))
        obtain ⟨ab,rfl⟩:=K2.out.pos (by decide)
        obtain ⟨_,_,e0,z0⟩:=K2.out.toCells.getv (k:=0) rfl
        cases e0
        obtain ⟨_,_,e0,z1⟩:=K2.out.toCells.getv (k:=1) rfl
        cases e0
        go_roundg (gk - 1)
        case measure => have:=HK.out;omega
        case rel => exact ⟨4,by have:=HK.out;omega,by go_num,.inr (.inl ⟨by omega,by omega,ab,lc,K2.out.le,K1.out,z0,z1⟩),(HKP.out.trans (Kept.of_below (S:=fun k => k = sb) HB7.out) (fun i hi => .inl hi)).trans K3.out (fun i hi => .inl hi)⟩
      · obtain ⟨tb,tq,rfl,q2⟩:=(HKP.out.cells (HT.out.below HB3.out) (fun g hg => by have:=HLT.out g hg;have:=HSB.out;omega)).getm (k:=5) (x:=41) rfl
        unfold i32V at q2
        have HHA:=Lib.hid (HKP.out.cells (HH.out.below HB3.out) (fun g hg => by rw [blk_some] at hg;simp at hg;subst hg;have:=HLH.out;have:=HSB.out;omega))
        have HBRK:=Lib.hid (show ∀ W,Cells W (some ⟨hb,0,none⟩) (chV handC)→Calls Tryz.prog 149 #[propsV hb,.int .i32 41] W fun e w' => e = .returned (.tuple #[.int .i32 40,.int .u8 (2:Nat)])∧Below W.heap.size W w' from fun W h => bracket_of W handC (some ⟨hb,0,none⟩) 9 14 41 (by decide) h ⟨41,14,40,2,0,40,true⟩ rfl (.inr rfl))
        have HTWN:=Lib.hid (show ∀ W,Cells W (some ⟨hb,0,none⟩) (chV handC)→Calls Tryz.prog 150 #[propsV hb,.int .i32 41] W fun e w' => e = .returned (.int .i32 41)∧Below W.heap.size W w' from fun W h => twin_of W handC (some ⟨hb,0,none⟩) 9 14 41 (by decide) h ⟨41,14,40,2,0,40,true⟩ rfl rfl)
        have mb:=m_bracket hb
        have mt:=m_twin hb
        have hpk:∃ ab lc,1≤lc∧PkAt wa sb (some ⟨ab,0,none⟩) 1 lc none 0 0∧wa.cell? ⟨ab,0,none⟩ = some (.int .i64 (3:Nat))∧wa.cell? ⟨ab,1,none⟩ = some (.int .i32 41):=by
         rcases HPL.out with ⟨h2,_⟩ | ⟨_,_,h3⟩ | ⟨h2,_⟩
         · omega
         · exact h3
         · omega
        obtain ⟨ab,lc,hlc,hp1,z0,z1⟩:=hpk
        have HPK:=Lib.hid hp1
        have HLC1:=Lib.hid hlc
        have Z0:=Lib.hid z0
        have Z1:=Lib.hid z1
        clear hp1 hlc z0 z1
        go_wp2_with (first | (go_at_call 103;refine (plain_ok _ 41 (by decide) (by decide)).mono ?_;rintro e w5 ⟨rfl,rfl⟩) | (go_at_call 149;refine (HBRK.out _ HHA.out).mono ?_;rintro e w6 ⟨rfl,hb6⟩;have HB6:=Lib.hid hb6;clear hb6) | (go_at_call 150;refine (HTWN.out _ (HHA.out.below HB6.out)).mono ?_;rintro e w7 ⟨rfl,hb7⟩;have HB7:=Lib.hid (HB6.out.trans (hb7.mono HB6.out.size));clear hb7) | (go_at_call 105;refine (pclose_any _ sb 3 5 41 ab lc HLC1.out ((HB7.out.block sb (Array.getElem?_eq_some_iff.1 HPK.out).1).trans HPK.out) ((HB7.out.cell (p:=⟨ab,0,none⟩) (World.block_lt_of_cell? _ _ Z0.out)).trans Z0.out) ((HB7.out.cell (p:=⟨ab,1,none⟩) (World.block_lt_of_cell? _ _ Z1.out)).trans Z1.out)).mono ?_;rintro e w8 ⟨rfl,fa,fc,k1,k2,k3⟩;have K1:=Lib.hid k1;have K2:=Lib.hid k2;have K3:=Lib.hid k3;clear k1 k2 k3))
        go_roundg (gk - 1)
        case measure => have:=HK.out;omega
        case rel => exact ⟨6,by have:=HK.out;omega,by go_num,.inr (.inr ⟨by omega,_,lc,fa,fc,K1.out,K2.out.mono (Nat.zero_le _)⟩),(HKP.out.trans (Kept.of_below (S:=fun k => k = sb) HB7.out) (fun i hi => .inl hi)).trans K3.out (fun i hi => .inl hi)⟩
    · have hne:((c:Int) != 14) = true:=by simp;omega
      have hne2:((c:Int) == 14) = false:=by simp;omega
      have HN:=Lib.hid (show k≠3∧k≠5 from ⟨fun e => by subst e;simp [seqT1] at hc;omega,fun e => by subst e;simp [seqT1] at hc;omega⟩)
      clear hc h14
      go_wp2
      go_roundg (gk - 1)
      case measure => have:=HK.out;omega
      case rel =>
       refine ⟨k + 1,by have:=HK.out;omega,by go_num,?_,HKP.out⟩
       have h1:=HN.out
       rcases HPL.out with ⟨h2,h3⟩ | ⟨h2,h3,h4⟩ | ⟨h2,h3⟩
       · exact .inl ⟨by omega,h3⟩
       · exact .inr (.inl ⟨by omega,by omega,h4⟩)
       · exact .inr (.inr ⟨by omega,h3⟩)
  · obtain rfl:k = 7:=by omega
    rcases HPL.out with ⟨h2,h3⟩ | ⟨h2,h3,h4⟩ | ⟨h2,la,lc,fa,fc,h3,h4⟩
    · omega
    · omega
    have HBR:=Lib.hid (braces_any wa sb la 0 lc fa fc 3 5 h3 h4)
    clear h3 h4 h2 hlt
    go_wp2_with (go_at_call 106;refine HBR.out.mono ?_;rintro e w5 ⟨a',c',rfl,h5,h6⟩;have H5:=Lib.hid h5;have H6:=Lib.hid h6;clear h5 h6)
    try rw [Exit.noGoto_ret]
    go_ret2
    have hbw:=HKP.out.below HB3.out (fun i hi => by rw [hi];exact Nat.le_of_lt HSB.out) HB3.out.size
    exact ⟨a',c',rfl,H5.out.mono hbw.size,hbw.trans (H6.out.mono hbw.size)⟩
end Go.Proofs.YtjnidopbdjbbgaaGreat
end
/-
  The hand's properties, and levels compared: walked.
-/
section
namespace Go.Proofs.YtjnidopbdjbbgaaGreat
open Go.RowKit
set_option linter.unusedVariables false
set_option maxRecDepth 20000
set_option maxHeartbeats 4000000
attribute [local go_sem] Oper.semAt_some
theorem hand_any (w:World):Calls Tryz.prog 19 #[] w fun e w' => ∃ hb,e = .returned (propsV hb)∧Cells w' (some ⟨hb,0,none⟩) (chV handC)∧Below w.heap.size w w':=by
 go_enter Tryz.func19,Tryz.ntmps19
 go_wp2_with fail
 have hcs:=Cells.new (w.alloc (.cells #[.int .u8 14,.slice (some ⟨w.heap.size + 1,0,none⟩) 9 9] 52)) (chV handC) 80
 rw [World.size_alloc] at hcs
 have hb:Below w.heap.size w ((w.alloc (.cells #[.int .u8 14,.slice (some ⟨w.heap.size + 1,0,none⟩) 9 9] 52)).alloc (.cells (chV handC).toArray 80)):=((Below.refl _ _).alloc (Nat.le_refl _) _).alloc (by simp) _
 have hfin:((w.alloc (.cells #[.int .u8 14,.slice (some ⟨w.heap.size + 1,0,none⟩) 9 9] 52)).alloc (.cells (chV handC).toArray 80)).heap[w.heap.size]? = some (.cells #[.int .u8 14,.slice (some ⟨w.heap.size + 1,0,none⟩) 9 9] 52):=
  (((Below.refl (w.alloc (.cells #[.int .u8 14,.slice (some ⟨w.heap.size + 1,0,none⟩) 9 9] 52)).heap.size _).alloc (Nat.le_refl _) _).block w.heap.size (by simp)).trans (heap_alloc_new w _)
 exact bodyPost_ret (results_cell_row (P:=Tryz.prog) rfl _ _ w.heap.size 52 _ (0,0) _ rfl hfin Tryz.underlying52 rfl (by kernel_rfl)) rfl ⟨w.heap.size + 1,rfl,hcs,hb⟩
theorem same_any (w:World) (a b:Option Addr) (c d:Nat) (l:List Int) (n:Nat) (hn:l.length = n) (hbig:n≤1048576) (ha:Cells w a (l.map i8V)) (hb:Cells w b (l.map i8V)):
 Calls Tryz.prog 9 #[.slice a n c,.slice b n d] w fun e w' => e = .returned (.bool true)∧Below w.heap.size w w':=by
 have HA:=Lib.hid ha
 have HB:=Lib.hid hb
 have HN:=Lib.hid hn
 clear ha hb hn
 go_enter Tryz.func9,Tryz.ntmps9
 go_wp2
 go_loopg [5] n (fun r i wr => ∃ k:Nat,k + r = n∧i = .int .i64 k∧Below w.heap.size w wr)
 case atStart => exact ⟨0,by omega,rfl,Below.refl _ _⟩
 case round =>
  obtain ⟨k,hk,rfl,hbw⟩:=hrel
  have HK:=Lib.hid hk
  have HBW:=Lib.hid hbw
  have hk0:(0:Int)≤(k:Int):=by omega
  by_cases hlt:k < n
  · have hk1:(k:Int) < (n:Int):=by omega
    have hk2:(k:Int)≤1048576:=by omega
    obtain ⟨x,hx⟩:∃ x,l[k]? = some x:=⟨_,List.getElem?_eq_getElem (by have:=HN.out;omega)⟩
    obtain ⟨ab,ao,rfl,q0⟩:=(HA.out.below hbw).getm hx
    obtain ⟨bb,bo,rfl,q1⟩:=(HB.out.below hbw).getm hx
    unfold i8V at q0 q1
    have HLT:=Lib.hid hlt
    clear hk hbw hx hlt
    go_wp2_with fail
    go_quiet (fail)
    go_wp2
    go_roundg (gk - 1)
    case measure => have:=HK.out;have:=HLT.out;omega
    case rel => exact ⟨k + 1,by have:=HK.out;have:=HLT.out;omega,rfl,below_drewN HBW.out _⟩
  · have hk1:¬ (k:Int) < (n:Int):=by omega
    clear hk hbw hlt
    go_wp2
    go_ret
    exact ⟨rfl,HBW.out⟩
end Go.Proofs.YtjnidopbdjbbgaaGreat
end
/-
  A pair of brackets settled: walked.
-/
section
namespace Go.Proofs.YtjnidopbdjbbgaaGreat
open Go.RowKit
set_option linter.unusedVariables false
set_option maxRecDepth 20000
set_option maxHeartbeats 4000000
attribute [local go_sem] Oper.semAt_some
/-- The way that a class counts for. -/
def sideW (c:Nat):Nat:=if c = 1 then 1 else if c = 2∨c = 3∨c = 4∨c = 7 then 2 else 0
theorem pside_any (w:World) (c:Nat):Calls Tryz.prog 137 #[.int .u8 c] w fun e w' => e = .returned (.int .u8 (sideW c))∧w = w':=by
 unfold sideW
 by_cases h1:c = 1
 · subst h1
   go_enter Tryz.func137,Tryz.ntmps137
   go_wp2
   go_ret
   exact ⟨rfl,rfl⟩
 by_cases h2:c = 2
 · subst h2
   go_enter Tryz.func137,Tryz.ntmps137
   go_wp2
   go_ret
   exact ⟨rfl,rfl⟩
 by_cases h3:c = 3
 · subst h3
   go_enter Tryz.func137,Tryz.ntmps137
   go_wp2
   go_ret
   exact ⟨rfl,rfl⟩
 by_cases h4:c = 4
 · subst h4
   go_enter Tryz.func137,Tryz.ntmps137
   go_wp2
   go_ret
   exact ⟨rfl,rfl⟩
 by_cases h7:c = 7
 · subst h7
   go_enter Tryz.func137,Tryz.ntmps137
   go_wp2
   go_ret
   exact ⟨rfl,rfl⟩
 rw [if_neg h1,if_neg (by omega)]
 have e1:((c:Int) == 1) = false:=by simp;omega
 have e2:((c:Int) == 2) = false:=by simp;omega
 have e3:((c:Int) == 3) = false:=by simp;omega
 have e4:((c:Int) == 4) = false:=by simp;omega
 have e7:((c:Int) == 7) = false:=by simp;omega
 go_enter Tryz.func137,Tryz.ntmps137
 go_wp2
 go_ret
 exact ⟨rfl,rfl⟩
/-- A sequence that is being resolved lies at a block. -/
def QAt (w:World) (qb:Nat) (pa:Option Addr) (pc:Nat) (g cc:Nat) (fa:Option Addr) (fc:Nat):Prop:=
 w.heap[qb]? = some (.cells #[.slice pa 7 pc,.slice (some ⟨g,0,none⟩) 7 cc,.int .i8 0,.int .u8 1,.int .u8 1,.slice fa 7 fc,.int .u8 1] 117)
theorem within_any (w:World) (qb:Nat) (pa:Option Addr) (pc g cc:Nat) (fa:Option Addr) (fc:Nat) (h:QAt w qb pa pc g cc fa fc) (hcc:7≤cc) (h4:w.cell? ⟨g,4,none⟩ = some (.int .u8 (2:Nat))):
 Calls Tryz.prog 107 #[.pointer (some ⟨qb,0,none⟩),.agg #[.int .i64 (3:Nat),.int .i64 (5:Nat)]] w fun e w' => e = .returned (.tuple #[.bool false,.bool true])∧Below w.heap.size w w':=by
 have hb:=(Below.refl w.heap.size w).alloc (Nat.le_refl _) (.cells #[.int .i64 3,.int .i64 5] 119)
 have hq:=(hb.block qb (Array.getElem?_eq_some_iff.1 h).1).trans h
 have q1:=cells_at hq 1
 have q6:=cells_at hq 6
 have hx:=heap_alloc_new w (.cells #[.int .i64 3,.int .i64 5] 119)
 have x0:=cells_at hx 0
 have x1:=cells_at hx 1
 have c4:=(hb.cell (p:=⟨g,4,none⟩) (World.block_lt_of_cell? _ _ h4)).trans h4
 have HB:=Lib.hid hb
 have hc1:(7:Int)≤(cc:Int):=by omega
 have hc2:(5:Int)≤(cc:Int):=by omega
 clear hx hq h hb h4
 go_enter Tryz.func107,Tryz.ntmps107
 go_wp2
 generalize w.alloc (.cells #[.int .i64 3,.int .i64 5] 119) = W at *
 go_quiet (fail)
 go_wp2
 refine wp_loop_rounds 2 ?_
 rw [rounds_succ]
 go_wp2_with (go_at_call 137;refine (pside_any _ 2).mono ?_;rintro e w2 ⟨rfl,rfl⟩)
 rw [rounds_succ]
 go_wp2
 go_ret2
 exact ⟨rfl,below_drewN HB.out _⟩
theorem pbackC_any (w:World) (a:Option Addr) (n c:Nat):Calls Tryz.prog 138 #[.slice a n c] w fun e w' => e = .returned (.func (.func 153) #[] #[.pointer (some ⟨w.heap.size,0,none⟩)])∧w' = w.alloc (.cells #[.slice a n c] 22):=by
 go_enter Tryz.func138,Tryz.ntmps138
 go_wp2
 go_ret
 exact ⟨rfl,rfl⟩
theorem ahead_in (w:World) (qb:Nat) (pa:Option Addr) (pc g cc:Nat) (fa:Option Addr) (fc:Nat) (h:QAt w qb pa pc g cc fa fc) (hcc:7≤cc) (h2:w.cell? ⟨g,2,none⟩ = some (.int .u8 (2:Nat))):
 CallsIn Fence.wide 5 Tryz.prog 108 #[.pointer (some ⟨qb,0,none⟩),.int .i64 (3:Nat)] w fun e w' => e = .returned (.int .u8 (2:Nat))∧Below w.heap.size w w':=by
 have hb:=(Below.refl w.heap.size w).alloc (Nat.le_refl _) (.cells #[.int .u8 0] 35)
 have hq:=(hb.block qb (Array.getElem?_eq_some_iff.1 h).1).trans h
 have q1:=cells_at hq 1
 have HR:=Lib.hid (heap_alloc_new w (.cells #[.int .u8 0] 35))
 have HB:=Lib.hid hb
 have H2:=Lib.hid ((hb.cell (p:=⟨g,2,none⟩) (World.block_lt_of_cell? _ _ h2)).trans h2)
 have HS:=Lib.hid (show (w.alloc (.cells #[.int .u8 0] 35)).heap.size = w.heap.size + 1 by simp)
 have hc1:(3:Int)≤(cc:Int):=by omega
 have hc2:((3:Nat):Int) = 3:=rfl
 clear hq h hb h2
 refine callsIn_of_wp_marks Tryz.func108 rfl trivial ?_ rfl
 simp only [Tryz.ntmps108,List.size_toArray,List.length_cons,List.length_nil,Nat.reduceAdd,Nat.reduceSub,Array.replicate_succ,Array.replicate_zero,List.push_toArray,List.append_toArray,List.nil_append,List.cons_append]
 refine wpIn_wide.2 ?_
 go_wp2_with fail
 obtain ⟨W0,hW0⟩:∃ W0,W0 = w.alloc (.cells #[.int .u8 0] 35):=⟨_,rfl⟩
 rw [← hW0] at HR HB H2 HS q1 ⊢
 clear hW0 q1
 refine (pbackC_any _ _ _ _).mono ?_
 rintro e w2 ⟨rfl,hw2⟩
 have HB2:=Lib.hid (show Below W0.heap.size W0 w2 by rw [hw2];exact (Below.refl _ _).alloc (Nat.le_refl _) _)
 have HBK:=Lib.hid (show w2.heap[W0.heap.size]? = some (.cells #[.slice (some ⟨g,0,none⟩) 3 cc] 22) by rw [hw2];exact heap_alloc_new _ _)
 have HW2S:=Lib.hid (show w.heap.size < w2.heap.size from by have h1:=HB2.out.size;have h2:=HS.out;omega)
 clear hw2
 go_wp2_with fail
 refine (wpIn_wide (n:=5)).1 ?_
 refine wpIn_rangeR rfl (by omega) (gf:=153) (lb:=#[.pointer (some ⟨W0.heap.size,0,none⟩)]) rfl trivial (enters_of Tryz.func153 (by kernel_rfl) rfl) (enc0:=#[.int .i64 ((2:Nat):Int),.int .u8 ((2:Nat):Int)]) rfl (back_class 4 (by omega) W0.heap.size g cc 2 2 (by omega))
  (fun W => W.heap[w.heap.size]? = some (.cells #[.int .u8 2] 35)∧Below w.heap.size w W)
  (fun _ W W' row hI hg hr => ⟨cells_others hI.1 hg (fun r e => (hr r e).2),hI.2.grown hg hI.2.size (fun r e => by have:=(hr r e).1;have:=HW2S.out;omega)⟩)
  (fun V hV => ⟨(hV.block _ (Array.getElem?_eq_some_iff.1 HBK.out).1).trans HBK.out,((HB2.out.trans (hV.mono HB2.out.size)).cell (p:=⟨g,2,none⟩) (World.block_lt_of_cell? _ _ H2.out)).trans H2.out⟩) ?round ?stop
 case round =>
  intro lp W hV
  have hr0:=(HB2.out.trans (hV.mono HB2.out.size)).block w.heap.size (Array.getElem?_eq_some_iff.1 HR.out).1 |>.trans HR.out
  have HRW:=Lib.hid hr0
  have HBW:=Lib.hid (HB.out.trans ((HB2.out.trans (hV.mono HB2.out.size)).mono (by have:=HS.out;omega)))
  clear hr0 hV
  gi_wp2
  refine ⟨KeepsOthers.refl _,fun W2 hg hlp ho => ?_⟩
  have hr2:∀ r,some lp = some r→∃ o':Obj,W.heap[r]? = some o'∧o'.isCells = false:=fun r e => by cases e;exact ho
  have HR2:=Lib.hid (cells_others HRW.out hg hr2)
  have HB3:=Lib.hid (HBW.out.grown hg HBW.out.size (fun r e => by cases e;have:=HW2S.out;omega))
  have r0:=cells_at HR2.out 0
  have f0:=frozen_at HR2.out 0
  clear hg hr2 ho hlp
  gi_wp2_with (fail)
  refine ⟨trivial,?_⟩
  refine (CallsIn.inRound lp (callsIn_wide.2 (pside_any _ 2))).mono ?_
  rintro e w3 ⟨rfl,rfl⟩
  gi_wp2
  exact ⟨KeepsOthers.setCell _ _ _,heap_set HR2.out _,HB3.out.setCell (p:=⟨w.heap.size,0,none⟩) (Nat.le_refl _) _⟩
 case stop =>
  intro D W hD hI hK
  have HI:=Lib.hid hI
  have HK:=Lib.hid hK
  have HD:=Lib.hid hD
  clear hI hK hD
  gi_wp2
  have hkd:=HK.out
  have hno:∀ r,some D = some r→∃ o:Obj,W.heap[r]? = some o∧o.isCells = false:=fun r e => by cases e;exact ⟨_,hkd,rfl⟩
  have hg:=grownBy_putObj' W D (.deferred none)
  have h1':=cells_at (cells_others HI.out.1 hg hno) 0
  refine ⟨by simp,.inl ⟨_,_,rfl,run_takeDeferred hkd,?_⟩⟩
  refine ⟨.int .u8 2,?_,rfl,HI.out.2.grown hg HI.out.2.size (fun r e => by cases e;have:=HD.out;have:=HW2S.out;omega)⟩
  simp [results,Tryz.f108,go_sem,h1']
theorem pahead_any (w:World) (qb:Nat) (pa:Option Addr) (pc g cc:Nat) (fa:Option Addr) (fc:Nat) (h:QAt w qb pa pc g cc fa fc) (hcc:7≤cc) (h2:w.cell? ⟨g,2,none⟩ = some (.int .u8 (2:Nat))):
 Calls Tryz.prog 108 #[.pointer (some ⟨qb,0,none⟩),.int .i64 (3:Nat)] w fun e w' => e = .returned (.int .u8 (2:Nat))∧Below w.heap.size w w':=
 callsIn_wide.1 (ahead_in w qb pa pc g cc fa fc h hcc h2)
end Go.Proofs.YtjnidopbdjbbgaaGreat
end
/-
  A pair of brackets takes its class, and the brackets' pass: walked.
-/
section
namespace Go.Proofs.YtjnidopbdjbbgaaGreat
open Go.RowKit
set_option linter.unusedVariables false
set_option maxRecDepth 20000
set_option maxHeartbeats 4000000
attribute [local go_sem] Oper.semAt_some
theorem cell_set_other (w:World) {p q:Addr} (h:q.block≠p.block) (v:Value):(w.setCell p v).cell? q = w.cell? q:=by
 have hb:(w.setCell p v).heap[q.block]? = w.heap[q.block]?:=by
  show (w.heap.modify p.block _)[q.block]? = _
  rw [Array.getElem?_modify,if_neg (fun e => h e.symm)]
 unfold World.cell?
 rw [hb]
theorem become_any (w:World) (p x:Nat) (hp:(p = 3∧x = 2)∨(p = 5∧x = 4)) (qb:Nat) (pb fb:Nat) (po fo:Nat) (pc g cc fc:Nat) (h:QAt w qb (some ⟨pb,po,none⟩) pc g cc (some ⟨fb,fo,none⟩) fc) (hcc:7≤cc) (hq:qb≠g) (hpb:pb≠g) (hfb:fb≠g)
 (h1:(w.cell? ⟨g,p,none⟩).isSome = true) (h2:w.frozen? ⟨g,p,none⟩ = false) (h3:w.cell? ⟨pb,po + p + 1,none⟩ = some (.int .i64 (p + 1:Nat))) (h4:w.cell? ⟨fb,fo + p + 1,none⟩ = some (.int .u8 x)):
 Calls Tryz.prog 109 #[.pointer (some ⟨qb,0,none⟩),.int .i64 p,.int .u8 2] w fun e w' => e = .returned (.tuple #[])∧∃ k,w' = (w.setCell ⟨g,p,none⟩ (.int .u8 2)).drewN k:=by
 obtain ⟨v0,h1⟩:=Option.isSome_iff_exists.1 h1
 have hc7:(7:Int)≤(cc:Int):=by omega
 unfold QAt at h
 have q0:=cells_at h 0
 have q1:=cells_at h 1
 have q5:=cells_at h 5
 have hs:=heap_other h hq (j:=p) (.int .u8 2)
 have s0:=cells_at hs 0
 have s1:=cells_at hs 1
 have s5:=cells_at hs 5
 have e3:=(cell_set_other w (p:=⟨g,p,none⟩) (q:=⟨pb,po + p + 1,none⟩) hpb (.int .u8 2)).trans h3
 have e4:=(cell_set_other w (p:=⟨g,p,none⟩) (q:=⟨fb,fo + p + 1,none⟩) hfb (.int .u8 2)).trans h4
 rcases hp with ⟨rfl,rfl⟩ | ⟨rfl,rfl⟩
 · have hi0:(3:Int) < cc:=by omega
   have hi1:((3:Nat):Int) = 3:=rfl
   have hi2:((3 + 1:Nat):Int) = 4:=rfl
   clear hs h h3 h4 s1
   go_enter Tryz.func109,Tryz.ntmps109
   go_wp2_with fail
   obtain ⟨W,hW⟩:∃ W,W = w.setCell ⟨g,3,none⟩ (.int .u8 2):=⟨_,rfl⟩
   rw [← hW] at s0 s5 e3 e4 ⊢
   have e3':W.cell? ⟨pb,po + 4,none⟩ = some (.int .i64 4):=e3
   have e4':W.cell? ⟨fb,fo + 4,none⟩ = some (.int .u8 2):=e4
   clear e3 e4
   have HW:=Lib.hid hW
   clear hW
   refine wp_loop_rounds 1 ?_
   rw [rounds_succ]
   repeat refine wp_seq_k fun K hK => ?_
   go_quiet (fail)
   go_wp2
   go_end0
   rw [← HW.out]
   exact ⟨rfl,_,rfl⟩
 · have hi0:(5:Int) < cc:=by omega
   have hi1:((5:Nat):Int) = 5:=rfl
   have hi2:((5 + 1:Nat):Int) = 6:=rfl
   clear hs h h3 h4 s1
   go_enter Tryz.func109,Tryz.ntmps109
   go_wp2_with fail
   obtain ⟨W,hW⟩:∃ W,W = w.setCell ⟨g,5,none⟩ (.int .u8 2):=⟨_,rfl⟩
   rw [← hW] at s0 s5 e3 e4 ⊢
   have e3':W.cell? ⟨pb,po + 6,none⟩ = some (.int .i64 6):=e3
   have e4':W.cell? ⟨fb,fo + 6,none⟩ = some (.int .u8 4):=e4
   clear e3 e4
   have HW:=Lib.hid hW
   clear hW
   refine wp_loop_rounds 1 ?_
   rw [rounds_succ]
   repeat refine wp_seq_k fun K hK => ?_
   go_quiet (fail)
   go_wp2
   go_end0
   rw [← HW.out]
   exact ⟨rfl,_,rfl⟩
/-- The classes that a pass for brackets stands on: what each place of the copy and of the first classes holds. -/
structure QMem (w:World) (qb pb g fb:Nat) (fo pc cc fc:Nat):Prop where
 at_:QAt w qb (some ⟨pb,0,none⟩) pc g cc (some ⟨fb,fo,none⟩) fc
 room:7≤cc
 nq:qb≠g
 np:pb≠g
 nf:fb≠g
 nqp:qb≠pb
 c2:w.cell? ⟨g,2,none⟩ = some (.int .u8 2)
 c3:w.cell? ⟨g,3,none⟩ = some (.int .u8 14)
 c4:w.cell? ⟨g,4,none⟩ = some (.int .u8 2)
 c5:w.cell? ⟨g,5,none⟩ = some (.int .u8 14)
 r3:w.frozen? ⟨g,3,none⟩ = false
 r5:w.frozen? ⟨g,5,none⟩ = false
 p4:w.cell? ⟨pb,4,none⟩ = some (.int .i64 4)
 p6:w.cell? ⟨pb,6,none⟩ = some (.int .i64 6)
 f4:w.cell? ⟨fb,fo + 4,none⟩ = some (.int .u8 2)
 f6:w.cell? ⟨fb,fo + 6,none⟩ = some (.int .u8 4)
theorem QMem.below {w w':World} {qb pb g fb fo pc cc fc:Nat} (h:QMem w qb pb g fb fo pc cc fc) {B:Nat} (hB:w.heap.size≤B) (hb:Below B w w'):QMem w' qb pb g fb fo pc cc fc:=by
 have cl:∀ {p:Addr} {x:Value},w.cell? p = some x→w'.cell? p = some x:=fun {p x} e => (hb.cell (p:=p) (Nat.lt_of_lt_of_le (World.block_lt_of_cell? _ _ e) hB)).trans e
 have gl:g < B:=Nat.lt_of_lt_of_le (World.block_lt_of_cell? _ _ h.c3) hB
 have fr:∀ j,w'.frozen? ⟨g,j,none⟩ = w.frozen? ⟨g,j,none⟩:=fun j => by
  unfold World.frozen?
  rw [hb.block g gl]
 exact ⟨(hb.block qb (Nat.lt_of_lt_of_le (Array.getElem?_eq_some_iff.1 h.at_).1 hB)).trans h.at_,h.room,h.nq,h.np,h.nf,h.nqp,cl h.c2,cl h.c3,cl h.c4,cl h.c5,(fr _).trans h.r3,(fr _).trans h.r5,cl h.p4,cl h.p6,cl h.f4,cl h.f6⟩
theorem settle_any (w:World) (qb pb g fb:Nat) (fo pc cc fc:Nat) (h:QMem w qb pb g fb fo pc cc fc):
 Calls Tryz.prog 64 #[.pointer (some ⟨qb,0,none⟩),.agg #[.int .i64 3,.int .i64 5]] w fun e w' => e = .returned (.tuple #[]) ∧
  ∃ w1 k j,Below w.heap.size w w1∧w' = (((w1.setCell ⟨g,3,none⟩ (.int .u8 2)).drewN k).setCell ⟨g,5,none⟩ (.int .u8 2)).drewN j:=by
 have hb:=(Below.refl w.heap.size w).alloc (Nat.le_refl _) (.cells #[.int .i64 3,.int .i64 5] 119)
 have hx:=heap_alloc_new w (.cells #[.int .i64 3,.int .i64 5] 119)
 have hq:=h.below (Nat.le_refl _) hb
 have hsz:(w.alloc (.cells #[.int .i64 3,.int .i64 5] 119)).heap.size = w.heap.size + 1:=by simp
 obtain ⟨W,hW⟩:∃ W,W = w.alloc (.cells #[.int .i64 3,.int .i64 5] 119):=⟨_,rfl⟩
 rw [← hW] at hb hx hq hsz
 have HQ:=Lib.hid hq
 have HB:=Lib.hid hb
 have HX:=Lib.hid hx
 have HS:=Lib.hid hsz
 have HW:=Lib.hid hW
 have x0:=cells_at hx 0
 have x1:=cells_at hx 1
 clear h hb hx hq hsz hW
 go_enter Tryz.func64,Tryz.ntmps64
 go_wp2_with fail
 rw [← HW.out]
 refine (within_any W qb _ pc g cc _ fc HQ.out.at_ HQ.out.room HQ.out.c4).mono ?_
 rintro e w2 ⟨rfl,hb2⟩
 have HQ2:=Lib.hid (HQ.out.below (Nat.le_refl _) hb2)
 have HX2:=Lib.hid ((hb2.block _ (by have:=HS.out;omega)).trans HX.out)
 have HB2:=Lib.hid (HB.out.trans (hb2.mono (by have:=HS.out;omega)))
 clear hb2 x0 x1
 have q6:=cells_at HQ2.out.at_ 6
 have x0:=cells_at HX2.out 0
 have x1:=cells_at HX2.out 1
 go_wp2_with fail
 refine (pahead_any w2 qb _ pc g cc _ fc HQ2.out.at_ HQ2.out.room HQ2.out.c2).mono ?_
 rintro e w3 ⟨rfl,hb3⟩
 have HQ3:=Lib.hid (HQ2.out.below (Nat.le_refl _) hb3)
 have HX3:=Lib.hid ((hb3.block w.heap.size (Array.getElem?_eq_some_iff.1 HX2.out).1).trans HX2.out)
 have HB3:=Lib.hid (HB2.out.trans (hb3.mono HB2.out.size))
 clear hb3 x0 x1 q6
 have HGX:=Lib.hid (show g≠w.heap.size from fun e => by
  have h3:=HQ3.out.c3
  rw [e,cells_at HX3.out 3] at h3
  simp at h3)
 have x0:=cells_at HX3.out 0
 have x1:=cells_at HX3.out 1
 go_wp2_with fail
 refine (become_any w3 3 2 (.inl ⟨rfl,rfl⟩) qb pb fb 0 fo pc g cc fc HQ3.out.at_ HQ3.out.room HQ3.out.nq HQ3.out.np HQ3.out.nf (by rw [HQ3.out.c3];rfl) HQ3.out.r3 HQ3.out.p4 HQ3.out.f4).mono ?_
 rintro e w4 ⟨rfl,k,hw4⟩
 have HK4:=Lib.hid hw4
 have HX4:=Lib.hid (show w4.heap[w.heap.size]? = some (.cells #[.int .i64 3,.int .i64 5] 119) by rw [hw4];exact heap_other HX3.out (Ne.symm HGX.out) (j:=3) (.int .u8 2))
 have HA4:=Lib.hid (show QAt w4 qb _ pc g cc _ fc by rw [hw4];exact heap_other HQ3.out.at_ HQ3.out.nq (j:=3) (.int .u8 2))
 have HP4:=Lib.hid (show w4.cell? ⟨pb,6,none⟩ = some (.int .i64 6) by rw [hw4];exact (cell_set_other w3 (p:=⟨g,3,none⟩) (q:=⟨pb,6,none⟩) HQ3.out.np (.int .u8 2)).trans HQ3.out.p6)
 have HF4:=Lib.hid (show w4.cell? ⟨fb,fo + 6,none⟩ = some (.int .u8 4) by rw [hw4];exact (cell_set_other w3 (p:=⟨g,3,none⟩) (q:=⟨fb,fo + 6,none⟩) HQ3.out.nf (.int .u8 2)).trans HQ3.out.f6)
 have HC4:=Lib.hid (show (w4.cell? ⟨g,5,none⟩).isSome = true by
  rw [hw4]
  obtain ⟨v',e⟩:=cell?_setCell_some (p:=⟨g,3,none⟩) (x:=.int .u8 2) HQ3.out.c5
  exact (congrArg Option.isSome e).trans rfl)
 have HR4:=Lib.hid (show w4.frozen? ⟨g,5,none⟩ = false by rw [hw4];exact (World.frozen?_setCell w3 _ _ _).trans HQ3.out.r5)
 clear hw4 x0 x1
 have x1:=cells_at HX4.out 1
 go_wp2_with fail
 refine (become_any w4 5 4 (.inr ⟨rfl,rfl⟩) qb pb fb 0 fo pc g cc fc HA4.out HQ3.out.room HQ3.out.nq HQ3.out.np HQ3.out.nf HC4.out HR4.out HP4.out HF4.out).mono ?_
 rintro e w5 ⟨rfl,j,hw5⟩
 have HK5:=Lib.hid hw5
 clear hw5
 go_wp2
 go_end0
 exact ⟨rfl,w3,k,j,HB3.out,by rw [HK5.out,HK4.out]⟩
end Go.Proofs.YtjnidopbdjbbgaaGreat
end
