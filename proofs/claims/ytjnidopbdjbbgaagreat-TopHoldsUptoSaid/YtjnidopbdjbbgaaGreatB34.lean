/-
  The reference's Explicit: it ends; walked (printed by genexpl.py).
-/
import Derived.Test.YtjnidopbdjbbgaaGreatB27
import Derived.Deep.CutBlock
import Derived.Deep.RegionHeld3
namespace Go.Proofs.YtjnidopbdjbbgaaGreat
open Go.RowKit
set_option linter.unusedVariables false
theorem XI.start {w w1 w3:World} {g base n mc:Nat} {ma:Option Addr} {D:List Int} (hbase:base≤1) (o1:Own w1 (w.alloc (.cells #[.slice none 0 0,.slice none 0 0,.slice none 0 0] 84)).heap.size 3 (some ⟨g,0,none⟩) 1 1 (entsV [⟨base,0,false⟩])) (b1:Below (w.alloc (.cells #[.slice none 0 0,.slice none 0 0,.slice none 0 0] 84)).heap.size (w.alloc (.cells #[.slice none 0 0,.slice none 0 0,.slice none 0 0] 84)) w1)
 (om:Own w3 (w1.alloc (.cells #[.int .i8 base,.slice (some ⟨g,0,none⟩) 1 1,.int .i64 0,.int .i64 0,.int .i64 0] 155)).heap.size 1 ma n mc (D.map i64V)) (b3:Below (w1.alloc (.cells #[.int .i8 base,.slice (some ⟨g,0,none⟩) 1 1,.int .i64 0,.int .i64 0,.int .i64 0] 155)).heap.size (w1.alloc (.cells #[.int .i8 base,.slice (some ⟨g,0,none⟩) 1 1,.int .i64 0,.int .i64 0,.int .i64 0] 155)) w3):
 XI w (w3.alloc (.cells #[.slice none 0 0,.slice none 0 0,.slice ma n mc] 84)) w.heap.size w1.heap.size w3.heap.size base n 0 0 D { l:=[⟨base,0,false⟩],isos:=0,embs:=0,valid:=0 } (some ⟨g,0,none⟩) none none ma 1 0 0 mc [] []:=by
 have s1:=b1.size
 have s3:=b3.size
 simp only [World.size_alloc] at s1 s3
 have hg:=own_at o1 rfl
 have hm:∀ g',blockOf ma = some g'→w1.heap.size + 1≤g'∧g' < w3.heap.size:=fun g' hg' => by have:=own_at om hg';simp only [World.size_alloc] at this;exact this.2
 simp only [World.size_alloc] at hg
 have hb4:Below w3.heap.size w3 (w3.alloc (.cells #[.slice none 0 0,.slice none 0 0,.slice ma n mc] 84)):=(Below.refl _ _).alloc (Nat.le_refl _) _
 have B1:Below w.heap.size w w1:=((Below.refl _ _).alloc (Nat.le_refl _) _).trans (b1.mono (by simp))
 have B3:Below w.heap.size w w3:=(B1.alloc B1.size _).trans (b3.mono (by simp;omega))
 refine ⟨?_,?_,heap_alloc_new w3 _,?_,Own.nil _ _ _,Own.nil _ _ _,(om.below hb4).mono (by simp;omega),by omega,by omega,by simp,fun g' hg' => ?_,fun g' hg' => ?_,fun g' hg' => (by cases hg'),B3.alloc B3.size _,rfl,⟨[],rfl,rfl,by simp⟩⟩
 · exact (hb4.block w.heap.size (by omega)).trans ((b3.block w.heap.size (by simp;omega)).trans ((Below.heap_alloc w1 _ w.heap.size (by omega)).trans ((b1.block w.heap.size (by simp)).trans (heap_alloc_new w _))))
 · exact (hb4.block w1.heap.size (by omega)).trans ((b3.block w1.heap.size (by simp)).trans (heap_alloc_new w1 _))
 · exact (((o1.alloc _).below b3).below hb4).mono (by simp)
 · simp only [blockOf,Option.some.injEq] at hg'
   subst hg'
   exact ⟨by omega,by omega,by omega,by simp [blockOf],by simp [blockOf]⟩
 · have:=hm g' hg'
   exact ⟨by omega,by omega,by omega⟩
theorem cell_five {w:World} {g j M:Nat} {u:Value} (h:w.cell? ⟨g,j,none⟩ = some u) (hne:g≠M) (x0 x1 x2 x3 x4:Value):(((((w.setCell ⟨M,0,none⟩ x0).setCell ⟨M,1,none⟩ x1).setCell ⟨M,2,none⟩ x2).setCell ⟨M,3,none⟩ x3).setCell ⟨M,4,none⟩ x4).cell? ⟨g,j,none⟩ = some u:=
 cell_set (cell_set (cell_set (cell_set (cell_set h hne) hne) hne) hne) hne
def ExplP (n:Nat) (w:World) (e:Ending) (w':World):Prop:=
 ∃ la lc ka kc ma mc,e = .returned (.tuple #[.agg #[.slice la n lc,.slice ka n kc,.slice ma n mc],.int .i64 0])∧∃ (lv:List Int) (ks:List Nat),lv.length = n∧ks.length = n∧Cells w' la (lv.map i8V)∧Cells w' ka (ks.map u8V)∧Below w.heap.size w w'
set_option maxRecDepth 20000 in
set_option maxHeartbeats 8000000 in
theorem xexpl_any (w:World) (a:Option Addr) (n c base:Nat) (l:List Nat) (hbase:base≤1) (h23:∀ x∈l,1≤x∧x≤23) (hl:l.length = n) (hn:n≤1048576) (hc:Cells w a (l.map u8V)):
 Calls Tryz.prog 52 #[.int .i8 base,.slice a n c] w (ExplP n w):=by
 obtain ⟨i8,hi8,hy0,hy1,hy2⟩:=info_parts info26
 obtain ⟨i0,hi,hz0,hz1,hz2⟩:=info_parts info35
 have HC:=Lib.hid hc
 have HL:=Lib.hid hl
 have H23:=Lib.hid h23
 have hnn:(n:Int)≤1048576:=by omega
 have HBS:=Lib.hid hbase
 have HNW:=Lib.hid (fun w' => rnew_any w' base (by omega))
 have HMT:=Lib.hid (fun w' h => xmatch_any w' a n c l hl hn h)
 have hb00:Below w.heap.size w (w.alloc (.cells #[.slice none 0 0,.slice none 0 0,.slice none 0 0] 84)):=(Below.refl _ _).alloc (Nat.le_refl _) _
 have HB00:=Lib.hid hb00
 clear hc hl h23 hbase hb00
 go_enter Tryz.func52,Tryz.ntmps52
 go_wp2_with (first
  | (go_at_call 86;refine (HNW.out _).mono ?_;rintro e w1 ⟨g,rfl,o1,b1⟩;have HO1:=Lib.hid o1;have HB1:=Lib.hid b1;have HB01:=Lib.hid ((HB00.out.trans (b1.mono HB00.out.size)).alloc (Nat.le_trans HB00.out.size b1.size) (.cells #[.int .i8 base,.slice (some ⟨g,0,none⟩) 1 1,.int .i64 0,.int .i64 0,.int .i64 0] 155));clear o1 b1)
  | (go_at_call 87;refine (HMT.out _ (HC.out.below HB01.out)).mono ?_;rintro e w3 ⟨ma,mc,rfl,D,hJ,om,b3⟩;have HOM:=Lib.hid om;have HB3:=Lib.hid b3;have HJ:=Lib.hid hJ;clear om b3 hJ))
 have HX0:=Lib.hid (XI.start HBS.out HO1.out HB1.out HOM.out HB3.out)
 obtain ⟨N,hN⟩:∃ N,w.heap.size = N:=⟨_,rfl⟩
 obtain ⟨N6,hN6⟩:∃ N6,w1.heap.size = N6:=⟨_,rfl⟩
 obtain ⟨N8,hN8⟩:∃ N8,w3.heap.size = N8:=⟨_,rfl⟩
 rw [hN,hN6,hN8] at HX0 ⊢
 have HN:=Lib.hid hN
 clear HO1 HB1 HOM HB3 HB01 HB00 hN hN6 hN8
 go_loopg [9] n (fun r s9 wr => ∃ (q:Nat) (s:St) (pa la ka:Option Addr) (pc lc kc:Nat) (lv:List Int) (ks:List Nat),q + r = n∧s9 = .int .i64 q∧XI w wr N N6 N8 base n q q D s pa la ka ma pc lc kc mc lv ks∧s.l.length≤q + 1∧s.isos≤q∧s.embs≤q)
 case atStart => exact ⟨0,_,_,_,_,_,_,_,_,_,by omega,rfl,HX0.out,Nat.le_refl _,Nat.le_refl _,Nat.le_refl _⟩
 case round =>
  obtain ⟨q,s,pa,la,ka,pc,lc,kc,lv,ks,hq,rfl,hx,hs1,hs2,hs3⟩:=hrel
  obtain ⟨V,rfl⟩:∃ V:World,V = wr:=⟨_,rfl⟩
  have HX:=Lib.hid hx
  have HQ:=Lib.hid hq
  have HS1:=Lib.hid hs1
  have HS2:=Lib.hid hs2
  have HS3:=Lib.hid hs3
  by_cases hlt:q < n
  · have hq0:(0:Int)≤(q:Int):=by omega
    have hq1:(q:Int) < (n:Int):=by omega
    have hq2:(q:Int)≤1048576:=by omega
    have HLT:=Lib.hid hlt
    have HCV:=Lib.hid (HC.out.below (by have:=hx.below;rw [hx.hN] at this;exact this))
    obtain ⟨x,hxx⟩:∃ x,l[q]? = some x:=⟨_,List.getElem?_eq_getElem (by rw [HL.out];exact hlt)⟩
    have HR23:=Lib.hid (H23.out x (List.mem_of_getElem? hxx))
    obtain ⟨ab,ao,rfl,hcx⟩:=HCV.out.getm hxx
    unfold u8V at hcx
    have k0:=cells_at hx.b6 0
    have k1:=cells_at hx.b6 1
    have k2:=cells_at hx.b6 2
    have k3:=cells_at hx.b6 3
    have k4:=cells_at hx.b6 4
    have m2:=cells_at hx.b8 2
    have hxd:=hx.after ((Below.refl V.heap.size V).drew)
    have HXD:=Lib.hid hxd
    have hxa:=hx.after (((Below.refl V.heap.size V).alloc (Nat.le_refl _) (.cells #[.int .i8 0,.slice none 0 0,.int .i64 0,.int .i64 0,.int .i64 0] 155)).drew)
    have HXA:=Lib.hid hxa
    have HBV:Hid (Below V.heap.size V (V.alloc (.cells #[.int .i8 0,.slice none 0 0,.int .i64 0,.int .i64 0,.int .i64 0] 155)).drew):=Lib.hid (((Below.refl V.heap.size V).alloc (Nat.le_refl _) _).drew)
    have HLV:Hid (V.heap.size < ((V.alloc (.cells #[.int .i8 0,.slice none 0 0,.int .i64 0,.int .i64 0,.int .i64 0] 155)).drew).heap.size):=Lib.hid (by show V.heap.size < (V.alloc _).heap.size;simp)
    have HHA:Hid (((V.alloc (.cells #[.int .i8 0,.slice none 0 0,.int .i64 0,.int .i64 0,.int .i64 0] 155)).drew).heap[V.heap.size]? = some (.cells #[.int .i8 0,.slice none 0 0,.int .i64 0,.int .i64 0,.int .i64 0] 155)):=Lib.hid (heap_alloc_new V _)
    have hst:∀ (U:World) (hu:XI w U N N6 N8 base n q q D s pa la ka ma pc lc kc mc lv ks) (av:Int) (ha:av = 0∨av = 1) (xv:Int) (hxv:xv = (x:Int)),Calls Tryz.prog 89 #[.agg #[.int .i8 base,.slice pa s.l.length pc,.int .i64 s.isos,.int .i64 s.embs,.int .i64 s.valid],  .int .u8 xv,.int .i8 av] U (RStepP U N base s pa):=fun U hu av ha xv hxv => by
     subst hxv
     rcases ha with rfl | rfl
     · exact rstep_any U N base s pa pc x 0 (by have:=hu.o46;have:=hu.o68;have:=hu.o8;omega) HBS.out hu.ok (by omega) (by omega) (by omega) hu.st HR23.out.1 HR23.out.2 (.inl rfl)
     · exact rstep_any U N base s pa pc x 1 (by have:=hu.o46;have:=hu.o68;have:=hu.o8;omega) HBS.out hu.ok (by omega) (by omega) (by omega) hu.st HR23.out.1 HR23.out.2 (.inr rfl)
    have HST:=Lib.hid hst
    clear hst
    clear hxa
    clear hxd
    clear hx hq hs1 hs2 hs3 hlt hxx
    by_cases h22:x = 22
    · subst h22
      go_wp2_with (go_at_call 88;refine (xauto_any _ _ ma n c mc q l D HJ.out HL.out hn HLT.out HCV.out HX.out.mo.toCells).mono ?_;rintro e w2 ⟨⟨v,rfl,hv⟩,rfl⟩;have HV:=Lib.hid (show (v:Int) = 0∨(v:Int) = 1 by omega);clear hv)
      go_upto_region 13 with (fail)
      have kz:V.cell? ⟨N6,0,none⟩ = some (.int .i8 base)∧V.cell? ⟨N6,1,none⟩ = some (.slice pa s.l.length pc)∧V.cell? ⟨N6,2,none⟩ = some (.int .i64 s.isos)∧V.cell? ⟨N6,3,none⟩ = some (.int .i64 s.embs)∧V.cell? ⟨N6,4,none⟩ = some (.int .i64 s.valid)∧V.cell? ⟨ab,ao + q,none⟩ = some (.int .u8 22):=⟨k0,k1,k2,k3,k4,hcx⟩
      have kd:V.drew.cell? ⟨N6,0,none⟩ = some (.int .i8 base)∧V.drew.cell? ⟨N6,1,none⟩ = some (.slice pa s.l.length pc)∧V.drew.cell? ⟨N6,2,none⟩ = some (.int .i64 s.isos)∧V.drew.cell? ⟨N6,3,none⟩ = some (.int .i64 s.embs)∧V.drew.cell? ⟨N6,4,none⟩ = some (.int .i64 s.valid)∧V.drew.cell? ⟨ab,ao + q,none⟩ = some (.int .u8 22):=kz
      have ka:(V.alloc (.cells #[.int .i8 0,.slice none 0 0,.int .i64 0,.int .i64 0,.int .i64 0] 155)).drew.cell? ⟨N6,0,none⟩ = some (.int .i8 base)∧(V.alloc (.cells #[.int .i8 0,.slice none 0 0,.int .i64 0,.int .i64 0,.int .i64 0] 155)).drew.cell? ⟨N6,1,none⟩ = some (.slice pa s.l.length pc)∧(V.alloc (.cells #[.int .i8 0,.slice none 0 0,.int .i64 0,.int .i64 0,.int .i64 0] 155)).drew.cell? ⟨N6,2,none⟩ = some (.int .i64 s.isos)∧(V.alloc (.cells #[.int .i8 0,.slice none 0 0,.int .i64 0,.int .i64 0,.int .i64 0] 155)).drew.cell? ⟨N6,3,none⟩ = some (.int .i64 s.embs)∧(V.alloc (.cells #[.int .i8 0,.slice none 0 0,.int .i64 0,.int .i64 0,.int .i64 0] 155)).drew.cell? ⟨N6,4,none⟩ = some (.int .i64 s.valid)∧(V.alloc (.cells #[.int .i8 0,.slice none 0 0,.int .i64 0,.int .i64 0,.int .i64 0] 155)).drew.cell? ⟨ab,ao + q,none⟩ = some (.int .u8 22):=⟨(HBV.out.cell (World.block_lt_of_cell? V _ k0)).trans k0,(HBV.out.cell (World.block_lt_of_cell? V _ k1)).trans k1,(HBV.out.cell (World.block_lt_of_cell? V _ k2)).trans k2,(HBV.out.cell (World.block_lt_of_cell? V _ k3)).trans k3,(HBV.out.cell (World.block_lt_of_cell? V _ k4)).trans k4,(HBV.out.cell (World.block_lt_of_cell? V _ hcx)).trans hcx⟩
      go_region_held3 (fun w' => w'.cell? ⟨N6,0,none⟩ = some (.int .i8 base)∧w'.cell? ⟨N6,1,none⟩ = some (.slice pa s.l.length pc)∧w'.cell? ⟨N6,2,none⟩ = some (.int .i64 s.isos)∧w'.cell? ⟨N6,3,none⟩ = some (.int .i64 s.embs)∧w'.cell? ⟨N6,4,none⟩ = some (.int .i64 s.valid)∧w'.cell? ⟨ab,ao + q,none⟩ = some (.int .u8 22)) (first | (with_reducible exact kz) | (with_reducible exact kd) | (with_reducible exact ka) | (with_reducible exact ke) | (with_reducible exact kf) | go_keep)
       ((go_at_call 89;first
       | ((with_reducible show Calls Tryz.prog 89 _ (World.drew V) _);refine (HST.out V.drew HXD.out v HV.out 22 rfl).mono ?_;rintro e w5 ⟨t,qa,qc,lv1,kk1,d1,rfl,hok,hcnt,o5,hfr,b5⟩;have HOK:=Lib.hid hok;have HCNT:=Lib.hid hcnt;have HO5:=Lib.hid o5;have HFR:=Lib.hid hfr;have HB5:=Lib.hid b5;have hxe:=HXD.out.after b5;have ke:=And.intro (cells_at hxe.b6 0) (And.intro (cells_at hxe.b6 1) (And.intro (cells_at hxe.b6 2) (And.intro (cells_at hxe.b6 3) (And.intro (cells_at hxe.b6 4) ((b5.cell (p:=⟨ab,ao + q,none⟩) (World.block_lt_of_cell? V _ hcx)).trans hcx)))));clear hok hcnt o5 hfr b5 hxe)
       | (refine (HST.out _ HXA.out v HV.out 22 rfl).mono ?_;rintro e w5 ⟨t,qa,qc,lv1,kk1,d1,rfl,hok,hcnt,o5,hfr,b5⟩;have HOK:=Lib.hid hok;have HCNT:=Lib.hid hcnt;have HO5:=Lib.hid o5;have HFR:=Lib.hid hfr;have HB5:=Lib.hid b5;have ht:=(b5.block V.heap.size HLV.out).trans HHA.out;have HT:=Lib.hid ht;have t0:=cells_at ht 0;have t1:=cells_at ht 1;have t2:=cells_at ht 2;have t3:=cells_at ht 3;have t4:=cells_at ht 4;have f0:=frozen_at ht 0;have f1:=frozen_at ht 1;have f2:=frozen_at ht 2;have f3:=frozen_at ht 3;have f4:=frozen_at ht 4;have hxe:=HXA.out.after b5;have ke:=And.intro (cells_at hxe.b6 0) (And.intro (cells_at hxe.b6 1) (And.intro (cells_at hxe.b6 2) (And.intro (cells_at hxe.b6 3) (And.intro (cells_at hxe.b6 4) (((HBV.out.trans (b5.mono HBV.out.size)).cell (p:=⟨ab,ao + q,none⟩) (World.block_lt_of_cell? V _ hcx)).trans hcx)))));have hn6:N6≠V.heap.size  :=(by have h1:=HXD.out.o8;have h2:=HXD.out.o68;have h3:V.drew.heap.size = V.heap.size:=rfl;omega);have hna:ab≠V.heap.size:=(by have h1:=World.block_lt_of_cell? V _ hcx;simp only at h1;omega);have kf:=And.intro (cell_five ke.1 hn6 (.int .i8 base) (.slice qa t.l.length qc) (.int .i64 t.isos) (.int .i64 t.embs) (.int .i64 t.valid)) (And.intro (cell_five ke.2.1 hn6 (.int .i8 base) (.slice qa t.l.length qc) (.int .i64 t.isos) (.int .i64 t.embs) (.int .i64 t.valid)) (And.intro (cell_five ke.2.2.1 hn6 (.int .i8 base) (.slice qa t.l.length qc) (.int .i64 t.isos) (.int .i64 t.embs) (.int .i64 t.valid)) (And.intro (cell_five ke.2.2.2.1 hn6 (.int .i8 base) (.slice qa t.l.length qc) (.int .i64 t.isos) (.int .i64 t.embs) (.int .i64 t.valid)) (And.intro (cell_five ke.2.2.2.2.1 hn6 (.int .i8 base) (.slice qa t.l.length qc) (.int .i64 t.isos) (.int .i64 t.embs) (.int .i64 t.valid)) (cell_five ke.2.2.2.2.2 hna (.int .i8 base) (.slice qa t.l.length qc) (.int .i64 t.isos) (.int .i64 t.embs) (.int .i64 t.valid))))));clear hok hcnt o5 hfr b5 ht hxe)))
      · clear k0 k1 k2 k3 k4 hcx kz kd ka ke
        obtain ⟨W6,hW6⟩:∃ W6,W6 = w5.alloc (.cells #[.int .i8 base,.slice qa t.l.length qc,.int .i64 t.isos,.int .i64 t.embs,.int .i64 t.valid] 155):=⟨_,rfl⟩
        have hb6:Below w5.heap.size w5 W6:=by rw [hW6];exact (Below.refl _ _).alloc (Nat.le_refl _) _
        have HX6:=Lib.hid ((HXD.out.after HB5.out).after hb6)
        have HT6:Hid (W6.heap[w5.heap.size]? = some (.cells #[.int .i8 base,.slice qa t.l.length qc,.int .i64 t.isos,.int .i64 t.embs,.int .i64 t.valid] 155)):=Lib.hid (by rw [hW6];exact heap_alloc_new w5 _)
        have HO6:=Lib.hid (HO5.out.below hb6)
        have HF6:=Lib.hid (HXD.out.fresh HO5.out HFR.out)
        rw [← hW6]
        clear hW6 hb6
        obtain ⟨T,hT⟩:∃ T,w5.heap.size = T:=⟨_,rfl⟩
        rw [hT] at HT6 ⊢
        clear hT
        have n0:=cells_at HX6.out.b6 0
        have n1:=cells_at HX6.out.b6 1
        have n2:=cells_at HX6.out.b6 2
        have n3:=cells_at HX6.out.b6 3
        have n4:=cells_at HX6.out.b6 4
        have z0:=frozen_at HX6.out.b6 0
        have z1:=frozen_at HX6.out.b6 1
        have z2:=frozen_at HX6.out.b6 2
        have z3:=frozen_at HX6.out.b6 3
        have z4:=frozen_at HX6.out.b6 4
        have hx7:=HX6.out.stack HO6.out HF6.out HOK.out
        go_upto_region 15 with (with_reducible refine wpList_load_row rfl 155 _ rfl T rfl 155 _ (0,0) _ HT6.out Tryz.underlying155 rfl (by kernel_rfl) ?_)
        obtain ⟨W7,hW7⟩:∃ W7,W7 = (((((W6.setCell ⟨N6,0,none⟩ (.int .i8 base)).setCell ⟨N6,1,none⟩ (.slice qa t.l.length qc)).setCell ⟨N6,2,none⟩ (.int .i64 t.isos)).setCell ⟨N6,3,none⟩ (.int .i64 t.embs)).setCell ⟨N6,4,none⟩ (.int .i64 t.valid)):=⟨_,rfl⟩
        rw [← hW7] at hx7 ⊢
        have HX7:=Lib.hid hx7
        have y0:=cells_at hx7.b8 0
        clear hW7 hx7 n0 n1 n2 n3 n4 z0 z1 z2 z3 z4
        go_wp2_with (first
         | (at_builtin;refine wpList_push rfl _ _ 27 rfl 26 i8 (.int .i8 0) 1 Tryz.underlying27 hi8 hy0 hy1 hy2 rfl rfl (N8 + 1) la q lc _ rfl _ _ rfl HX7.out.lo _ rfl rfl rfl (by omega) (by decide) (by have:=HX7.out.o8;omega) ?_;intro la' lc' W8 hl1 hl2 hl3;have HX8:=Lib.hid (HX7.out.pushL hl1 hl2 hl3);have hb8:=(hl3.block N8 (Nat.lt_succ_self _)).trans HX7.out.b8;have p0:=cells_at hb8 0;have p1:=cells_at hb8 1;have g0:=frozen_at hb8 0;clear hl1 hl2 hl3 hb8)
         | (at_builtin;refine wpList_push rfl _ _ 22 rfl 35 i0 (.int .u8 0) 1 Tryz.underlying22 hi hz0 hz1 hz2 rfl rfl (N8 + 1) ka q kc _ rfl _ _ rfl HX8.out.ko _ rfl (by simp) rfl (by omega) (by decide) (by have:=HX8.out.o8;omega) ?_;intro ka' kc' W9 hk1 hk2 hk3;have HX9:=Lib.hid (HX8.out.pushK hk1 hk2 hk3);have hb9:=(hk3.block N8 (Nat.lt_succ_self _)).trans HX8.out.b8;have r1:=cells_at hb9 1;have h1:=frozen_at hb9 1;clear hk1 hk2 hk3 hb9))
        go_roundg (gk - 1)
        case measure => have:=HQ.out;have:=HLT.out;omega
        case rel => exact ⟨q + 1,t,qa,la',ka',qc,lc',kc',lv ++ [lv1],ks ++ [kk1],by have:=HQ.out;have:=HLT.out;omega,by go_num,HX9.out,by have:=HCNT.out.1;have:=HS1.out;omega,by have:=HCNT.out.2.1;have:=HS2.out;omega,by have:=HCNT.out.2.2;have:=HS3.out;omega⟩
      · clear k0 k1 k2 k3 k4 hcx kz kd ka ke kf t0 t1 t2 t3 t4 f0 f1 f2 f3 f4
        obtain ⟨W6,hW6⟩:∃ W6,W6 = (((((w5.setCell ⟨V.heap.size,0,none⟩ (.int .i8 base)).setCell ⟨V.heap.size,1,none⟩ (.slice qa t.l.length qc)).setCell ⟨V.heap.size,2,none⟩ (.int .i64 t.isos)).setCell ⟨V.heap.size,3,none⟩ (.int .i64 t.embs)).setCell ⟨V.heap.size,4,none⟩ (.int .i64 t.valid)):=⟨_,rfl⟩
        have HX6:Hid (XI w W6 N N6 N8 base n q q D s pa la ka ma pc lc kc mc lv ks):=Lib.hid (HX.out.after (by rw [hW6];exact below_set5 (HBV.out.trans (HB5.out.mono HBV.out.size)) (Nat.le_refl _) _ _ _ _ _))
        have HT6:Hid (W6.heap[V.heap.size]? = some (.cells #[.int .i8 base,.slice qa t.l.length qc,.int .i64 t.isos,.int .i64 t.embs,.int .i64 t.valid] 155)):=Lib.hid (by rw [hW6];exact set_all5 HT.out _ _ _ _ _)
        have HO6:Hid (Own W6 N 3 qa t.l.length qc (entsV t.l)):=Lib.hid (by
         rw [hW6]
         refine own_five HO5.out (fun e => ?_) _ _ _ _ _
         rcases HFR.out _ (own_at HO5.out e).1 with h | h
         · have:=(own_at HX.out.st (by rw [h];rfl:blockOf pa = some V.heap.size)).2.2;omega
         · have:=HLV.out;omega)
        have HF6:=Lib.hid (HXA.out.fresh HO5.out HFR.out)
        rw [← hW6]
        clear hW6
        obtain ⟨T,hT⟩:∃ T,V.heap.size = T:=⟨_,rfl⟩
        rw [hT] at HT6 ⊢
        clear hT
        have n0:=cells_at HX6.out.b6 0
        have n1:=cells_at HX6.out.b6 1
        have n2:=cells_at HX6.out.b6 2
        have n3:=cells_at HX6.out.b6 3
        have n4:=cells_at HX6.out.b6 4
        have z0:=frozen_at HX6.out.b6 0
        have z1:=frozen_at HX6.out.b6 1
        have z2:=frozen_at HX6.out.b6 2
        have z3:=frozen_at HX6.out.b6 3
        have z4:=frozen_at HX6.out.b6 4
        have hx7:=HX6.out.stack HO6.out HF6.out HOK.out
        go_upto_region 15 with (with_reducible refine wpList_load_row rfl 155 _ rfl T rfl 155 _ (0,0) _ HT6.out Tryz.underlying155 rfl (by kernel_rfl) ?_)
        obtain ⟨W7,hW7⟩:∃ W7,W7 = (((((W6.setCell ⟨N6,0,none⟩ (.int .i8 base)).setCell ⟨N6,1,none⟩ (.slice qa t.l.length qc)).setCell ⟨N6,2,none⟩ (.int .i64 t.isos)).setCell ⟨N6,3,none⟩ (.int .i64 t.embs)).setCell ⟨N6,4,none⟩ (.int .i64 t.valid)):=⟨_,rfl⟩
        rw [← hW7] at hx7 ⊢
        have HX7:=Lib.hid hx7
        have y0:=cells_at hx7.b8 0
        clear hW7 hx7 n0 n1 n2 n3 n4 z0 z1 z2 z3 z4
        go_wp2_with (first
         | (at_builtin;refine wpList_push rfl _ _ 27 rfl 26 i8 (.int .i8 0) 1 Tryz.underlying27 hi8 hy0 hy1 hy2 rfl rfl (N8 + 1) la q lc _ rfl _ _ rfl HX7.out.lo _ rfl rfl rfl (by omega) (by decide) (by have:=HX7.out.o8;omega) ?_;intro la' lc' W8 hl1 hl2 hl3;have HX8:=Lib.hid (HX7.out.pushL hl1 hl2 hl3);have hb8:=(hl3.block N8 (Nat.lt_succ_self _)).trans HX7.out.b8;have p0:=cells_at hb8 0;have p1:=cells_at hb8 1;have g0:=frozen_at hb8 0;clear hl1 hl2 hl3 hb8)
         | (at_builtin;refine wpList_push rfl _ _ 22 rfl 35 i0 (.int .u8 0) 1 Tryz.underlying22 hi hz0 hz1 hz2 rfl rfl (N8 + 1) ka q kc _ rfl _ _ rfl HX8.out.ko _ rfl (by simp) rfl (by omega) (by decide) (by have:=HX8.out.o8;omega) ?_;intro ka' kc' W9 hk1 hk2 hk3;have HX9:=Lib.hid (HX8.out.pushK hk1 hk2 hk3);have hb9:=(hk3.block N8 (Nat.lt_succ_self _)).trans HX8.out.b8;have r1:=cells_at hb9 1;have h1:=frozen_at hb9 1;clear hk1 hk2 hk3 hb9))
        go_roundg (gk - 1)
        case measure => have:=HQ.out;have:=HLT.out;omega
        case rel => exact ⟨q + 1,t,qa,la',ka',qc,lc',kc',lv ++ [lv1],ks ++ [kk1],by have:=HQ.out;have:=HLT.out;omega,by go_num,HX9.out,by have:=HCNT.out.1;have:=HS1.out;omega,by have:=HCNT.out.2.1;have:=HS2.out;omega,by have:=HCNT.out.2.2;have:=HS3.out;omega⟩
    · have e22:((x:Int) == 22) = false:=by simp;omega
      clear h22
      go_wp2_with fail
      go_upto_region 13 with (fail)
      have kz:V.cell? ⟨N6,0,none⟩ = some (.int .i8 base)∧V.cell? ⟨N6,1,none⟩ = some (.slice pa s.l.length pc)∧V.cell? ⟨N6,2,none⟩ = some (.int .i64 s.isos)∧V.cell? ⟨N6,3,none⟩ = some (.int .i64 s.embs)∧V.cell? ⟨N6,4,none⟩ = some (.int .i64 s.valid)∧V.cell? ⟨ab,ao + q,none⟩ = some (.int .u8 x):=⟨k0,k1,k2,k3,k4,hcx⟩
      have kd:V.drew.cell? ⟨N6,0,none⟩ = some (.int .i8 base)∧V.drew.cell? ⟨N6,1,none⟩ = some (.slice pa s.l.length pc)∧V.drew.cell? ⟨N6,2,none⟩ = some (.int .i64 s.isos)∧V.drew.cell? ⟨N6,3,none⟩ = some (.int .i64 s.embs)∧V.drew.cell? ⟨N6,4,none⟩ = some (.int .i64 s.valid)∧V.drew.cell? ⟨ab,ao + q,none⟩ = some (.int .u8 x):=kz
      have ka:(V.alloc (.cells #[.int .i8 0,.slice none 0 0,.int .i64 0,.int .i64 0,.int .i64 0] 155)).drew.cell? ⟨N6,0,none⟩ = some (.int .i8 base)∧(V.alloc (.cells #[.int .i8 0,.slice none 0 0,.int .i64 0,.int .i64 0,.int .i64 0] 155)).drew.cell? ⟨N6,1,none⟩ = some (.slice pa s.l.length pc)∧(V.alloc (.cells #[.int .i8 0,.slice none 0 0,.int .i64 0,.int .i64 0,.int .i64 0] 155)).drew.cell? ⟨N6,2,none⟩ = some (.int .i64 s.isos)∧(V.alloc (.cells #[.int .i8 0,.slice none 0 0,.int .i64 0,.int .i64 0,.int .i64 0] 155)).drew.cell? ⟨N6,3,none⟩ = some (.int .i64 s.embs)∧(V.alloc (.cells #[.int .i8 0,.slice none 0 0,.int .i64 0,.int .i64 0,.int .i64 0] 155)).drew.cell? ⟨N6,4,none⟩ = some (.int .i64 s.valid)∧(V.alloc (.cells #[.int .i8 0,.slice none 0 0,.int .i64 0,.int .i64 0,.int .i64 0] 155)).drew.cell? ⟨ab,ao + q,none⟩ = some (.int .u8 x):=⟨(HBV.out.cell (World.block_lt_of_cell? V _ k0)).trans k0,(HBV.out.cell (World.block_lt_of_cell? V _ k1)).trans k1,(HBV.out.cell (World.block_lt_of_cell? V _ k2)).trans k2,(HBV.out.cell (World.block_lt_of_cell? V _ k3)).trans k3,(HBV.out.cell (World.block_lt_of_cell? V _ k4)).trans k4,(HBV.out.cell (World.block_lt_of_cell? V _ hcx)).trans hcx⟩
      go_region_held3 (fun w' => w'.cell? ⟨N6,0,none⟩ = some (.int .i8 base)∧w'.cell? ⟨N6,1,none⟩ = some (.slice pa s.l.length pc)∧w'.cell? ⟨N6,2,none⟩ = some (.int .i64 s.isos)∧w'.cell? ⟨N6,3,none⟩ = some (.int .i64 s.embs)∧w'.cell? ⟨N6,4,none⟩ = some (.int .i64 s.valid)∧w'.cell? ⟨ab,ao + q,none⟩ = some (.int .u8 x)) (first | (with_reducible exact kz) | (with_reducible exact kd) | (with_reducible exact ka) | (with_reducible exact ke) | (with_reducible exact kf) | go_keep)
       ((go_at_call 89;first
       | ((with_reducible show Calls Tryz.prog 89 _ (World.drew V) _);refine (HST.out V.drew HXD.out 0 (.inl rfl) x rfl).mono ?_;rintro e w5 ⟨t,qa,qc,lv1,kk1,d1,rfl,hok,hcnt,o5,hfr,b5⟩;have HOK:=Lib.hid hok;have HCNT:=Lib.hid hcnt;have HO5:=Lib.hid o5;have HFR:=Lib.hid hfr;have HB5:=Lib.hid b5;have hxe:=HXD.out.after b5;have ke:=And.intro (cells_at hxe.b6 0) (And.intro (cells_at hxe.b6 1) (And.intro (cells_at hxe.b6 2) (And.intro (cells_at hxe.b6 3) (And.intro (cells_at hxe.b6 4) ((b5.cell (p:=⟨ab,ao + q,none⟩) (World.block_lt_of_cell? V _ hcx)).trans hcx)))));clear hok hcnt o5 hfr b5 hxe)
       | (refine (HST.out _ HXA.out 0 (.inl rfl) x rfl).mono ?_;rintro e w5 ⟨t,qa,qc,lv1,kk1,d1,rfl,hok,hcnt,o5,hfr,b5⟩;have HOK:=Lib.hid hok;have HCNT:=Lib.hid hcnt;have HO5:=Lib.hid o5;have HFR:=Lib.hid hfr;have HB5:=Lib.hid b5;have ht:=(b5.block V.heap.size HLV.out).trans HHA.out;have HT:=Lib.hid ht;have t0:=cells_at ht 0;have t1:=cells_at ht 1;have t2:=cells_at ht 2;have t3:=cells_at ht 3;have t4:=cells_at ht 4;have f0:=frozen_at ht 0;have f1:=frozen_at ht 1;have f2:=frozen_at ht 2;have f3:=frozen_at ht 3;have f4:=frozen_at ht 4;have hxe:=HXA.out.after b5;have ke:=And.intro (cells_at hxe.b6 0) (And.intro (cells_at hxe.b6 1) (And.intro (cells_at hxe.b6 2) (And.intro (cells_at hxe.b6 3) (And.intro (cells_at hxe.b6 4) (((HBV.out.trans (b5.mono HBV.out.size)).cell (p:=⟨ab,ao + q,none⟩) (World.block_lt_of_cell? V _ hcx)).trans hcx)))));have hn6:N6≠V.heap.size  :=(by have h1:=HXD.out.o8;have h2:=HXD.out.o68;have h3:V.drew.heap.size = V.heap.size:=rfl;omega);have hna:ab≠V.heap.size:=(by have h1:=World.block_lt_of_cell? V _ hcx;simp only at h1;omega);have kf:=And.intro (cell_five ke.1 hn6 (.int .i8 base) (.slice qa t.l.length qc) (.int .i64 t.isos) (.int .i64 t.embs) (.int .i64 t.valid)) (And.intro (cell_five ke.2.1 hn6 (.int .i8 base) (.slice qa t.l.length qc) (.int .i64 t.isos) (.int .i64 t.embs) (.int .i64 t.valid)) (And.intro (cell_five ke.2.2.1 hn6 (.int .i8 base) (.slice qa t.l.length qc) (.int .i64 t.isos) (.int .i64 t.embs) (.int .i64 t.valid)) (And.intro (cell_five ke.2.2.2.1 hn6 (.int .i8 base) (.slice qa t.l.length qc) (.int .i64 t.isos) (.int .i64 t.embs) (.int .i64 t.valid)) (And.intro (cell_five ke.2.2.2.2.1 hn6 (.int .i8 base) (.slice qa t.l.length qc) (.int .i64 t.isos) (.int .i64 t.embs) (.int .i64 t.valid)) (cell_five ke.2.2.2.2.2 hna (.int .i8 base) (.slice qa t.l.length qc) (.int .i64 t.isos) (.int .i64 t.embs) (.int .i64 t.valid))))));clear hok hcnt o5 hfr b5 ht hxe)))
      · clear k0 k1 k2 k3 k4 hcx kz kd ka ke
        obtain ⟨W6,hW6⟩:∃ W6,W6 = w5.alloc (.cells #[.int .i8 base,.slice qa t.l.length qc,.int .i64 t.isos,.int .i64 t.embs,.int .i64 t.valid] 155):=⟨_,rfl⟩
        have hb6:Below w5.heap.size w5 W6:=by rw [hW6];exact (Below.refl _ _).alloc (Nat.le_refl _) _
        have HX6:=Lib.hid ((HXD.out.after HB5.out).after hb6)
        have HT6:Hid (W6.heap[w5.heap.size]? = some (.cells #[.int .i8 base,.slice qa t.l.length qc,.int .i64 t.isos,.int .i64 t.embs,.int .i64 t.valid] 155)):=Lib.hid (by rw [hW6];exact heap_alloc_new w5 _)
        have HO6:=Lib.hid (HO5.out.below hb6)
        have HF6:=Lib.hid (HXD.out.fresh HO5.out HFR.out)
        rw [← hW6]
        clear hW6 hb6
        obtain ⟨T,hT⟩:∃ T,w5.heap.size = T:=⟨_,rfl⟩
        rw [hT] at HT6 ⊢
        clear hT
        have n0:=cells_at HX6.out.b6 0
        have n1:=cells_at HX6.out.b6 1
        have n2:=cells_at HX6.out.b6 2
        have n3:=cells_at HX6.out.b6 3
        have n4:=cells_at HX6.out.b6 4
        have z0:=frozen_at HX6.out.b6 0
        have z1:=frozen_at HX6.out.b6 1
        have z2:=frozen_at HX6.out.b6 2
        have z3:=frozen_at HX6.out.b6 3
        have z4:=frozen_at HX6.out.b6 4
        have hx7:=HX6.out.stack HO6.out HF6.out HOK.out
        go_upto_region 15 with (with_reducible refine wpList_load_row rfl 155 _ rfl T rfl 155 _ (0,0) _ HT6.out Tryz.underlying155 rfl (by kernel_rfl) ?_)
        obtain ⟨W7,hW7⟩:∃ W7,W7 = (((((W6.setCell ⟨N6,0,none⟩ (.int .i8 base)).setCell ⟨N6,1,none⟩ (.slice qa t.l.length qc)).setCell ⟨N6,2,none⟩ (.int .i64 t.isos)).setCell ⟨N6,3,none⟩ (.int .i64 t.embs)).setCell ⟨N6,4,none⟩ (.int .i64 t.valid)):=⟨_,rfl⟩
        rw [← hW7] at hx7 ⊢
        have HX7:=Lib.hid hx7
        have y0:=cells_at hx7.b8 0
        clear hW7 hx7 n0 n1 n2 n3 n4 z0 z1 z2 z3 z4
        go_wp2_with (first
         | (at_builtin;refine wpList_push rfl _ _ 27 rfl 26 i8 (.int .i8 0) 1 Tryz.underlying27 hi8 hy0 hy1 hy2 rfl rfl (N8 + 1) la q lc _ rfl _ _ rfl HX7.out.lo _ rfl rfl rfl (by omega) (by decide) (by have:=HX7.out.o8;omega) ?_;intro la' lc' W8 hl1 hl2 hl3;have HX8:=Lib.hid (HX7.out.pushL hl1 hl2 hl3);have hb8:=(hl3.block N8 (Nat.lt_succ_self _)).trans HX7.out.b8;have p0:=cells_at hb8 0;have p1:=cells_at hb8 1;have g0:=frozen_at hb8 0;clear hl1 hl2 hl3 hb8)
         | (at_builtin;refine wpList_push rfl _ _ 22 rfl 35 i0 (.int .u8 0) 1 Tryz.underlying22 hi hz0 hz1 hz2 rfl rfl (N8 + 1) ka q kc _ rfl _ _ rfl HX8.out.ko _ rfl (by simp) rfl (by omega) (by decide) (by have:=HX8.out.o8;omega) ?_;intro ka' kc' W9 hk1 hk2 hk3;have HX9:=Lib.hid (HX8.out.pushK hk1 hk2 hk3);have hb9:=(hk3.block N8 (Nat.lt_succ_self _)).trans HX8.out.b8;have r1:=cells_at hb9 1;have h1:=frozen_at hb9 1;clear hk1 hk2 hk3 hb9))
        go_roundg (gk - 1)
        case measure => have:=HQ.out;have:=HLT.out;omega
        case rel => exact ⟨q + 1,t,qa,la',ka',qc,lc',kc',lv ++ [lv1],ks ++ [kk1],by have:=HQ.out;have:=HLT.out;omega,by go_num,HX9.out,by have:=HCNT.out.1;have:=HS1.out;omega,by have:=HCNT.out.2.1;have:=HS2.out;omega,by have:=HCNT.out.2.2;have:=HS3.out;omega⟩
      · clear k0 k1 k2 k3 k4 hcx kz kd ka ke kf t0 t1 t2 t3 t4 f0 f1 f2 f3 f4
        obtain ⟨W6,hW6⟩:∃ W6,W6 = (((((w5.setCell ⟨V.heap.size,0,none⟩ (.int .i8 base)).setCell ⟨V.heap.size,1,none⟩ (.slice qa t.l.length qc)).setCell ⟨V.heap.size,2,none⟩ (.int .i64 t.isos)).setCell ⟨V.heap.size,3,none⟩ (.int .i64 t.embs)).setCell ⟨V.heap.size,4,none⟩ (.int .i64 t.valid)):=⟨_,rfl⟩
        have HX6:Hid (XI w W6 N N6 N8 base n q q D s pa la ka ma pc lc kc mc lv ks):=Lib.hid (HX.out.after (by rw [hW6];exact below_set5 (HBV.out.trans (HB5.out.mono HBV.out.size)) (Nat.le_refl _) _ _ _ _ _))
        have HT6:Hid (W6.heap[V.heap.size]? = some (.cells #[.int .i8 base,.slice qa t.l.length qc,.int .i64 t.isos,.int .i64 t.embs,.int .i64 t.valid] 155)):=Lib.hid (by rw [hW6];exact set_all5 HT.out _ _ _ _ _)
        have HO6:Hid (Own W6 N 3 qa t.l.length qc (entsV t.l)):=Lib.hid (by
         rw [hW6]
         refine own_five HO5.out (fun e => ?_) _ _ _ _ _
         rcases HFR.out _ (own_at HO5.out e).1 with h | h
         · have:=(own_at HX.out.st (by rw [h];rfl:blockOf pa = some V.heap.size)).2.2;omega
         · have:=HLV.out;omega)
        have HF6:=Lib.hid (HXA.out.fresh HO5.out HFR.out)
        rw [← hW6]
        clear hW6
        obtain ⟨T,hT⟩:∃ T,V.heap.size = T:=⟨_,rfl⟩
        rw [hT] at HT6 ⊢
        clear hT
        have n0:=cells_at HX6.out.b6 0
        have n1:=cells_at HX6.out.b6 1
        have n2:=cells_at HX6.out.b6 2
        have n3:=cells_at HX6.out.b6 3
        have n4:=cells_at HX6.out.b6 4
        have z0:=frozen_at HX6.out.b6 0
        have z1:=frozen_at HX6.out.b6 1
        have z2:=frozen_at HX6.out.b6 2
        have z3:=frozen_at HX6.out.b6 3
        have z4:=frozen_at HX6.out.b6 4
        have hx7:=HX6.out.stack HO6.out HF6.out HOK.out
        go_upto_region 15 with (with_reducible refine wpList_load_row rfl 155 _ rfl T rfl 155 _ (0,0) _ HT6.out Tryz.underlying155 rfl (by kernel_rfl) ?_)
        obtain ⟨W7,hW7⟩:∃ W7,W7 = (((((W6.setCell ⟨N6,0,none⟩ (.int .i8 base)).setCell ⟨N6,1,none⟩ (.slice qa t.l.length qc)).setCell ⟨N6,2,none⟩ (.int .i64 t.isos)).setCell ⟨N6,3,none⟩ (.int .i64 t.embs)).setCell ⟨N6,4,none⟩ (.int .i64 t.valid)):=⟨_,rfl⟩
        rw [← hW7] at hx7 ⊢
        have HX7:=Lib.hid hx7
        have y0:=cells_at hx7.b8 0
        clear hW7 hx7 n0 n1 n2 n3 n4 z0 z1 z2 z3 z4
        go_wp2_with (first
         | (at_builtin;refine wpList_push rfl _ _ 27 rfl 26 i8 (.int .i8 0) 1 Tryz.underlying27 hi8 hy0 hy1 hy2 rfl rfl (N8 + 1) la q lc _ rfl _ _ rfl HX7.out.lo _ rfl rfl rfl (by omega) (by decide) (by have:=HX7.out.o8;omega) ?_;intro la' lc' W8 hl1 hl2 hl3;have HX8:=Lib.hid (HX7.out.pushL hl1 hl2 hl3);have hb8:=(hl3.block N8 (Nat.lt_succ_self _)).trans HX7.out.b8;have p0:=cells_at hb8 0;have p1:=cells_at hb8 1;have g0:=frozen_at hb8 0;clear hl1 hl2 hl3 hb8)
         | (at_builtin;refine wpList_push rfl _ _ 22 rfl 35 i0 (.int .u8 0) 1 Tryz.underlying22 hi hz0 hz1 hz2 rfl rfl (N8 + 1) ka q kc _ rfl _ _ rfl HX8.out.ko _ rfl (by simp) rfl (by omega) (by decide) (by have:=HX8.out.o8;omega) ?_;intro ka' kc' W9 hk1 hk2 hk3;have HX9:=Lib.hid (HX8.out.pushK hk1 hk2 hk3);have hb9:=(hk3.block N8 (Nat.lt_succ_self _)).trans HX8.out.b8;have r1:=cells_at hb9 1;have h1:=frozen_at hb9 1;clear hk1 hk2 hk3 hb9))
        go_roundg (gk - 1)
        case measure => have:=HQ.out;have:=HLT.out;omega
        case rel => exact ⟨q + 1,t,qa,la',ka',qc,lc',kc',lv ++ [lv1],ks ++ [kk1],by have:=HQ.out;have:=HLT.out;omega,by go_num,HX9.out,by have:=HCNT.out.1;have:=HS1.out;omega,by have:=HCNT.out.2.1;have:=HS2.out;omega,by have:=HCNT.out.2.2;have:=HS3.out;omega⟩
  · obtain rfl:q = n:=by omega
    have HLL:Hid (lv.length = q):=Lib.hid (by have:=hx.lo.len;simp at this;omega)
    have HKL:Hid (ks.length = q):=Lib.hid (by have:=hx.ko.len;simp at this;omega)
    have n0:=cells_at hx.b4 0
    have n1:=cells_at hx.b4 1
    have n2:=cells_at hx.b4 2
    have z0:=frozen_at hx.b4 0
    have z1:=frozen_at hx.b4 1
    have z2:=frozen_at hx.b4 2
    clear hx hq hs1 hs2 hs3 hlt
    go_wp2_with (with_reducible refine wpList_load_row rfl 84 _ rfl N8 rfl 84 _ (0,0) _ HX.out.b8 Tryz.underlying84 rfl (by kernel_rfl) ?_)
    have hr:=heap_set (heap_set (heap_set HX.out.b4 (.slice la q lc) (j:=0)) (.slice ka q kc) (j:=1)) (.slice ma q mc) (j:=2)
    have hlo:=HX.out.lo
    have hko:=HX.out.ko
    have h46:=HX.out.o46
    have h68:=HX.out.o68
    have dl:blockOf la≠some N:=fun e => by have:=(own_at hlo e).2.1;omega
    have dk:blockOf ka≠some N:=fun e => by have:=(own_at hko e).2.1;omega
    have hbw:=HX.out.below
    refine bodyPost_ret (res52 _ _ _ _ _ _ hr rfl rfl) rfl ⟨la,lc,ka,kc,ma,mc,rfl,lv,ks,HLL.out,HKL.out,?_,?_,?_⟩
    · exact (own_st (own_st (own_st hlo N dl 0 _) N dl 1 _) N dl 2 _).toCells
    · exact (own_st (own_st (own_st hko N dk 0 _) N dk 1 _) N dk 2 _).toCells
    · have:=((hbw.setCell (p:=⟨N,0,none⟩) (Nat.le_refl _) (.slice la q lc)).setCell (p:=⟨N,1,none⟩) (Nat.le_refl _) (.slice ka q kc)).setCell (p:=⟨N,2,none⟩) (Nat.le_refl _) (.slice ma q mc)
      rw [HX.out.hN] at this ⊢
      exact this
end Go.Proofs.YtjnidopbdjbbgaaGreat
