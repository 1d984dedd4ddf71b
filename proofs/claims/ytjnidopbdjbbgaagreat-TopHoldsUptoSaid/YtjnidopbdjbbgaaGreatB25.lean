/-
  The levels of a paragraph, by any steps (levels): walked.
-/
import Derived.Test.YtjnidopbdjbbgaaGreatB23
import Derived.Test.YtjnidopbdjbbgaaGreatB24
import Derived.Test.YtjnidopbdjbbgaaGreatB11
import Derived.Test.YtjnidopbdjbbgaaGreatB20
import Derived.Test.YtjnidopbdjbbgaaGreatB06
namespace Go.Proofs.YtjnidopbdjbbgaaGreat
open Go.RowKit
set_option linter.unusedVariables false
/-- One step, as a value: what it makes of the sequences that come to it. -/
structure StepOk (Sx:Nat→Prop) (W0:World) (v:Value) (s s2:Sq):Prop where
 run:∃ gf lb,v = .func (.func gf) #[] lb∧(∀ args w,(callFunc gf args).run Tryz.prog w = .ok (.enter gf args) w)∧∀ W,Kept Sx W0 W→∀ pa pc ca cc,s.In W pa ca →
  Calls Tryz.prog gf (#[s.val pa pc ca cc] ++ lb) W fun e w' => ∃ pa' pc' ca' cc',e = .returned (.tuple #[s2.val pa' pc' ca' cc',.int .i64 0])∧s2.In w' pa' ca'∧Below W.heap.size W w'∧FreshA W.heap.size pa'∧FreshA W.heap.size ca'
/-- The sequence behind the first k steps. -/
def stG (cf:Sq→Nat→List Nat) (s:Sq) (k:Nat):Sq:={ s with cs:=cf s k }
/-- The steps, of a paragraph's sequences. -/
structure StepsOk (Sx:Nat→Prop) (W0:World) (vals:List Value) (S:List Sq) (cf:Sq→Nat→List Nat):Prop where
 step:∀ s∈S,∀ (k:Nat) (v:Value),vals[k]? = some v→StepOk Sx W0 v (stG cf s k) (stG cf s (k + 1))
theorem keptD {S:Nat→Prop} {w w0:World} (h:Kept S w0 w):Kept S w0 w.drew:=⟨h.os,h.tape,h.output,h.size,h.block⟩
theorem Kept.setNew {S:Nat→Prop} {w wr:World} (h:Kept S w wr) {g:Nat} (hg:w.heap.size≤g) (k:Nat) (v:Value):Kept S w (wr.setCell ⟨g,k,none⟩ v):=
 ⟨h.os,h.tape,h.output,by have:=h.size;simpa using this,fun i hi hs => (Below.heap_setCell wr ⟨g,k,none⟩ v i (by show i≠g;omega)).trans (h.block i hi hs)⟩
theorem Kept.cells {S:Nat→Prop} {w wr:World} (h:Kept S w wr) {a:Option Addr} {xs:List Value} (hc:Cells w a xs) (ha:∀ g∈blk a,¬ S g):Cells wr a xs:=by
 intro hne
 obtain ⟨b,off,rfl,h1⟩:=hc hne
 exact ⟨b,off,rfl,fun j u hu => h.cell (h1 j u hu) (ha b (by rw [blk_some];simp))⟩
theorem Cells.getv {w:World} {a:Option Addr} {xs:List Value} (h:Cells w a xs) {k:Nat} {v:Value} (hv:xs[k]? = some v):∃ b off,a = some ⟨b,off,none⟩∧w.cell? ⟨b,off + k,none⟩ = some v:=by
 have hne:xs≠[]:=by intro e;rw [e] at hv;simp at hv
 obtain ⟨b,off,rfl,h1⟩:=h hne
 exact ⟨b,off,rfl,h1 k v hv⟩
/-- The levels of a sequence are laid at its places. -/
def layTo (L:List Int) (lv:Nat) (ps cs:List Nat) (j:Nat):List Int:=((ps.zip cs).take j).foldl (fun L x => L.set x.1 (levelOf lv x.2:Nat)) L
theorem layTo_succ (L:List Int) (lv:Nat) (ps cs:List Nat) {j p c:Nat} (hp:ps[j]? = some p) (hc:cs[j]? = some c):layTo L lv ps cs (j + 1) = (layTo L lv ps cs j).set p (levelOf lv c:Nat):=by
 unfold layTo
 have:(ps.zip cs)[j]? = some (p,c):=by rw [List.getElem?_zip_eq_some];exact ⟨hp,hc⟩
 rw [List.take_add_one,this,List.foldl_append]
 rfl
theorem layTo_len (L:List Int) (lv:Nat) (ps cs:List Nat) (j:Nat):(layTo L lv ps cs j).length = L.length:=by
 unfold layTo
 generalize (ps.zip cs).take j = Z
 induction Z generalizing L with
 | nil => rfl
 | cons z Z ih => rw [List.foldl_cons,ih,List.length_set]
def layAll (L:List Int) (S:List Sq) (cf:Sq→Nat→List Nat) (d:Nat):List Int:=S.foldl (fun L s => layTo L s.lv s.ps (cf s d) s.ps.length) L
theorem layAll_take (L:List Int) (S:List Sq) (cf:Sq→Nat→List Nat) (d:Nat) {k:Nat} {s:Sq} (h:S[k]? = some s):layAll L (S.take (k + 1)) cf d = layTo (layAll L (S.take k) cf d) s.lv s.ps (cf s d) s.ps.length:=by
 unfold layAll
 rw [List.take_add_one,h,List.foldl_append]
 rfl
theorem layAll_len (L:List Int) (S:List Sq) (cf:Sq→Nat→List Nat) (d:Nat):(layAll L S cf d).length = L.length:=by
 unfold layAll
 induction S generalizing L with
 | nil => rfl
 | cons s S ih => rw [List.foldl_cons,ih,layTo_len]
/-- Of a sequence in the slice of all: its five cells. -/
theorem sv_at (S:List Sv):∀ (k:Nat) (s:Sv),S[k]? = some s→(svV S)[k * 5]? = some (.slice s.pa s.q.ps.length s.pc)∧(svV S)[k * 5 + 1]? = some (.slice s.ca s.q.ps.length s.cc)∧(svV S)[k * 5 + 2]? = some (.int .i8 s.q.lv)∧(svV S)[k * 5 + 3]? = some (.int .u8 s.q.sos)∧(svV S)[k * 5 + 4]? = some (.int .u8 s.q.eos):=by
 induction S with
 | nil => intro k s h;simp at h
 | cons x S ih =>
  intro k s h
  cases k with
  | zero => simp at h;subst h;exact ⟨rfl,rfl,rfl,rfl,rfl⟩
  | succ k =>
   obtain ⟨h1,h2,h3,h4,h5⟩:=ih k s (by simpa using h)
   have hc:svV (x :: S) = .slice x.pa x.q.ps.length x.pc :: .slice x.ca x.q.ps.length x.cc :: .int .i8 x.q.lv :: .int .u8 x.q.sos :: .int .u8 x.q.eos :: svV S:=rfl
   rw [hc,show (k + 1) * 5 = k * 5 + 1 + 1 + 1 + 1 + 1 from by omega]
   exact ⟨h1,h2,h3,h4,h5⟩
theorem svs_at {w:World} {a:Option Addr} {S:List Sv} (h:Cells w a (svV S)) {k:Nat} {s:Sv} (hs:S[k]? = some s):
 ∃ b off,a = some ⟨b,off,none⟩∧w.cell? ⟨b,off + k * 5,none⟩ = some (.slice s.pa s.q.ps.length s.pc)∧w.cell? ⟨b,off + k * 5 + 1,none⟩ = some (.slice s.ca s.q.ps.length s.cc)∧w.cell? ⟨b,off + k * 5 + 2,none⟩ = some (.int .i8 s.q.lv)∧w.cell? ⟨b,off + k * 5 + 3,none⟩ = some (.int .u8 s.q.sos)∧w.cell? ⟨b,off + k * 5 + 4,none⟩ = some (.int .u8 s.q.eos):=by
 obtain ⟨h1,h2,h3,h4,h5⟩:=sv_at S k s hs
 obtain ⟨b,off,rfl,hc⟩:=h.getv h1
 obtain ⟨_,_,e,d1⟩:=h.getv h2;cases e
 obtain ⟨_,_,e,d2⟩:=h.getv h3;cases e
 obtain ⟨_,_,e,d3⟩:=h.getv h4;cases e
 obtain ⟨_,_,e,d4⟩:=h.getv h5;cases e
 exact ⟨b,off,rfl,hc,by rw [Nat.add_assoc];exact d1,by rw [Nat.add_assoc];exact d2,by rw [Nat.add_assoc];exact d3,by rw [Nat.add_assoc];exact d4⟩
/-- What the loop over the sequences holds. -/
structure LevI (W:World) (B:Nat) (la:Option Addr) (n lc:Nat) (L:List Int) (wr:World):Prop where
 kept:Kept (fun k => k∈blk la) W wr
 own:Own wr B 1 la n lc (L.map i8V)
theorem lev_a {w3 w4:World} {ka:Option Addr} {kc n x:Nat} {xs:List Value} {base:Int} {la:Option Addr} {lc:Nat} (hb:Below w3.heap.size w3 w4) (hk:Own w4 x 1 ka n kc xs) (hx:w3.heap.size≤x):
 ∃ ob ka' kc',Value.pointer (some ⟨w4.heap.size,0,none⟩) = .pointer (some ⟨ob,0,none⟩)∧(w4.alloc (.cells #[.int .i8 base,.slice ka n kc,.slice la n lc] 29)).heap[ob]? = some (.cells #[.int .i8 base,.slice ka' n kc',.slice la n lc] 29) ∧
  Own (w4.alloc (.cells #[.int .i8 base,.slice ka n kc,.slice la n lc] 29)) w3.heap.size 1 ka' n kc' xs∧w3.heap.size≤ob∧ob ∉ blk ka'∧Below w3.heap.size w3 (w4.alloc (.cells #[.int .i8 base,.slice ka n kc,.slice la n lc] 29)):=
 ⟨w4.heap.size,ka,kc,rfl,heap_alloc_new _ _,(hk.alloc _).mono hx,hb.size,fun h => by have:=(hk.blk_lt _ h).2;omega,hb.alloc hb.size _⟩
theorem lev_b {w3 w4:World} {ka:Option Addr} {kc n x:Nat} {xs:List Value} {base:Int} {la:Option Addr} {lc:Nat} {u v y:Value} (hb:Below w3.heap.size w3 w4) (hk:Own w4 x 1 ka n kc xs) (hx:w3.heap.size + 1≤x) (hz:w4.heap[w3.heap.size]? = some (.cells #[u,v,y] 29)):
 ∃ ob ka' kc',Value.pointer (some ⟨w3.heap.size,0,none⟩) = .pointer (some ⟨ob,0,none⟩)∧(((w4.setCell ⟨w3.heap.size,0,none⟩ (.int .i8 base)).setCell ⟨w3.heap.size,1,none⟩ (.slice ka n kc)).setCell ⟨w3.heap.size,2,none⟩ (.slice la n lc)).heap[ob]? = some (.cells #[.int .i8 base,.slice ka' n kc',.slice la n lc] 29) ∧
  Own (((w4.setCell ⟨w3.heap.size,0,none⟩ (.int .i8 base)).setCell ⟨w3.heap.size,1,none⟩ (.slice ka n kc)).setCell ⟨w3.heap.size,2,none⟩ (.slice la n lc)) w3.heap.size 1 ka' n kc' xs∧w3.heap.size≤ob∧ob ∉ blk ka' ∧
  Below w3.heap.size w3 (((w4.setCell ⟨w3.heap.size,0,none⟩ (.int .i8 base)).setCell ⟨w3.heap.size,1,none⟩ (.slice ka n kc)).setCell ⟨w3.heap.size,2,none⟩ (.slice la n lc)):=by
 have hn:w3.heap.size ∉ blk ka:=fun h => by have:=(hk.blk_lt _ h).1;omega
 have ne:∀ g,ka = some ⟨g,0,none⟩→g≠w3.heap.size:=fun g hg e => hn (by rw [blk_mem,hg];show some g = _;rw [e])
 exact ⟨w3.heap.size,ka,kc,rfl,heap_set3 hz _ _ _,(((hk.stored_other _ _ ne).stored_other _ _ ne).stored_other _ _ ne).mono (by omega),Nat.le_refl _,hn,((hb.setCell (p:=⟨w3.heap.size,0,none⟩) (Nat.le_refl _) _).setCell (p:=⟨w3.heap.size,1,none⟩) (Nat.le_refl _) _).setCell (p:=⟨w3.heap.size,2,none⟩) (Nat.le_refl _) _⟩
set_option maxRecDepth 100000 in
set_option maxHeartbeats 8000000 in
theorem levels_gen (w:World) (ca:Option Addr) (cc:Nat) (l:List Nat) (b:Int) (hb:b = -1∨b = 0∨b = 1) (hn:l.length≤1048576) (hc:Cells w ca (l.map u8V)) (h23:∀ x∈l,1≤x∧x≤23) (hB:BLast l)
 (g0:Nat) (lb0:Array Value) (hen0:∀ args w,(callFunc g0 args).run Tryz.prog w = .ok (.enter g0 args) w) (d:Nat) (hd:d≤64) (cf:Sq→Nat→List Nat) (hcf:∀ s,cf s 0 = s.cs)
 (hsteps:∀ W,Below w.heap.size w W→∀ (Sx:Nat→Prop) na nc,(∀ g,Sx g→w.heap.size≤g∧g < W.heap.size∧g ∉ blk na)→Cells W na ((nwsOf (baseOf b l) l).map u8V)→Calls Tryz.prog g0 (#[.slice na l.length nc] ++ lb0) W fun e W' => ∃ a c vals,e = .returned (.slice a d c)∧vals.length = d∧Cells W' a vals∧StepsOk Sx W' vals (seqsOf l (nwsOf (baseOf b l) l) (lvsOf (baseOf b l) l) (baseOf b l)) cf∧Below W.heap.size W W'∧FreshA W.heap.size a)
 (hend:∀ s∈seqsOf l (nwsOf (baseOf b l) l) (lvsOf (baseOf b l) l) (baseOf b l),(∀ k,(cf s k).length = s.ps.length)∧(stG cf s d).Ok∧s.lv≤125∧∀ c∈cf s d,Settled c):
 Calls Tryz.prog 23 #[.slice ca l.length cc,.int .i8 b,.func (.func g0) #[] lb0] w fun e w' => ∃ ka kc la lc,e = .returned (.tuple #[.agg #[.int .i8 (baseOf b l),.slice ka l.length kc,.slice la l.length lc],.int .i64 0])∧Own w' w.heap.size 1 ka l.length kc (l.map u8V) ∧
  Own w' w.heap.size 1 la l.length lc ((layAll (lvsOf (baseOf b l) l) (seqsOf l (nwsOf (baseOf b l) l) (lvsOf (baseOf b l) l) (baseOf b l)) cf d).map i8V)∧Below w.heap.size w w':=by
 obtain ⟨base,hbase⟩:∃ base,base = baseOf b l:=⟨_,rfl⟩
 rw [← hbase] at hsteps hend ⊢
 have hb1:base≤1:=by have:=baseOf_le b l;omega
 have HLV:=Lib.hid (fun W h => level_any W ca cc l b hb (by omega) h h23 hB)
 rw [← hbase] at HLV
 have HEX:=Lib.hid (fun W h => explicit_any W ca cc l base hb1 hn h h23 hB)
 have HCL:=Lib.hid (fun W h => cloneC_any W ca l.length cc l rfl (by omega) h)
 obtain ⟨S,hS⟩:∃ S,S = seqsOf l (nwsOf base l) (lvsOf base l) base:=⟨_,rfl⟩
 rw [← hS] at hsteps hend ⊢
 have HSQ:=Lib.hid (fun W na la nc lc hc hcn hcl => seqs_any W ca na la cc nc lc l (nwsOf base l) (lvsOf base l) base hb1 hn (nws_len _ _) (lvs_len _ _) hc hcn hcl h23
  (fun x hx => by obtain ⟨v,h1,_,h2⟩:=lvs_kept hb1 hx;exact ⟨v,h1,by omega⟩) (fun x hx => by obtain ⟨_,k,_,h1,h2,_⟩:=nws_kept hb1 h23 hx;exact ⟨k,h1,cl_rem h2⟩))
 rw [← hS] at HSQ
 obtain ⟨n,hnn⟩:∃ n,n = l.length:=⟨_,rfl⟩
 rw [← hnn] at HLV HEX HCL HSQ hsteps hn ⊢
 have HN:=Lib.hid hnn
 have HST:=Lib.hid hsteps
 have HEND:=Lib.hid hend
 have HC:=Lib.hid hc
 have HS:=Lib.hid hS
 have HCF:=Lib.hid hcf
 have HBE:=Lib.hid hbase
 have HGOOD:=Lib.hid (seqs_good (base:=base) (l:=l) hb1 (by rw [← hnn];exact hn) h23)
 rw [← HS.out] at HGOOD
 clear hc hsteps hend hS hcf hnn hbase h23 hB hb
 obtain ⟨Z,hZ⟩:∃ Z,Z = Obj.cells #[.int .i8 0,.slice none 0 0,.slice none 0 0] 29:=⟨_,rfl⟩
 have HR0:=Lib.hid (show (w.alloc Z).heap[w.heap.size]? = some Z from heap_alloc_new w Z)
 have HB0:=Lib.hid (show Below w.heap.size w (w.alloc Z) from (Below.refl _ _).alloc (Nat.le_refl _) _)
 have HS0:=Lib.hid (show (w.alloc Z).heap.size = w.heap.size + 1 by simp)
 subst hZ
 go_enter Tryz.func23,Tryz.ntmps23
 go_wp2_with (first | (go_at_call 39;refine (HLV.out _ (HC.out.below HB0.out)).mono ?_;rintro e w1 ⟨rfl,hb1⟩;have HB1:=Lib.hid (HB0.out.trans (hb1.mono (by rw [HS0.out];omega)));have HR1:=Lib.hid ((hb1.block w.heap.size (by rw [HS0.out];omega)).trans HR0.out);have HS1:=Lib.hid (show w.heap.size + 1≤w1.heap.size by have:=hb1.size;rw [HS0.out] at this;exact this);clear hb1) | (go_at_call 40;refine (HEX.out _ (HC.out.below HB1.out)).mono ?_;rintro e w2 ⟨la,lc,xa,xc,ma,mn,mc,rfl,h1,h2,h3,h4⟩;have HO1:=Lib.hid h1;have HO2:=Lib.hid h2;have HO3:=Lib.hid h3;have HB2:=Lib.hid (HB1.out.trans (h4.mono HB1.out.size));have HR2:=Lib.hid ((h4.block w.heap.size (by have:=HS1.out;omega)).trans HR1.out);have HS2:=Lib.hid (Nat.le_trans HS1.out h4.size);clear h1 h2 h3 h4))
 have HX3:=Lib.hid (heap_alloc_new w2 (.cells #[.slice la n lc,.slice xa n xc,.slice ma mn mc] 84))
 have HR3:=Lib.hid ((Below.heap_alloc w2 (.cells #[.slice la n lc,.slice xa n xc,.slice ma mn mc] 84) w.heap.size (by have:=HS2.out;omega)).trans HR2.out)
 have HB3:=Lib.hid (HB2.out.alloc HB2.out.size (.cells #[.slice la n lc,.slice xa n xc,.slice ma mn mc] 84))
 have HL3:=Lib.hid ((HO1.out.alloc (.cells #[.slice la n lc,.slice xa n xc,.slice ma mn mc] 84)).mono HS1.out)
 have HA3:=Lib.hid ((HO2.out.alloc (.cells #[.slice la n lc,.slice xa n xc,.slice ma mn mc] 84)).mono (Nat.le_of_succ_le HS1.out))
 have HS3:=Lib.hid (show w2.heap.size + 1 = (w2.alloc (.cells #[.slice la n lc,.slice xa n xc,.slice ma mn mc] 84)).heap.size by simp)
 obtain ⟨xb,hxb⟩:∃ xb,w2.heap.size = xb:=⟨_,rfl⟩
 rw [hxb] at HX3 HS2 HS3
 rw [hxb]
 have HXB:=Lib.hid hxb
 clear hxb
 generalize w2.alloc (.cells #[.slice la n lc,.slice xa n xc,.slice ma mn mc] 84) = w3 at *
 go_cut [11] from 42 to 47 (fun s11 wx => ∃ ob ka kc,s11 = .pointer (some ⟨ob,0,none⟩)∧wx.heap[ob]? = some (.cells #[.int .i8 base,.slice ka n kc,.slice la n lc] 29)∧Own wx w3.heap.size 1 ka n kc (l.map u8V)∧w3.heap.size≤ob∧ob ∉ blk ka∧Below w3.heap.size w3 wx)
 case first =>
  have x0:=cells_at HX3.out 0
  have hxl:xb < w3.heap.size:=by have:=HS3.out;omega
  refine wp_region_noPanic ?_
  go_region_with (go_at_call 41;refine (HCL.out _ (HC.out.below (by first | exact HB3.out.drew | exact HB3.out.drew.alloc HB3.out.size _))).mono ?_;rintro e w4 ⟨ka,kc,rfl,h1,h2⟩;have HB4:Hid (Below w3.heap.size w3 w4):=Lib.hid (by first | exact ((Below.refl w3.heap.size w3).drew).trans (h2.mono (Nat.le_refl _)) | exact (((Below.refl w3.heap.size w3).drew).alloc (Nat.le_refl _) _).trans (h2.mono (by simp)));have K4:=Lib.hid h1;have H24:=Lib.hid h2;have k0:=cells_at ((HB4.out.block xb (by have:=HS3.out;omega)).trans HX3.out) 0;have hxl4:xb < w4.heap.size:=Nat.lt_of_lt_of_le hxl HB4.out.size;(try (have hz:w4.heap[w3.heap.size]? = some (.cells #[.int .i8 0,.slice none 0 0,.slice none 0 0] 29):=(h2.block w3.heap.size (by simp)).trans (heap_alloc_new w3.drew _);have z0:=cells_at hz 0;have z1:=cells_at hz 1;have z2:=cells_at hz 2;have f0:=frozen_at hz 0;have f1:=frozen_at hz 1;have f2:=frozen_at hz 2;have HZ4:=Lib.hid hz;clear hz));clear h1 h2)
  all_goals
   refine NoPanic.normal ?_
   go_wp2
   go_meet
   case rel => first | exact lev_a HB4.out K4.out (by simp) | exact lev_b HB4.out K4.out (by simp) HZ4.out
 case rest =>
  obtain ⟨ob,ka,kc,rfl,hob,hka,hge,hnb,hb4⟩:=hcut
  have HOB:=Lib.hid hob
  have HKA:=Lib.hid hka
  have HGE:=Lib.hid hge
  have HNB:=Lib.hid hnb
  have HB4:=Lib.hid (HB3.out.trans (hb4.mono HB3.out.size))
  have HX4:=Lib.hid ((hb4.block xb (by have:=HS3.out;omega)).trans HX3.out)
  have HR4:=Lib.hid ((hb4.block w.heap.size (by have:=HS3.out;have:=HS2.out;omega)).trans HR3.out)
  have HL4:=Lib.hid (HL3.out.below hb4)
  have HA4:=Lib.hid (HA3.out.below hb4)
  have HS4:=Lib.hid (show xb < wc.heap.size by have:=HS3.out;have:=hb4.size;omega)
  have x0:=cells_at HX4.out 0
  have x1:=cells_at HX4.out 1
  have HSL:=Lib.hid (show S.length≤1048576 by
   have h1:=seqsTo_le l (nwsOf base l) (lvsOf base l) base (runsOf (lvsOf base l) (keptOf l)).length
   have h2:=(runs_cover l (lvsOf base l) _ (tail_all l)).2.2
   have h3:=keptTo_le l l.length
   have h4:=HN.out
   unfold keptOf at h1 h2
   rw [HS.out]
   unfold seqsOf keptOf
   omega)
  clear hob hka hge hnb hb4
  go_wp2_with (first | (go_at_call 42;refine (HSQ.out _ xa la xc lc (HC.out.below HB4.out) (by unfold nwsOf;rw [List.map_map];exact HA4.out.toCells) (by unfold lvsOf;rw [List.map_map];exact HL4.out.toCells)).mono ?_;rintro e w5 ⟨oa,oc,S',rfl,q1,q2,q3⟩;have HSS:=Lib.hid q1;have HOU:=Lib.hid q2;have HB5:=Lib.hid q3;have x5:=cells_at ((q3.block xb HS4.out).trans HX4.out) 1;clear q1 q2 q3) | fail)
  have HNA:=Lib.hid (show ∀ g,g∈blk la→w.heap.size≤g∧g < w5.heap.size∧g ∉ blk xa from fun g hg => by
   have h1:=HL4.out.blk_lt g hg
   have h2:=HB5.out.size
   exact ⟨by omega,by omega,HO3.out g hg⟩)
  refine (HST.out _ (HB4.out.trans (HB5.out.mono HB4.out.size)) (fun k => k∈blk la) xa xc HNA.out (by unfold nwsOf;rw [List.map_map];exact (HA4.out.below HB5.out).toCells)).mono ?_
  rintro e w6 ⟨ta,tc,vals,rfl,q1,q2,q3,q4,q5⟩
  have HVL:=Lib.hid q1
  have HVC:=Lib.hid q2
  have HSO:=Lib.hid q3
  have HB56:=Lib.hid (HB5.out.trans (q4.mono HB5.out.size))
  have HFT:=Lib.hid (q5.mono HB5.out.size)
  have HOU6:=Lib.hid (HOU.out.below q4)
  have HB6:=Lib.hid (HB4.out.trans ((HB5.out.trans (q4.mono HB5.out.size)).mono HB4.out.size))
  have HLW:=Lib.hid (fun g (hg:g∈blk la) => HL4.out.blk_lt g hg)
  clear q1 q2 q3 q4 q5 x0 x1 x5
  have HOB6:=Lib.hid ((HB56.out.block ob (Array.getElem?_eq_some_iff.1 HOB.out).1).trans HOB.out)
  have HR6:=Lib.hid ((HB56.out.block w.heap.size (Array.getElem?_eq_some_iff.1 HR4.out).1).trans HR4.out)
  have HNO:=Lib.hid (show ob ∉ blk la from fun h => by have h1:=(HL3.out.blk_lt ob h).2;have:=HGE.out;omega)
  have HNR:=Lib.hid (show w.heap.size ∉ blk la from fun h => by have h1:=(HL3.out.blk_lt _ h).1;omega)
  obtain ⟨m,hm⟩:∃ m,m = S'.length:=⟨_,rfl⟩
  have HM:=Lib.hid hm
  have hm20:m≤1048576:=by have h1:=HSL.out;rw [← HSS.out,List.length_map] at h1;omega
  rw [← hm]
  have HI0:Hid (LevI w6 (w.heap.size + 1) la n lc (layAll (lvsOf base l) (S.take 0) cf d) w6):=Lib.hid ⟨Kept.refl _ _,by
   show Own _ _ _ _ _ _ ((lvsOf base l).map i8V)
   unfold lvsOf
   rw [List.map_map]
   exact HL4.out.below HB56.out⟩
  clear hm
  go_wp2
  go_loopg [68] m (fun r i wr => ∃ k:Nat,k + r = m∧i = .int .i64 k∧LevI w6 (w.heap.size + 1) la n lc (layAll (lvsOf base l) (S.take k) cf d) wr)
  case atStart => exact ⟨0,by omega,rfl,HI0.out⟩
  case round =>
   obtain ⟨k,hk,rfl,hI⟩:=hrel
   obtain ⟨wa,rfl⟩:∃ wa:World,wa = wr:=⟨_,rfl⟩
   by_cases hlt:k < m
   · obtain ⟨⟨q,pa,pc,ca2,cc2⟩,hs⟩:∃ x,S'[k]? = some x:=⟨_,List.getElem?_eq_getElem (by rw [← HM.out];exact hlt)⟩
     obtain ⟨ab,ao,rfl,a0,a1,a2,a3,a4⟩:=svs_at (hI.kept.cells HOU6.out.own.toCells (fun g hg hx => by have h1:=(HOU6.out.own.blk_lt g hg).1;have h2:=(HLW.out g hx).2;omega)) hs
     have hsq:S[k]? = some q:=by rw [← HSS.out,List.getElem?_map,hs];rfl
     have hmem:=List.mem_of_getElem? hsq
     obtain ⟨o1,_⟩:=HOU6.out.ps _ (List.mem_of_getElem? hs)
     obtain ⟨o2,_⟩:=HOU6.out.cs _ (List.mem_of_getElem? hs)
     simp only at a0 a1 a2 a3 a4 o1 o2
     have hin:q.In wa pa ca2:=⟨(hI.kept.own o1 (fun g hg hx => by have h1:=(o1.blk_lt g (blk_mem.2 hg)).1;have h2:=(HLW.out g hx).2;omega)).toCells,(hI.kept.own o2 (fun g hg hx => by have h1:=(o2.blk_lt g (blk_mem.2 hg)).1;have h2:=(HLW.out g hx).2;omega)).toCells⟩
     have hfr:FreshA wc.heap.size pa∧FreshA wc.heap.size ca2:=⟨fun g hg => (o1.blk_lt g hg).1,fun g hg => (o2.blk_lt g hg).1⟩
     have haw:Away pa wa.heap.size∧Away ca2 wa.heap.size:=⟨fun b e hbb => by have h1:=(o1.blk_lt b.block (by rw [blk_mem,e];rfl)).2;have:=hI.kept.size;omega,fun b e hbb => by have h1:=(o2.blk_lt b.block (by rw [blk_mem,e];rfl)).2;have:=hI.kept.size;omega⟩
     obtain ⟨e1,e2,e3,e4⟩:=HEND.out q hmem
     have HLEN:=Lib.hid e1
     have HOK:=Lib.hid e2
     have HL125:=Lib.hid e3
     have HSET:=Lib.hid e4
     have HGD:=Lib.hid (HGOOD.out q hmem)
     have HSTEP:=Lib.hid (HSO.out.step q hmem)
     have HI:=Lib.hid hI
     have HIN:=Lib.hid hin
     have HFR:=Lib.hid hfr
     have HAW:=Lib.hid haw
     have HK:=Lib.hid hk
     have HSQ2:=Lib.hid hsq
     have hk0:(0:Int)≤(k:Int):=by omega
     have hk1:(k:Int) < (m:Int):=by omega
     have hkm:k < m:=hlt
     obtain ⟨P,hP⟩:∃ P,P = q.ps.length:=⟨_,rfl⟩
     rw [← hP] at a0 a1
     have hP20:P≤1048576:=by rw [hP];exact HGD.out.ok.big
     have HP:=Lib.hid hP
     have HV:=Lib.hid (show ∀ k pa pc ca cc,(stG cf q k).val pa pc ca cc = .agg #[.slice pa P pc,.slice ca P cc,.int .i8 q.lv,.int .u8 q.sos,.int .u8 q.eos] from fun k pa pc ca cc => by rw [hP];rfl)
     clear hI hin hfr haw hk hsq hs e1 e2 e3 e4 o1 o2 hmem hP
     go_wp2
     obtain ⟨G,hG⟩:∃ G,G = gk:=⟨_,rfl⟩
     subst hG
     go_loopg [74] d (fun r i wi => ∃ (k2:Nat) (pa2:Option Addr) (pc2:Nat) (ca3:Option Addr) (cc3:Nat),k2 + r = d∧i = .int .i64 k2∧wi.heap[wa.heap.size]? = some (.cells #[.slice pa2 P pc2,.slice ca3 P cc3,.int .i8 q.lv,.int .u8 q.sos,.int .u8 q.eos] 75)∧(stG cf q k2).In wi pa2 ca3∧(FreshA wc.heap.size pa2∧FreshA wc.heap.size ca3)∧(Away pa2 wa.heap.size∧Away ca3 wa.heap.size)∧Below wa.heap.size wa wi)
     case atStart => exact ⟨0,pa,pc,ca2,cc2,by omega,rfl,heap_alloc_new _ _,by rw [show stG cf q 0 = q by unfold stG;rw [HCF.out]];exact HIN.out.below ((Below.refl _ _).alloc (Nat.le_refl _) _),HFR.out,HAW.out,(Below.refl _ _).alloc (Nat.le_refl _) _⟩
     case round =>
      obtain ⟨k2,pa2,pc2,ca3,cc3,hk2,rfl,hbx,hin,hfr,haw,hbi⟩:=hrel
      have b0:=cells_at hbx 0
      have b1:=cells_at hbx 1
      have b2:=cells_at hbx 2
      have b3:=cells_at hbx 3
      have b4:=cells_at hbx 4
      by_cases hlt2:k2 < d
      · obtain ⟨v,hv⟩:∃ v,vals[k2]? = some v:=⟨_,List.getElem?_eq_getElem (by rw [HVL.out];exact hlt2)⟩
        obtain ⟨gf,lb,rfl,hen,hrun⟩:=(HSTEP.out k2 v hv).run
        obtain ⟨tb2,to2,rfl,hvc⟩:=((HI.out.kept.cells HVC.out (fun g hg hx => by have h1:=HFT.out g hg;have h2:=(HLW.out g hx).2;omega)).below hbi).getv hv
        have hrun2:=hrun wr (HI.out.kept.trans (Kept.of_below (S:=fun k => k∈blk la) hbi) (fun i hi => .inl hi)) pa2 pc2 ca3 cc3 hin
        simp only [HV.out] at hrun2
        have HRUN:=Lib.hid hrun2
        have HBX:=Lib.hid hbx
        have HBI:=Lib.hid hbi
        have HK2:=Lib.hid hk2
        have HLT:=Lib.hid (show wa.heap.size < wr.heap.size from (Array.getElem?_eq_some_iff.1 hbx).1)
        have HWC:=Lib.hid (show wc.heap.size≤wr.heap.size from by have h1:=HB56.out.size;have h2:=HI.out.kept.size;have h3:=hbi.size;omega)
        have hj0:(0:Int)≤(k2:Int):=by omega
        have hj1:(k2:Int) < (d:Int):=by omega
        clear hv hrun hrun2 hbx hin hfr haw hbi hk2
        go_wp2_with fail
        refine HRUN.out.mono ?_
        rintro e w8 ⟨pa4,pc4,ca5,cc5,rfl,r1,r2,r3,r4⟩
        have R1:=Lib.hid r1
        have R2:=Lib.hid r2
        have R3:=Lib.hid r3
        have R4:=Lib.hid r4
        have HX8:=Lib.hid ((r2.block wa.heap.size HLT.out).trans HBX.out)
        clear r1 r2 r3 r4 b0 b1 b2 b3 b4
        have b0:=cells_at HX8.out 0
        have b1:=cells_at HX8.out 1
        have b2:=cells_at HX8.out 2
        have b3:=cells_at HX8.out 3
        have b4:=cells_at HX8.out 4
        have f0:=frozen_at HX8.out 0
        have f1:=frozen_at HX8.out 1
        have f2:=frozen_at HX8.out 2
        have f3:=frozen_at HX8.out 3
        have f4:=frozen_at HX8.out 4
        go_wp2
        go_roundg (gk - 1)
        case measure => have:=HK2.out;omega
        case rel => exact ⟨k2 + 1,pa4,pc4,ca5,cc5,by have:=HK2.out;omega,by go_num,heap_set5 HX8.out _ _ _ _ _,⟨R1.out.ps.away5 (R3.out.away HLT.out) _ _ _ _ _,R1.out.cs.away5 (R4.out.away HLT.out) _ _ _ _ _⟩,⟨R3.out.mono HWC.out,R4.out.mono HWC.out⟩,⟨R3.out.away HLT.out,R4.out.away HLT.out⟩,below_set5 (HBI.out.trans (R2.out.mono HBI.out.size)) (Nat.le_refl _) _ _ _ _ _⟩
      · obtain rfl:d = k2:=by omega
        have HIN2:=Lib.hid hin
        have HFR2:=Lib.hid hfr
        have HBI:=Lib.hid hbi
        have HBX:=Lib.hid hbx
        have HLT:=Lib.hid (show wa.heap.size < wr.heap.size from (Array.getElem?_eq_some_iff.1 hbx).1)
        have HWC:=Lib.hid (show wc.heap.size≤wr.heap.size from by have h1:=HB56.out.size;have h2:=HI.out.kept.size;have h3:=hbi.size;omega)
        have hlv9:=levels_any wr (stG cf q d) HOK.out HL125.out HSET.out pa2 ca3 pc2 cc3 hin
        rw [HV.out,show (stG cf q d).ps.length = P from HP.out.symm] at hlv9
        have HLV9:=Lib.hid hlv9
        clear hin hfr haw hbi hbx hk2 hlv9
        go_wp2_with (go_at_call 43;refine HLV9.out.mono ?_;rintro e w9 ⟨ra,rc,rfl,r1,r2⟩;have R1:=Lib.hid r1;have R2:=Lib.hid r2;have c0:=cells_at ((r2.block wa.heap.size HLT.out).trans HBX.out) 0;clear r1 r2)
        have HB9:=Lib.hid (HBI.out.trans (R2.out.mono HBI.out.size))
        have HI9:Hid (LevI w9 (w.heap.size + 1) la n lc (layTo (layAll (lvsOf base l) (S.take k) cf d) q.lv q.ps (cf q d) 0) w9):=Lib.hid ⟨Kept.refl _ _,HI.out.own.below HB9.out⟩
        have HOB9:=Lib.hid ((HB9.out.block ob (by have h1:=(Array.getElem?_eq_some_iff.1 HOB6.out).1;have h2:=HI.out.kept.size;omega)).trans ((HI.out.kept.block ob (Array.getElem?_eq_some_iff.1 HOB6.out).1 HNO.out).trans HOB6.out))
        clear b0 b1 b2 b3 b4 c0
        go_loopg [101] P (fun r i wj => ∃ j:Nat,j + r = P∧i = .int .i64 j∧LevI w9 (w.heap.size + 1) la n lc (layTo (layAll (lvsOf base l) (S.take k) cf d) q.lv q.ps (cf q d) j) wj)
        case atStart => exact ⟨0,by omega,rfl,HI9.out⟩
        case round =>
         obtain ⟨j,hj,rfl,hIj⟩:=hrel
         by_cases hlt3:j < P
         · obtain ⟨p,hp⟩:∃ p,q.ps[j]? = some p:=⟨_,List.getElem?_eq_getElem (by rw [← HP.out];exact hlt3)⟩
           obtain ⟨c,hc⟩:∃ c,(cf q d)[j]? = some c:=⟨_,List.getElem?_eq_getElem (by rw [HLEN.out,← HP.out];exact hlt3)⟩
           have hpn:p < n:=by have h1:=(mem_keptOf.1 (HGD.out.kept p (List.mem_of_getElem? hp))).1;rw [← HN.out] at h1;exact h1
           have HIL:=Lib.hid hIj
           have HOBj:=Lib.hid ((hIj.kept.block ob (Array.getElem?_eq_some_iff.1 HOB9.out).1 HNO.out).trans HOB9.out)
           have z2:=cells_at HOBj.out 2
           obtain ⟨pb,po,rfl,y1⟩:=(hIj.kept.cells (HIN2.out.ps.below R2.out) (fun g hg hx => by have h1:=HFR2.out.1 g hg;have h2:=(HL4.out.blk_lt g hx).2;omega)).getm hp
           obtain ⟨rb,ro,rfl,y2⟩:=(hIj.kept.own R1.out (fun g hg hx => by have h1:=(R1.out.blk_lt g (blk_mem.2 hg)).1;have h2:=(HL4.out.blk_lt g hx).2;have h3:=HWC.out;omega)).toCells.getm hc
           obtain ⟨g,rfl⟩:=hIj.own.pos (by omega)
           obtain ⟨y3,y4⟩:=hIj.own.get (k:=p) (u:=i8V ((layTo (layAll (lvsOf base l) (S.take k) cf d) q.lv q.ps (cf q d) j).getD p 0)) (by
            rw [List.getElem?_map,List.getD_eq_getElem?_getD,List.getElem?_eq_getElem (by have h1:=hIj.own.len;rw [List.length_map] at h1;omega)]
            rfl)
           have HLS:=Lib.hid (layTo_succ (layAll (lvsOf base l) (S.take k) cf d) q.lv q.ps (cf q d) hp hc)
           have HJ:=Lib.hid hj
           unfold natV at y1
           unfold n8V at y2
           unfold i8V at y3
           have hj0:(0:Int)≤(j:Int):=by omega
           have hj1:(j:Int) < (P:Int):=by omega
           have hp0:(0:Int)≤(p:Int):=by omega
           have hp1:(p:Int) < (n:Int):=by omega
           have hp1':p < n:=hpn
           have e9:(stG cf q d).lv = q.lv:=rfl
           rw [e9] at y2
           clear hIj hp hc hj e9
           go_wp2
           go_region
           all_goals
            go_wp2
            go_roundg (gk - 1)
            case measure => have:=HJ.out;omega
            case rel => exact ⟨j + 1,by have:=HJ.out;omega,by go_num,keptD (HIL.out.kept.setCell (g:=g) (by rw [blk_some];simp) p _),((HIL.out.own.stored p hp1' (i8V (levelOf q.lv c:Nat))).drew).eqL (by rw [HLS.out,List.map_set])⟩
         · obtain rfl:P = j:=by omega
           have HIL:=Lib.hid hIj
           clear hIj hj hlt3
           go_wp2
           go_roundg (G - 1)
           case measure => have:=HK.out;omega
           case rel => exact ⟨k + 1,by have:=HK.out;omega,by go_num,(HI.out.kept.trans (Kept.of_below (S:=fun k => k∈blk la) HB9.out) (fun i hi => .inl hi)).trans HIL.out.kept (fun i hi => .inl hi),by rw [layAll_take _ _ _ _ HSQ2.out,← HP.out];exact HIL.out.own⟩
   · obtain rfl:m = k:=by omega
     have HKA6:=Lib.hid (hI.kept.own (HKA.out.below HB56.out) (fun g hg hx => by have h1:=(HKA.out.blk_lt g (blk_mem.2 hg)).1;have h2:=(HL3.out.blk_lt g hx).2;omega))
     have HRW:=Lib.hid ((hI.kept.block w.heap.size (Array.getElem?_eq_some_iff.1 HR6.out).1 HNR.out).trans HR6.out)
     have HOW:=Lib.hid ((hI.kept.block ob (Array.getElem?_eq_some_iff.1 HOB6.out).1 HNO.out).trans HOB6.out)
     have c0:=cells_at HOW.out 0
     have c1:=cells_at HOW.out 1
     have c2:=cells_at HOW.out 2
     have e0:=cells_at HRW.out 0
     have e1:=cells_at HRW.out 1
     have e2:=cells_at HRW.out 2
     have f0:=frozen_at HRW.out 0
     have f1:=frozen_at HRW.out 1
     have f2:=frozen_at HRW.out 2
     have HI:=Lib.hid hI
     clear hI hk hlt
     go_wp2
     have hfin:=heap_set3 HRW.out (.int .i8 base) (.slice ka n kc) (.slice la n lc)
     have hres:∀ (tmps:Array Value) (W':World),W'.heap[w.heap.size]? = some (.cells #[.int .i8 base,.slice ka n kc,.slice la n lc] 29)→tmps.getD 6 undef = .pointer (some ⟨w.heap.size,0,none⟩)→tmps.getD 7 undef = .int .i64 0→(results Tryz.f23 tmps).run Tryz.prog W' = .ok (.tuple #[.agg #[.int .i8 base,.slice ka n kc,.slice la n lc],.int .i64 0]) W':=by
      intro tmps W' h1 h2 h3
      rw [results_cell_tmp rfl]
      have hlv:=run_loadVar_row (P:=Tryz.prog) _ w.heap.size 29 29 _ _ _ h1 Tryz.underlying29 rfl (by kernel_rfl)
      rw [h2,h3]
      simp [asAddr,hlv]
     have nk:∀ g,ka = some ⟨g,0,none⟩→g≠w.heap.size:=fun g hg e => by have h1:=(HKA.out.blk_lt g (blk_mem.2 (blockOf_some hg))).1;have h2:=HS3.out;have h3:=HS2.out;omega
     have nl:∀ g,la = some ⟨g,0,none⟩→g≠w.heap.size:=fun g hg e => HNR.out (by rw [← e];exact blk_mem.2 (blockOf_some hg))
     have hbb:=HI.out.kept.below HB6.out (fun k hk => by have h1:=(HLW.out k hk).1;omega) HB6.out.size
     refine bodyPost_ret (hres _ _ hfin rfl rfl) rfl ⟨ka,kc,la,lc,rfl,(((HKA6.out.stored_other _ _ nk).stored_other _ _ nk).stored_other _ _ nk).mono (by have h2:=HS3.out;have h3:=HS2.out;omega),?_,((hbb.setCell (p:=⟨w.heap.size,0,none⟩) (Nat.le_refl _) _).setCell (p:=⟨w.heap.size,1,none⟩) (Nat.le_refl _) _).setCell (p:=⟨w.heap.size,2,none⟩) (Nat.le_refl _) _⟩
     have h9:=(((HI.out.own.stored_other ⟨w.heap.size,0,none⟩ (.int .i8 base) nl).stored_other ⟨w.heap.size,1,none⟩ (.slice ka n kc) nl).stored_other ⟨w.heap.size,2,none⟩ (.slice la n lc) nl).mono (Nat.le_succ _)
     refine h9.eqL ?_
     rw [List.take_of_length_le (by have h1:=HSS.out;rw [← h1,List.length_map,HM.out];exact Nat.le_refl _)]
end Go.Proofs.YtjnidopbdjbbgaaGreat
