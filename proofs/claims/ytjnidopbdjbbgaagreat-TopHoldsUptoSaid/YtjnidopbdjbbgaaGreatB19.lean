/-
  What sequences are made of (text), the level of a kept character (level): walked.
-/
import Derived.Test.YtjnidopbdjbbgaaGreatB09
import Derived.Test.YtjnidopbdjbbgaaGreatB18
import Derived.Test.YtjnidopbdjbbgaaGreatB01
import Derived.Test.YtjnidopbdjbbgaaGreatB08
section
namespace Go.Proofs.YtjnidopbdjbbgaaGreat
open Go.RowKit
set_option linter.unusedVariables false
/-- What the sequences are made of. -/
structure Tx where
 cl:List Nat
 nw:List Nat
 lv:List Int
 base:Nat
 ks:List Nat
 ix:List Nat
 mt:List Int
structure Tx.Ok (t:Tx):Prop where
 nw:t.nw.length = t.cl.length
 lv:t.lv.length = t.cl.length
 ix:t.ix.length = t.cl.length
 mt:t.mt.length = t.cl.length
 base:t.base≤1
 big:t.cl.length≤1048576
 cl:∀ x∈t.cl,1≤x∧x≤23
 ks:∀ k∈t.ks,k < t.cl.length
 kl:t.ks.length≤t.cl.length
 kv:∀ k∈t.ks,∃ v:Nat,t.lv.getD k 0 = v∧v≤126
 ib:∀ v∈t.ix,v≤1048576
/-- Where its slices lie. -/
structure Tp where
 ca:Option Addr
 cc:Nat
 na:Option Addr
 nc:Nat
 la:Option Addr
 lc:Nat
 ka:Option Addr
 kc:Nat
 xa:Option Addr
 xc:Nat
 ma:Option Addr
 mc:Nat
structure TextAt (t:Tx) (p:Tp) (tb:Nat) (w:World):Prop where
 box:w.heap[tb]? = some (.cells #[.slice p.ca t.cl.length p.cc,.slice p.na t.cl.length p.nc,.slice p.la t.cl.length p.lc,.int .i8 t.base,.slice p.ka t.ks.length p.kc,.slice p.xa t.cl.length p.xc,.slice p.ma t.cl.length p.mc] 134)
 cl:Cells w p.ca (t.cl.map u8V)
 nw:Cells w p.na (t.nw.map u8V)
 lv:Cells w p.la (t.lv.map i8V)
 ks:Cells w p.ka (t.ks.map natV)
 ix:Cells w p.xa (t.ix.map natV)
 mt:Cells w p.ma (t.mt.map i64V)
theorem TextAt.below {t:Tx} {p:Tp} {tb:Nat} {w w':World} (h:TextAt t p tb w) (hb:Below w.heap.size w w'):TextAt t p tb w':=
 ⟨(hb.block tb (Array.getElem?_eq_some_iff.1 h.box).1).trans h.box,h.cl.below hb,h.nw.below hb,h.lv.below hb,h.ks.below hb,h.ix.below hb,h.mt.below hb⟩
/-- The level of a kept character. -/
def Tx.at (t:Tx) (k:Int):Int:=if k < 0∨(t.ks.length:Int)≤k then t.base else t.lv.getD (t.ks.getD k.toNat 0) 0
def Tx.atN (t:Tx) (k:Int):Nat:=(t.at k).toNat
theorem Tx.Ok.at_nat {t:Tx} (h:t.Ok) (k:Int):t.at k = t.atN k∧t.atN k≤126:=by
 have key:∃ v:Nat,t.at k = v∧v≤126:=by
  unfold Tx.at
  split
  · exact ⟨t.base,rfl,by have:=h.base;omega⟩
  · rename_i hk
    obtain ⟨q,rfl⟩:=Int.eq_ofNat_of_zero_le (show 0≤k by omega)
    have hq:q < t.ks.length:=by omega
    refine h.kv _ ?_
    rw [Int.toNat_natCast,List.getD_eq_getElem?_getD,List.getElem?_eq_getElem hq]
    exact List.getElem_mem _
 obtain ⟨v,hv,hl⟩:=key
 unfold Tx.atN
 rw [hv,Int.toNat_natCast]
 exact ⟨rfl,hl⟩
/-- The level behind a sequence that ends at place z. -/
def Tx.behind (t:Tx) (z:Nat):Nat:=if ([20,21,22]:List Nat).contains (t.cl.getD z 0) = true∧t.mt.getD z 0 = t.cl.length then t.base else t.atN ((t.ix.getD z 0:Int) + 1)
set_option maxRecDepth 20000 in
set_option maxHeartbeats 4000000 in
theorem at_any (w:World) (t:Tx) (ht:t.Ok) (p:Tp) (tb:Nat) (h:TextAt t p tb w) (k:Int) (hk:-1≤k) (hk2:k≤2000000):
 Calls Tryz.prog 116 #[.pointer (some ⟨tb,0,none⟩),.int .i64 k] w fun e w' => e = .returned (.int .i8 (t.atN k))∧∃ n,w' = w.drewN n:=by
 rw [← (ht.at_nat k).1]
 have b2:=cells_at h.box 2
 have b3:=cells_at h.box 3
 have b4:=cells_at h.box 4
 obtain ⟨n,hn⟩:∃ n,n = t.cl.length:=⟨_,rfl⟩
 obtain ⟨m,hm⟩:∃ m,m = t.ks.length:=⟨_,rfl⟩
 have hnm:m≤n:=by rw [hn,hm];exact ht.kl
 have hbig:n≤1048576:=by rw [hn];exact ht.big
 rw [← hn] at b2
 rw [← hm] at b4
 by_cases h0:k < 0
 · have hv:t.at k = t.base:=by unfold Tx.at;rw [if_pos (.inl h0)]
   rw [hv]
   clear hv h ht hn hm
   go_enter Tryz.func116,Tryz.ntmps116
   go_wp2
   go_ret
   exact ⟨rfl,0,rfl⟩
 · by_cases h1:(m:Int)≤k
   · have hv:t.at k = t.base:=by unfold Tx.at;rw [if_pos (.inr (by rw [← hm];exact h1))]
     rw [hv]
     clear hv h ht hn hm
     have h0':¬ k < 0:=h0
     go_enter Tryz.func116,Tryz.ntmps116
     go_wp2
     go_ret
     exact ⟨rfl,0,rfl⟩
   · obtain ⟨q,rfl⟩:=Int.eq_ofNat_of_zero_le (Int.not_lt.1 h0)
     have hq:q < t.ks.length:=by omega
     obtain ⟨x,hx⟩:∃ x,t.ks[q]? = some x:=⟨_,List.getElem?_eq_getElem hq⟩
     have hxn:=ht.ks x (List.mem_of_getElem? hx)
     obtain ⟨v,hv⟩:∃ v,t.lv[x]? = some v:=⟨_,List.getElem?_eq_getElem (by rw [ht.lv];exact hxn)⟩
     have hat:t.at (q:Int) = v:=by
      unfold Tx.at
      rw [if_neg (by omega),Int.toNat_natCast,List.getD_eq_getElem?_getD,List.getD_eq_getElem?_getD,hx,Option.getD_some,hv,Option.getD_some]
     obtain ⟨kb,ko,hka,hck⟩:=h.ks.getm hx
     obtain ⟨lb,lo,hla,hcl⟩:=h.lv.getm hv
     rw [hka] at b4
     rw [hla] at b2
     unfold natV at hck
     unfold i8V at hcl
     rw [hat]
     have hq0:(0:Int)≤(q:Int):=by omega
     have hq1:(q:Int) < (m:Int):=by omega
     have hx0:(0:Int)≤(x:Int):=by omega
     have hx1:(x:Int) < (n:Int):=by omega
     have h1':¬ (m:Int)≤(q:Int):=h1
     clear hat h ht hn hm hx hv hka hla hxn
     go_enter Tryz.func116,Tryz.ntmps116
     go_wp2_with (go_quiet (fail))
     go_ret
     exact ⟨rfl,_,rfl⟩
end Go.Proofs.YtjnidopbdjbbgaaGreat
end
/-
  The levels of a sequence (I1, I2): walked.
-/
section
namespace Go.Proofs.YtjnidopbdjbbgaaGreat
open Go.RowKit
set_option linter.unusedVariables false
set_option maxRecDepth 20000
set_option maxHeartbeats 4000000
theorem lev_any (w:World) (l c:Nat) (hl:l≤125) (hc:c = 1∨c = 2∨c = 4∨c = 7):
 Calls Tryz.prog 74 #[.int .i8 l,.int .u8 c] w fun e w' => e = .returned (.tuple #[.int .i8 (levelOf l c),.bool true])∧w = w':=by
 have HS:=Lib.hid (fun w => side_any w c)
 have h0:(0:Int)≤(l:Int):=by omega
 have h1:(l:Int)≤125:=by omega
 rcases Nat.mod_two_eq_zero_or_one l with hp | hp
 · have ht:(l:Int).tmod 2 = 0:=by rw [Int.tmod_eq_emod_of_nonneg h0];omega
   have hv:levelOf l c = if c = 2 then l + 1 else if c = 4∨c = 7 then l + 2 else l:=by unfold levelOf;rw [if_pos hp]
   rw [hv]
   clear hv hp hl
   rcases hc with rfl | rfl | rfl | rfl
   all_goals
    unfold sideV at HS
    go_enter Tryz.func74,Tryz.ntmps74
    go_wp2_with (go_at_call 47;refine (HS.out _).mono ?_;rintro e w1 ⟨rfl,rfl⟩)
    go_ret2
    exact ⟨rfl,rfl⟩
 · have ht:(l:Int).tmod 2 = 1:=by rw [Int.tmod_eq_emod_of_nonneg h0];omega
   have hv:levelOf l c = if c = 2 then l else l + 1:=by unfold levelOf;rw [if_neg (by omega)]
   rw [hv]
   clear hv hp hl
   rcases hc with rfl | rfl | rfl | rfl
   all_goals
    unfold sideV at HS
    go_enter Tryz.func74,Tryz.ntmps74
    go_wp2_with (go_at_call 47;refine (HS.out _).mono ?_;rintro e w1 ⟨rfl,rfl⟩)
    go_ret2
    exact ⟨rfl,rfl⟩
theorem settled_cases {c:Nat} (h:Settled c):c = 1∨c = 2∨c = 4∨c = 7:=by unfold Settled at h;omega
theorem levels_any (w:World) (s:Sq) (hs:s.Ok) (h125:s.lv≤125) (hst:∀ c∈s.cs,Settled c) (pa ca:Option Addr) (pc cc:Nat) (hi:s.In w pa ca):
 Calls Tryz.prog 43 #[s.val pa pc ca cc] w fun e w' => ∃ a c,e = .returned (.tuple #[.slice a s.ps.length c,.int .i64 0])∧Own w' w.heap.size 1 a s.ps.length c (s.cs.map fun x => n8V (levelOf s.lv x))∧Below w.heap.size w w':=by
 obtain ⟨i0,hi0,hz0,hz1,hz2⟩:=info_parts info26
 have HCK:=Lib.hid (fun w h => check_any w s hs pa ca pc cc h)
 have hbig:=hs.big
 have hsame:=hs.same
 have HIN:=Lib.hid hi
 have HST:=Lib.hid hst
 obtain ⟨ps,cs,lv,sos,eos⟩:=s
 simp only at hbig hsame h125
 have HLV:=Lib.hid (fun w c (hc:Settled c) => lev_any w lv c h125 (settled_cases hc))
 unfold Sq.val at HCK ⊢
 simp only at HCK HST ⊢
 obtain ⟨n,hn⟩:∃ n,n = ps.length:=⟨_,rfl⟩
 rw [← hn] at HCK hbig hsame ⊢
 have HSAME:=Lib.hid hsame
 have hlv1:(lv:Int)≤125:=by omega
 clear hi hs hst hn hsame
 have HB0:=Lib.hid ((Below.refl w.heap.size w).alloc (Nat.le_refl _) (.cells #[.slice pa n pc,.slice ca n cc,.int .i8 lv,.int .u8 sos,.int .u8 eos] 75))
 have HW0:=Lib.hid (heap_alloc_new w (.cells #[.slice pa n pc,.slice ca n cc,.int .i8 lv,.int .u8 sos,.int .u8 eos] 75))
 go_enter Tryz.func43,Tryz.ntmps43
 go_wp2_with (go_at_call 46;refine (HCK.out _ (HIN.out.below HB0.out)).mono ?_;rintro e w1 ⟨rfl,hb1⟩;have HB1:=Lib.hid (HB0.out.trans (hb1.mono (by simp)));have HX1:=Lib.hid ((hb1.block w.heap.size (by simp)).trans HW0.out);have b1:=cells_at HX1.out 1;have b2:=cells_at HX1.out 2;have HLT:=Lib.hid (show w.heap.size < w1.heap.size by have:=hb1.size;simp at this;omega);clear hb1)
 go_loopg [4,20] n (fun r v i wr => ∃ (k c:Nat) (a:Option Addr),k + r = n∧i = .int .i64 k∧v = .slice a k c∧Own wr w1.heap.size 1 a k c ((cs.take k).map fun x => n8V (levelOf lv x))∧Below w1.heap.size w1 wr)
 case atStart => exact ⟨0,0,none,by omega,rfl,rfl,by simpa using Own.nil _ _ _,Below.refl _ _⟩
 case round =>
  obtain ⟨k,c4,a4,hk,rfl,rfl,hown,hb⟩:=hrel
  by_cases hlt:k < n
  · obtain ⟨x,hx⟩:∃ x,cs[k]? = some x:=⟨_,List.getElem?_eq_getElem (by rw [HSAME.out];exact hlt)⟩
    obtain ⟨bb,oo,rfl,hcx⟩:=((HIN.out.cs.below HB1.out).below hb).getm hx
    unfold u8V at hcx
    have hxb:=(hb.block w.heap.size HLT.out).trans HX1.out
    have b1:=cells_at hxb 1
    have b2:=cells_at hxb 2
    have HL:=Lib.hid (fun w => HLV.out w x (HST.out x (List.mem_of_getElem? hx)))
    have HX:=Lib.hid hx
    have HO:=Lib.hid hown
    have HB:=Lib.hid hb
    have HK:=Lib.hid hk
    have hk0:(0:Int)≤(k:Int):=by omega
    have hk1:(k:Int) < (n:Int):=by omega
    clear hx hown hb hxb hk
    go_wp2_with (first | (go_at_call 74;refine (HL.out _).mono ?_;rintro e w2 ⟨rfl,rfl⟩) | (at_builtin;refine wpList_push rfl _ _ 27 rfl 26 i0 (.int .i8 0) 1 Tryz.underlying27 hi0 hz0 hz1 hz2 rfl rfl w1.heap.size a4 k c4 _ rfl _ _ rfl HO.out _ rfl rfl rfl (by omega) (by decide) HB.out.size ?_;intro a5 c5 w5 hown5 hap5 hb5;have HO5:=Lib.hid hown5;have HB5:=Lib.hid hb5;clear hown5 hap5 hb5))
    go_roundg (gk - 1)
    case measure => have:=HK.out;omega
    case rel => exact ⟨k + 1,c5,a5,by have:=HK.out;omega,by go_num,rfl,HO5.out.eqL (by rw [take_snoc HX.out,List.map_append];rfl),HB.out.trans HB5.out⟩
  · obtain rfl:k = n:=by omega
    have HO:=Lib.hid (hown.eqL (show _ = cs.map (fun x => n8V (levelOf lv x)) by rw [List.take_of_length_le (by rw [HSAME.out];exact Nat.le_refl _)]))
    have HB:=Lib.hid (HB1.out.trans (hb.mono HB1.out.size))
    clear hown hb hk hlt
    go_wp2
    go_ret2
    exact ⟨a4,c4,rfl,HO.out.mono HB1.out.size,HB.out⟩
end Go.Proofs.YtjnidopbdjbbgaaGreat
end
/-
  All weak rules, and that what they leave lies in memory of their own: walked.
-/
section
namespace Go.Proofs.YtjnidopbdjbbgaaGreat
open Go.RowKit
set_option linter.unusedVariables false
set_option maxRecDepth 20000
set_option maxHeartbeats 4000000
/-- A slice's block is at least number n. -/
def FreshA (n:Nat) (a:Option Addr):Prop:=∀ g∈blk a,n≤g
theorem FreshA.away {n k:Nat} {a:Option Addr} (h:FreshA n a) (hk:k < n):Away a k:=fun b e hb => by
 have:=h b.block (by rw [blk_mem,e];rfl)
 omega
theorem FreshA.mono {n m:Nat} {a:Option Addr} (h:FreshA n a) (hm:m≤n):FreshA m a:=fun g hg => Nat.le_trans hm (h g hg)
/-- All weak rules. -/
theorem weak_fresh (w:World) (s:Sq) (hs:s.Ok) (pa ca:Option Addr) (pc cc:Nat) (hi:s.In w pa ca):
 Calls Tryz.prog 25 #[s.val pa pc ca cc] w fun e w' => ∃ pa' pc' ca' cc',e = .returned (.tuple #[(s.to 7).val pa' pc' ca' cc',.int .i64 0])∧(s.to 7).In w' pa' ca'∧Below w.heap.size w w'∧FreshA w.heap.size pa'∧FreshA w.heap.size ca':=by
 have HR:=Lib.hid (fun (k:Nat) (hk:k < 7) w pa ca pc cc h => rule_any (k + 1) (by omega) w (s.to k) (hs.to k) pa ca pc cc h)
 have HIN:=Lib.hid hi
 have HTO:Hid (∀ k,({ s.to k with cs:=ruleOf (k + 1) (s.to k).sos (s.to k).cs }:Sq) = s.to (k + 1)):=Lib.hid (fun k => rfl)
 have HT0:Hid (s.to 0 = s):=Lib.hid rfl
 have HAW:Hid (Away pa (w.heap.size + 1)∧Away ca (w.heap.size + 1)):=Lib.hid ⟨fun a e => by have:=hi.ps.lt (by rw [List.length_map];exact hs.pos) a e;omega,fun a e => by have:=hi.cs.lt (by rw [List.length_map,hs.same];exact hs.pos) a e;omega⟩
 obtain ⟨n,hn⟩:∃ n,n = s.ps.length:=⟨_,rfl⟩
 have hv:∀ k pa pc ca cc,(s.to k).val pa pc ca cc = .agg #[.slice pa n pc,.slice ca n cc,.int .i8 s.lv,.int .u8 s.sos,.int .u8 s.eos]:=fun k pa pc ca cc => by rw [hn];rfl
 have hv0:s.val pa pc ca cc = .agg #[.slice pa n pc,.slice ca n cc,.int .i8 s.lv,.int .u8 s.sos,.int .u8 s.eos]:=by rw [hn];rfl
 have HV:=Lib.hid hv
 rw [hv0]
 have HRR:Hid (∀ (k:Nat),k < 7→∀ (w:World) (pa ca:Option Addr) (pc cc:Nat),(s.to k).In w pa ca→Calls Tryz.prog 45 #[.int .i64 (k + 1:Nat),.agg #[.slice pa n pc,.slice ca n cc,.int .i8 s.lv,.int .u8 s.sos,.int .u8 s.eos]] w fun e w' => ∃ pa' pc' ca' cc',e = .returned (.tuple #[.agg #[.slice pa' n pc',.slice ca' n cc',.int .i8 s.lv,.int .u8 s.sos,.int .u8 s.eos],.int .i64 0])∧Own w' w.heap.size 1 pa' n pc' ((s.to (k + 1)).ps.map natV)∧Own w' w.heap.size 1 ca' n cc' ((s.to (k + 1)).cs.map u8V)∧Below w.heap.size w w'):=Lib.hid (fun k hk w pa ca pc cc h => by
  have:=HR.out k hk w pa ca pc cc h
  rw [hv k] at this
  refine this.mono ?_
  rintro e w' ⟨pa',pc',ca',cc',rfl,h1,h2,h3⟩
  refine ⟨pa',pc',ca',cc',?_,h1.eqN hn.symm,h2.eqN hn.symm,h3⟩
  rw [HTO.out k,hv (k + 1)])
 obtain ⟨lv,hlv⟩:∃ x,x = s.lv:=⟨_,rfl⟩
 obtain ⟨sos,hsos⟩:∃ x,x = s.sos:=⟨_,rfl⟩
 obtain ⟨eos,heos⟩:∃ x,x = s.eos:=⟨_,rfl⟩
 simp only [← hlv,← hsos,← heos] at HRR HV ⊢
 clear hi hs hv hv0 hn hlv hsos heos HR HTO
 obtain ⟨O2,hO2⟩:∃ O,O = Obj.cells #[.slice none 0 0,.slice none 0 0,.int .i8 0,.int .u8 0,.int .u8 0] 75:=⟨_,rfl⟩
 obtain ⟨O1,hO1⟩:∃ O,O = Obj.cells #[.slice pa n pc,.slice ca n cc,.int .i8 lv,.int .u8 sos,.int .u8 eos] 75:=⟨_,rfl⟩
 have hw1:((w.alloc O1).alloc O2).heap[w.heap.size]? = some O1:=(Below.heap_alloc _ _ _ (by simp)).trans (heap_alloc_new w O1)
 have hw2:((w.alloc O1).alloc O2).heap[w.heap.size + 1]? = some O2:=by
  have:=heap_alloc_new (w.alloc O1) O2
  rwa [World.size_alloc] at this
 have HB0:Hid (Below w.heap.size w ((w.alloc O1).alloc O2)):=Lib.hid (((Below.refl _ _).alloc (Nat.le_refl _) _).alloc (by simp) _)
 have HSZ:Hid (((w.alloc O1).alloc O2).heap.size = w.heap.size + 2):=Lib.hid (by simp)
 have HRL:=Lib.hid (fun W => rules_any W)
 subst hO2
 have HW1:=Lib.hid hw1
 have HW2:=Lib.hid hw2
 subst hO1
 clear hw1 hw2
 go_enter Tryz.func25,Tryz.ntmps25
 go_wp2_with (go_at_call 44;refine (HRL.out _).mono ?_;rintro e w2 ⟨rfl,hw2⟩;have HB2:=Lib.hid (show Below w.heap.size w w2 by rw [hw2];exact HB0.out.alloc HB0.out.size _);have HX2:=Lib.hid ((congrArg (fun v:World => v.heap[w.heap.size]?) hw2).trans ((Below.heap_alloc _ _ w.heap.size (by rw [HSZ.out];omega)).trans HW1.out));have HY2:=Lib.hid ((congrArg (fun v:World => v.heap[w.heap.size + 1]?) hw2).trans ((Below.heap_alloc _ _ (w.heap.size + 1) (by rw [HSZ.out];omega)).trans HW2.out));clear hw2)
 go_loopg [5,8] 7 (fun r ev i wr => ∃ k:Nat,k + r = 7∧i = .int .i64 k∧(∃ pa pc ca cc,wr.heap[w.heap.size]? = some (.cells #[.slice pa n pc,.slice ca n cc,.int .i8 lv,.int .u8 sos,.int .u8 eos] 75)∧(s.to k).In wr pa ca∧Away pa (w.heap.size + 1)∧Away ca (w.heap.size + 1)∧(0 < k→FreshA w.heap.size pa∧FreshA w.heap.size ca))∧wr.heap[w.heap.size + 1]? = some (.cells #[.slice none 0 0,.slice none 0 0,.int .i8 0,.int .u8 0,.int .u8 0] 75)∧Below w.heap.size w wr)
 case atStart => exact ⟨0,rfl,rfl,⟨pa,pc,ca,cc,HX2.out,by rw [HT0.out];exact HIN.out.below HB2.out,HAW.out.1,HAW.out.2,fun h => absurd h (by omega)⟩,HY2.out,HB2.out⟩
 case round =>
  obtain ⟨k,hk,rfl,⟨pa1,pc1,ca1,cc1,hx,hin,haw1,haw2,hfr⟩,hy,hb⟩:=hrel
  have HFR:=Lib.hid hfr
  clear hfr
  have HAW1:=Lib.hid haw1
  have HAW2:=Lib.hid haw2
  clear haw1 haw2
  have b0:=cells_at hx 0
  have b1:=cells_at hx 1
  have b2:=cells_at hx 2
  have b3:=cells_at hx 3
  have b4:=cells_at hx 4
  have HX:=Lib.hid hx
  have HI:=Lib.hid hin
  have HY:=Lib.hid hy
  have HB:=Lib.hid hb
  have HK:=Lib.hid hk
  by_cases hlt:k < 7
  · have hk1:(k:Int) < 7:=by omega
    have hk0:(0:Int)≤(k:Int):=by omega
    have HC:=Lib.hid (HRR.out k hlt wr pa1 ca1 pc1 cc1 hin)
    have HLS:=Lib.hid (show w.heap.size + 1 < wr.heap.size from (Array.getElem?_eq_some_iff.1 hy).1)
    clear hx hin hy hb hk
    go_wp2_with (go_at_call 45;refine HC.out.mono ?_;rintro e w5 ⟨pa',pc',ca',cc',rfl,hop5,hoc5,hb5⟩;have HP5:=Lib.hid hop5;have HC5:=Lib.hid hoc5;have HB5:=Lib.hid hb5;have HX5:=Lib.hid ((hb5.block w.heap.size (by have:=HLS.out;omega)).trans HX.out);have HY5:=Lib.hid ((hb5.block (w.heap.size + 1) (by have:=HLS.out;omega)).trans HY.out);have b0:=cells_at HX5.out 0;have b1:=cells_at HX5.out 1;have b2:=cells_at HX5.out 2;have b3:=cells_at HX5.out 3;have b4:=cells_at HX5.out 4;have f0:=frozen_at HX5.out 0;have f1:=frozen_at HX5.out 1;have f2:=frozen_at HX5.out 2;have f3:=frozen_at HX5.out 3;have f4:=frozen_at HX5.out 4;clear hop5 hoc5 hb5)
    have q1:w.heap.size ∉ blk pa':=fun h => by have:=(HP5.out.blk_lt _ h).1;have:=HLS.out;omega
    have q2:w.heap.size ∉ blk ca':=fun h => by have:=(HC5.out.blk_lt _ h).1;have:=HLS.out;omega
    go_roundg (gk - 1)
    case measure => have:=HK.out;omega
    case rel => exact ⟨k + 1,by have:=HK.out;omega,by go_num,⟨pa',pc',ca',cc',heap_set5 HX5.out _ _ _ _ _,⟨(HP5.out.set5 q1 _ _ _ _ _).toCells,(HC5.out.set5 q2 _ _ _ _ _).toCells⟩,HP5.out.away (fun h => by have:=(HP5.out.blk_lt _ h).1;have:=HLS.out;omega),HC5.out.away (fun h => by have:=(HC5.out.blk_lt _ h).1;have:=HLS.out;omega),fun _ => ⟨fun g hg => by have:=(HP5.out.blk_lt g hg).1;have:=HLS.out;omega,fun g hg => by have:=(HC5.out.blk_lt g hg).1;have:=HLS.out;omega⟩⟩,heap_other (heap_other (heap_other (heap_other (heap_other HY5.out (by omega) _) (by omega) _) (by omega) _) (by omega) _) (by omega) _,below_set5 (HB.out.trans (HB5.out.mono HB.out.size)) (Nat.le_refl _) _ _ _ _ _⟩
  · obtain rfl:k = 7:=by omega
    have HLS:=Lib.hid (show w.heap.size + 1 < wr.heap.size from (Array.getElem?_eq_some_iff.1 hy).1)
    have e0:=cells_at hy 0
    have e1:=cells_at hy 1
    have e2:=cells_at hy 2
    have e3:=cells_at hy 3
    have e4:=cells_at hy 4
    have f0:=frozen_at hy 0
    have f1:=frozen_at hy 1
    have f2:=frozen_at hy 2
    have f3:=frozen_at hy 3
    have f4:=frozen_at hy 4
    clear hx hin hy hb hk
    go_wp2
    have hfin:=heap_set5 HY.out (.slice pa1 n pc1) (.slice ca1 n cc1) (.int .i8 lv) (.int .u8 sos) (.int .u8 eos)
    have hres:∀ (tmps:Array Value) (W':World),W'.heap[w.heap.size + 1]? = some (.cells #[.slice pa1 n pc1,.slice ca1 n cc1,.int .i8 lv,.int .u8 sos,.int .u8 eos] 75)→tmps.getD 2 undef = .pointer (some ⟨w.heap.size + 1,0,none⟩)→tmps.getD 3 undef = .int .i64 0→(results Tryz.f25 tmps).run Tryz.prog W' = .ok (.tuple #[.agg #[.slice pa1 n pc1,.slice ca1 n cc1,.int .i8 lv,.int .u8 sos,.int .u8 eos],.int .i64 0]) W':=by
     intro tmps W' h1 h2 h3
     rw [results_cell_tmp rfl]
     have hlv:=run_loadVar_row (P:=Tryz.prog) _ (w.heap.size + 1) 75 75 _ _ _ h1 Tryz.underlying75 rfl (by kernel_rfl)
     rw [h2,h3]
     simp [asAddr,hlv]
    have bs:=below_set5 HB.out (show w.heap.size≤w.heap.size + 1 by omega) (.slice pa1 n pc1) (.slice ca1 n cc1) (.int .i8 lv) (.int .u8 sos) (.int .u8 eos)
    refine bodyPost_ret (hres _ _ hfin rfl rfl) rfl ⟨pa1,pc1,ca1,cc1,by rw [HV.out],⟨HI.out.ps.away5 HAW1.out _ _ _ _ _,HI.out.cs.away5 HAW2.out _ _ _ _ _⟩,bs,HFR.out (by decide)⟩
end Go.Proofs.YtjnidopbdjbbgaaGreat
end
/-
  A sequence that is being gathered: what lies where. No function of the program in sight.
-/
section
namespace Go.Proofs.YtjnidopbdjbbgaaGreat
open Go.RowKit
set_option linter.unusedVariables false
/-- A run. -/
structure Rn where
 f:Nat
 t:Nat
 lv:Int
def Rn.cells (r:Rn):List Value:=[.int .i64 r.f,.int .i64 r.t,.int .i8 r.lv]
def Rn.val (r:Rn):Value:=.agg #[.int .i64 r.f,.int .i64 r.t,.int .i8 r.lv]
def runsV (R:List Rn):List Value:=R.flatMap Rn.cells
theorem runsV_snoc (R:List Rn) (r:Rn):runsV (R ++ [r]) = runsV R ++ r.cells:=by simp [runsV]
theorem runsV_at (R:List Rn):∀ (k:Nat) (r:Rn),R[k]? = some r→(runsV R)[k * 3]? = some (.int .i64 r.f)∧(runsV R)[k * 3 + 1]? = some (.int .i64 r.t)∧(runsV R)[k * 3 + 2]? = some (.int .i8 r.lv):=by
 induction R with
 | nil => intro k r h;simp at h
 | cons x R ih =>
  intro k r h
  cases k with
  | zero => simp at h;subst h;exact ⟨rfl,rfl,rfl⟩
  | succ k =>
   obtain ⟨h1,h2,h3⟩:=ih k r (by simpa using h)
   have hc:runsV (x :: R) = .int .i64 x.f :: .int .i64 x.t :: .int .i8 x.lv :: runsV R:=rfl
   rw [hc,show (k + 1) * 3 = k * 3 + 1 + 1 + 1 from by omega]
   exact ⟨h1,h2,h3⟩
/-- The kept places from f on, up to k. -/
def segTo (l:List Nat) (f k:Nat):List Nat:=(List.range k).filter fun i => decide (f≤i) && !rem (l.getD i 0)
theorem segTo_nil (l:List Nat) (f:Nat):segTo l f f = []:=by
 unfold segTo
 rw [List.filter_eq_nil_iff]
 intro i hi
 simp at hi ⊢
 omega
theorem segTo_succ {l:List Nat} {f k x:Nat} (hf:f≤k) (h:l[k]? = some x):segTo l f (k + 1) = segTo l f k ++ if rem x = true then [] else [k]:=by
 unfold segTo
 rw [List.range_succ,List.filter_append]
 congr 1
 have:l.getD k 0 = x:=by rw [List.getD_eq_getElem?_getD,h];rfl
 rw [List.filter_cons,this]
 cases rem x <;> simp [hf]
theorem segTo_le (l:List Nat) (f k:Nat):(segTo l f k).length≤k - f:=by
 induction k with
 | zero => simp [segTo]
 | succ k ih =>
  unfold segTo at ih ⊢
  rw [List.range_succ,List.filter_append,List.length_append]
  rw [List.filter_cons,List.filter_nil]
  by_cases hf:f≤k
  · have:(if (decide (f≤k) && !rem (l.getD k 0)) = true then [k] else []).length≤1:=by split <;> simp
    omega
  · simp [hf]
    simp at ih
    omega
def segOf (l:List Nat) (r:Rn):List Nat:=segTo l r.f r.t
/-- The places of a sequence of some runs. -/
def placesOf (l:List Nat) (R:List Rn):List Nat:=R.flatMap (segOf l)
theorem placesOf_snoc {l:List Nat} {R:List Rn} {k:Nat} {r:Rn} (h:R[k]? = some r):placesOf l (R.take (k + 1)) = placesOf l (R.take k) ++ segOf l r:=by
 unfold placesOf
 rw [List.take_add_one,h,List.flatMap_append]
 simp
theorem placesOf_le (l:List Nat) (N:Nat):∀ R:List Rn,(∀ r∈R,r.t≤N)→(placesOf l R).length≤R.length * N:=by
 intro R
 induction R with
 | nil => intro _;simp [placesOf]
 | cons r R ih =>
  intro h
  have h1:=ih fun r hr => h r (List.mem_cons_of_mem _ hr)
  have h2:=segTo_le l r.f r.t
  have h3:=h r (by simp)
  have:placesOf l (r :: R) = segOf l r ++ placesOf l R:=rfl
  rw [this,List.length_append,List.length_cons,Nat.add_mul]
  unfold segOf
  omega
theorem placesOf_take {l:List Nat} {N k f x M:Nat} {R:List Rn} (h:∀ r∈R,r.t≤N) (hN:N≤1048576) (hk:k < M) (hM:M≤1048576) (hx:x≤N):(placesOf l (R.take k) ++ segTo l f x).length≤1099511627776:=by
 have h1:=placesOf_le l N (R.take k) (fun r hr => h r (List.mem_of_mem_take hr))
 have h2:=segTo_le l f x
 have h3:(R.take k).length≤k:=by rw [List.length_take];omega
 have h4:(R.take k).length * N≤k * N:=Nat.mul_le_mul_right _ h3
 have h5:(k + 1) * N≤1048576 * 1048576:=Nat.mul_le_mul (by omega) hN
 rw [Nat.add_mul] at h5
 rw [List.length_append]
 omega
/-- What has been gathered lies at a block N. -/
structure Gath (B N:Nat) (ps cs:List Nat) (lv:Int) (pa:Option Addr) (pc:Nat) (ca:Option Addr) (cc:Nat) (W:World):Prop where
 box:W.heap[N]? = some (.cells #[.slice pa ps.length pc,.slice ca cs.length cc,.int .i8 lv,.int .u8 0,.int .u8 0] 75)
 ps:Own W B 1 pa ps.length pc (ps.map natV)
 cs:Own W B 1 ca cs.length cc (cs.map u8V)
 ap:∀ g∈blk pa,g ∉ blk ca
 np:N ∉ blk pa
 nc:N ∉ blk ca
 ge:B≤N
theorem Gath.below {B N:Nat} {ps cs:List Nat} {lv:Int} {pa ca:Option Addr} {pc cc:Nat} {W W':World} (h:Gath B N ps cs lv pa pc ca cc W) (hb:Below W.heap.size W W'):Gath B N ps cs lv pa pc ca cc W':=
 ⟨(hb.block N (Array.getElem?_eq_some_iff.1 h.box).1).trans h.box,h.ps.below hb,h.cs.below hb,h.ap,h.np,h.nc,h.ge⟩
theorem Gath.lt {B N:Nat} {ps cs:List Nat} {lv:Int} {pa ca:Option Addr} {pc cc:Nat} {W:World} (h:Gath B N ps cs lv pa pc ca cc W):N < W.heap.size:=(Array.getElem?_eq_some_iff.1 h.box).1
theorem Gath.pushP {B N:Nat} {ps cs:List Nat} {lv:Int} {pa ca pa':Option Addr} {pc cc pc':Nat} {W w4:World} {o:Obj} (h:Gath B N ps cs lv pa pc ca cc W) (hB:B≤W.heap.size) (x:Nat)
 (h4:Own w4 B 1 pa' (ps.length + 1) pc' (ps.map natV ++ [natV x])) (hap:Apped (W.alloc o) w4 pa pa'):
 Gath B N (ps ++ [x]) cs lv pa' pc' ca cc (w4.setCell ⟨N,0,none⟩ (.slice pa' (ps.length + 1) pc'))∧Below B W (w4.setCell ⟨N,0,none⟩ (.slice pa' (ps.length + 1) pc'))∧w4.heap[N]? = W.heap[N]?:=by
 have hlt:=h.lt
 have hsz:=hap.grown.size
 simp only [World.size_alloc] at hsz
 have hN:=hap.heap hlt h.np
 have hN':N ∉ blk pa':=fun hm => by
  rcases hap.blk hm with h1 | h1
  · exact h.np h1
  · simp at h1;omega
 have hbox:=heap_set (hN.trans h.box) (.slice pa' (ps.length + 1) pc') (j:=0)
 have hcs:Own w4 B 1 ca cs.length cc (cs.map u8V):=h.cs.same (by omega) fun g hg => by
  have hm:g∈blk ca:=blk_mem.2 (blockOf_some hg)
  exact hap.heap (h.cs.blk_lt g hm).2 (fun hp => h.ap g hp hm)
 refine ⟨⟨?_,?_,hcs.stored_other _ _ (fun g hg e => h.nc (by rw [blk_mem,hg];show some g = some N;rw [show g = N from e])),fun g hg hc => ?_,hN',h.nc,h.ge⟩,?_,hN⟩
 · rw [hbox,List.length_append];rfl
 · have:=h4.stored_other ⟨N,0,none⟩ (.slice pa' (ps.length + 1) pc') (fun g hg e => hN' (by rw [blk_mem,hg];show some g = some N;rw [show g = N from e]))
   rw [List.length_append,List.map_append]
   exact this
 · rcases hap.blk hg with h1 | h1
   · exact h.ap g h1 hc
   · have:=(h.cs.blk_lt g hc).2;simp at h1;omega
 · exact (((Below.refl B W).alloc hB o).trans (hap.below (h.ps.alloc o) (by simp;omega))).setCell (p:=⟨N,0,none⟩) h.ge _
theorem Gath.pushC {B N:Nat} {ps cs:List Nat} {lv:Int} {pa ca ca':Option Addr} {pc cc cc':Nat} {W w4:World} {o:Obj} (h:Gath B N ps cs lv pa pc ca cc W) (hB:B≤W.heap.size) (x:Nat)
 (h4:Own w4 B 1 ca' (cs.length + 1) cc' (cs.map u8V ++ [u8V x])) (hap:Apped (W.alloc o) w4 ca ca'):
 Gath B N ps (cs ++ [x]) lv pa pc ca' cc' (w4.setCell ⟨N,1,none⟩ (.slice ca' (cs.length + 1) cc'))∧Below B W (w4.setCell ⟨N,1,none⟩ (.slice ca' (cs.length + 1) cc'))∧w4.heap[N]? = W.heap[N]?:=by
 have hlt:=h.lt
 have hsz:=hap.grown.size
 simp only [World.size_alloc] at hsz
 have hN:=hap.heap hlt h.nc
 have hN':N ∉ blk ca':=fun hm => by
  rcases hap.blk hm with h1 | h1
  · exact h.nc h1
  · simp at h1;omega
 have hbox:=heap_set (hN.trans h.box) (.slice ca' (cs.length + 1) cc') (j:=1)
 have hps:Own w4 B 1 pa ps.length pc (ps.map natV):=h.ps.same (by omega) fun g hg => by
  have hm:g∈blk pa:=blk_mem.2 (blockOf_some hg)
  exact hap.heap (h.ps.blk_lt g hm).2 (fun hc => h.ap g hm hc)
 refine ⟨⟨?_,hps.stored_other _ _ (fun g hg e => h.np (by rw [blk_mem,hg];show some g = some N;rw [show g = N from e])),?_,fun g hg hc => ?_,h.np,hN',h.ge⟩,?_,hN⟩
 · rw [hbox,List.length_append];rfl
 · have:=h4.stored_other ⟨N,1,none⟩ (.slice ca' (cs.length + 1) cc') (fun g hg e => hN' (by rw [blk_mem,hg];show some g = some N;rw [show g = N from e]))
   rw [List.length_append,List.map_append]
   exact this
 · rcases hap.blk hc with h1 | h1
   · exact h.ap g hg h1
   · have:=(h.ps.blk_lt g hg).2;simp at h1;omega
 · exact (((Below.refl B W).alloc hB o).trans (hap.below (h.cs.alloc o) (by simp;omega))).setCell (p:=⟨N,1,none⟩) h.ge _
/-- A block that is held over a push. -/
theorem Gath.heldP {B N:Nat} {ps cs:List Nat} {lv:Int} {pa ca pa':Option Addr} {pc cc:Nat} {W w4:World} {o:Obj} (h:Gath B N ps cs lv pa pc ca cc W) (hap:Apped (W.alloc o) w4 pa pa') {D j:Nat} (hD:D < W.heap.size) (hn:D ∉ blk pa) (hN:D≠N) (v:Value):
 (w4.setCell ⟨N,j,none⟩ v).heap[D]? = W.heap[D]?∧D ∉ blk pa':=by
 refine ⟨(Below.heap_setCell w4 ⟨N,j,none⟩ v D hN).trans (hap.heap hD hn),fun hm => ?_⟩
 rcases hap.blk hm with h1 | h1
 · exact hn h1
 · simp at h1;omega
theorem Gath.heldC {B N:Nat} {ps cs:List Nat} {lv:Int} {pa ca ca':Option Addr} {pc cc:Nat} {W w4:World} {o:Obj} (h:Gath B N ps cs lv pa pc ca cc W) (hap:Apped (W.alloc o) w4 ca ca') {D j:Nat} (hD:D < W.heap.size) (hn:D ∉ blk ca) (hN:D≠N) (v:Value):
 (w4.setCell ⟨N,j,none⟩ v).heap[D]? = W.heap[D]?∧D ∉ blk ca':=by
 refine ⟨(Below.heap_setCell w4 ⟨N,j,none⟩ v D hN).trans (hap.heap hD hn),fun hm => ?_⟩
 rcases hap.blk hm with h1 | h1
 · exact hn h1
 · simp at h1;omega
theorem Gath.drew {B N:Nat} {ps cs:List Nat} {lv:Int} {pa ca:Option Addr} {pc cc:Nat} {W:World} (h:Gath B N ps cs lv pa pc ca cc W):Gath B N ps cs lv pa pc ca cc W.drew:=
 ⟨h.box,h.ps.drew,h.cs.drew,h.ap,h.np,h.nc,h.ge⟩
end Go.Proofs.YtjnidopbdjbbgaaGreat
end
/-
  The first kept place whose level is another (IndexFunc over a closure): walked.
-/
section
namespace Go.Proofs.YtjnidopbdjbbgaaGreat
open Go.RowKit
set_option linter.unusedVariables false
set_option maxRecDepth 20000
set_option maxHeartbeats 4000000
/-- What the closure reads. -/
structure OffAt (lv:List Int) (fr:Nat) (ob fb:Nat) (w:World):Prop where
 own:∃ a c,w.heap[ob]? = some (.cells #[.slice a lv.length c] 27)∧Cells w a (lv.map i8V)
 from_:w.heap[fb]? = some (.cells #[.int .i64 fr] 3)
theorem OffAt.below {lv:List Int} {fr ob fb:Nat} {w w':World} (h:OffAt lv fr ob fb w) (hb:Below w.heap.size w w'):OffAt lv fr ob fb w':=by
 obtain ⟨a,c,h1,h2⟩:=h.own
 exact ⟨⟨a,c,(hb.block ob (Array.getElem?_eq_some_iff.1 h1).1).trans h1,h2.below hb⟩,(hb.block fb (Array.getElem?_eq_some_iff.1 h.from_).1).trans h.from_⟩
def offB (lv:List Int) (fr x:Nat):Bool:=lv.getD x 0 != lv.getD fr 0
theorem off_any (w:World) (lv:List Int) (fr ob fb x:Nat) (h:OffAt lv fr ob fb w) (hx:x < lv.length) (hf:fr < lv.length) (hl:lv.length≤1048576):
 Calls Tryz.prog 115 #[.int .i64 x,.pointer (some ⟨ob,0,none⟩),.pointer (some ⟨fb,0,none⟩)] w fun e w' => e = .returned (.bool (offB lv fr x))∧∃ n,w' = w.drewN n:=by
 obtain ⟨a,c,h1,h2⟩:=h.own
 have c1:=cells_at h1 0
 have c2:=cells_at h.from_ 0
 obtain ⟨u,hu⟩:∃ u,lv[x]? = some u:=⟨_,List.getElem?_eq_getElem hx⟩
 obtain ⟨v,hv⟩:∃ v,lv[fr]? = some v:=⟨_,List.getElem?_eq_getElem hf⟩
 obtain ⟨b,o,rfl,hcu⟩:=h2.getm hu
 obtain ⟨_,_,he,hcv⟩:=h2.getm hv
 cases he
 have e:offB lv fr x = (u != v):=by
  unfold offB
  rw [List.getD_eq_getElem?_getD,List.getD_eq_getElem?_getD,hu,hv]
  rfl
 rw [e]
 unfold i8V at hcu hcv
 obtain ⟨n,hn⟩:∃ n,n = lv.length:=⟨_,rfl⟩
 rw [← hn] at c1 hx hf hl
 have hx0:(0:Int)≤(x:Int):=by omega
 have hx1:(x:Int) < (n:Int):=by omega
 have hf0:(0:Int)≤(fr:Int):=by omega
 have hf1:(fr:Int) < (n:Int):=by omega
 clear e h h1 h2 hu hv hn
 go_enter Tryz.func115,Tryz.ntmps115
 go_wp2_with (go_quiet (fail))
 go_ret
 exact ⟨rfl,_,rfl⟩
/-- The first index of such a place. -/
def ixOf (lv:List Int) (fr:Nat) (K:List Nat):Int:=match K.findIdx? (offB lv fr) with | some i => i | none => -1
theorem ixOf_take {lv:List Int} {fr:Nat} {K:List Nat} (h:∀ y∈K,offB lv fr y = false):ixOf lv fr K = -1:=by
 unfold ixOf
 rw [List.findIdx?_eq_none_iff.2 h]
theorem ixOf_at {lv:List Int} {fr:Nat} {K:List Nat} {k x:Nat} (h:∀ y∈K.take k,offB lv fr y = false) (hx:K[k]? = some x) (ho:offB lv fr x = true):ixOf lv fr K = k:=by
 unfold ixOf
 obtain ⟨hk,hxe⟩:=List.getElem?_eq_some_iff.1 hx
 have:K.findIdx? (offB lv fr) = some k:=by
  rw [List.findIdx?_eq_some_iff_getElem]
  refine ⟨hk,by rw [hxe];exact ho,fun j hj => ?_⟩
  have:=h K[j] (List.mem_take_iff_getElem.2 ⟨j,by omega,rfl⟩)
  simp [this]
 rw [this]
theorem index_any (w:World) (lv:List Int) (fr ob fb:Nat) (h:OffAt lv fr ob fb w) (hf:fr < lv.length) (hl:lv.length≤1048576) (K:List Nat) (a:Option Addr) (c:Nat) (hK:Cells w a (K.map natV)) (hin:∀ x∈K,x < lv.length) (hKl:K.length≤1048576):
 Calls Tryz.prog 114 #[.slice a K.length c,.func (.func 115) #[] #[.pointer (some ⟨ob,0,none⟩),.pointer (some ⟨fb,0,none⟩)]] w fun e w' => e = .returned (.int .i64 (ixOf lv fr K))∧Below w.heap.size w w':=by
 have HK:=Lib.hid hK
 have HC:=Lib.hid (fun W h x hx => off_any W lv fr ob fb x h (hin x hx) hf hl)
 have HO:=Lib.hid h
 obtain ⟨m,hm⟩:∃ m,m = K.length:=⟨_,rfl⟩
 have HM:=Lib.hid hm
 rw [← hm] at hKl ⊢
 clear h hf hl hK hin hm
 go_enter Tryz.func114,Tryz.ntmps114
 go_wp2
 go_loopg [8] m (fun r i wr => ∃ k:Nat,k + r = m∧i = .int .i64 k∧(∀ y∈K.take k,offB lv fr y = false)∧Below w.heap.size w wr)
 case atStart => exact ⟨0,by omega,rfl,by simp,Below.refl _ _⟩
 case round =>
  obtain ⟨k,hk,rfl,hall,hb⟩:=hrel
  by_cases hlt:k < m
  · obtain ⟨x,hx⟩:∃ x,K[k]? = some x:=⟨_,List.getElem?_eq_getElem (by rw [← HM.out];exact hlt)⟩
    obtain ⟨bb,oo,rfl,hcx⟩:=(HK.out.below hb).getm hx
    unfold natV at hcx
    have HX:=Lib.hid hx
    have HA:=Lib.hid hall
    have HB:=Lib.hid hb
    have HKK:=Lib.hid hk
    have HOF:=Lib.hid (fun W hbb => HC.out W (HO.out.below (hb.trans hbb)) x (List.mem_of_getElem? hx))
    have hk0:(0:Int)≤(k:Int):=by omega
    have hk1:(k:Int) < (m:Int):=by omega
    clear hx hall hb hk
    cases ho:offB lv fr x with
    | true =>
     have HIX:=Lib.hid (ixOf_at HA.out HX.out ho)
     rw [ho] at HOF
     clear ho
     go_wp2_with (go_at_call 115;refine (HOF.out _ (Below.refl _ _)).mono ?_;rintro e w2 ⟨rfl,n2,rfl⟩)
     go_ret
     exact ⟨by rw [HIX.out];rfl,below_drewN HB.out _⟩
    | false =>
     have HO2:=Lib.hid ho
     rw [ho] at HOF
     clear ho
     go_wp2_with (go_at_call 115;refine (HOF.out _ (Below.refl _ _)).mono ?_;rintro e w2 ⟨rfl,n2,rfl⟩)
     go_roundg (gk - 1)
     case measure => have:=HKK.out;omega
     case rel =>
      refine ⟨k + 1,by have:=HKK.out;omega,by go_num,?_,below_drewN HB.out _⟩
      intro y hy
      rw [List.take_add_one,HX.out] at hy
      rcases List.mem_append.1 hy with h1 | h1
      · exact HA.out y h1
      · simp at h1;subst h1;exact HO2.out
  · obtain rfl:k = m:=by omega
    have HIX:Hid (ixOf lv fr K = -1):=Lib.hid (ixOf_take (by rw [List.take_of_length_le (by rw [← HM.out];exact Nat.le_refl _)] at hall;exact hall))
    have HB:=Lib.hid hb
    clear hall hb hk hlt
    go_wp2
    go_ret
    exact ⟨by rw [HIX.out];rfl,HB.out⟩
end Go.Proofs.YtjnidopbdjbbgaaGreat
end
/-
  The runs of the kept places; what a round leaves of an iterator's memory. No function of the program in sight.
-/
section
namespace Go.Proofs.YtjnidopbdjbbgaaGreat
open Go.RowKit
set_option linter.unusedVariables false
/-- How many kept places from the front on have x's level. -/
def nOf (lv:List Int) (x:Nat) (K:List Nat):Nat:=(K.takeWhile fun y => !offB lv x y).length
theorem nOf_spec (lv:List Int) (x:Nat):∀ K,(∀ y∈K.take (nOf lv x K),offB lv x y = false)∧(∀ y,K[nOf lv x K]? = some y→offB lv x y = true)∧nOf lv x K≤K.length:=by
 intro K
 induction K with
 | nil => simp [nOf]
 | cons y K ih =>
  cases h:offB lv x y with
  | true =>
   have:nOf lv x (y :: K) = 0:=by simp [nOf,h]
   rw [this]
   exact ⟨by simp,fun z hz => by simp at hz;subst hz;exact h,by simp⟩
  | false =>
   have:nOf lv x (y :: K) = nOf lv x K + 1:=by simp [nOf,h]
   rw [this]
   refine ⟨fun z hz => ?_,fun z hz => ih.2.1 z (by simpa using hz),by simp;exact ih.2.2⟩
   rw [List.take_succ_cons,List.mem_cons] at hz
   rcases hz with rfl | hz
   · exact h
   · exact ih.1 z hz
theorem nOf_pos (lv:List Int) (x:Nat) (K:List Nat):1≤nOf lv x (x :: K):=by
 have:offB lv x x = false:=by simp [offB]
 simp [nOf,this]
theorem ixOf_eq (lv:List Int) (x:Nat) (K:List Nat):ixOf lv x K = if nOf lv x K < K.length then (nOf lv x K:Int) else -1:=by
 obtain ⟨h1,h2,h3⟩:=nOf_spec lv x K
 by_cases h:nOf lv x K < K.length
 · rw [if_pos h]
   exact ixOf_at h1 (List.getElem?_eq_getElem h) (h2 _ (List.getElem?_eq_getElem h))
 · rw [if_neg h]
   refine ixOf_take fun y hy => h1 y ?_
   rw [List.take_of_length_le (by omega)]
   exact hy
/-- The run that begins at the front. -/
def runAt (lv:List Int) (x:Nat) (K:List Nat):Rn:=⟨x,(x :: K).getD (nOf lv x (x :: K) - 1) 0 + 1,lv.getD x 0⟩
def runsF (lv:List Int):Nat→List Nat→List Rn
 | 0,_ => []
 | _ + 1,[] => []
 | f + 1,x :: K => runAt lv x K :: runsF lv f ((x :: K).drop (nOf lv x (x :: K)))
def runsOf (lv:List Int) (K:List Nat):List Rn:=runsF lv K.length K
theorem runsF_nil (lv:List Int) (f:Nat):runsF lv f [] = []:=by cases f <;> rfl
theorem runsF_fuel (lv:List Int):∀ f K,K.length≤f→runsF lv f K = runsOf lv K:=by
 intro f
 induction f using Nat.strongRecOn with
 | _ f ih =>
  intro K hK
  cases K with
  | nil => rw [runsF_nil];rfl
  | cons x K =>
   cases f with
   | zero => simp at hK
   | succ f =>
    have hn:=nOf_pos lv x K
    have hd:((x :: K).drop (nOf lv x (x :: K))).length≤K.length:=by rw [List.length_drop,List.length_cons];omega
    show _ :: runsF lv f _ = runsF lv (K.length + 1) (x :: K)
    rw [runsF,ih f (by omega) _ (by simp at hK;omega)]
    rcases Nat.lt_or_ge K.length (f + 1) with h | h
    · rw [ih K.length h _ hd]
    · simp at hK
      omega
theorem runsOf_cons (lv:List Int) (x:Nat) (K:List Nat):runsOf lv (x :: K) = runAt lv x K :: runsOf lv ((x :: K).drop (nOf lv x (x :: K))):=by
 have hn:=nOf_pos lv x K
 show runsF lv (K.length + 1) (x :: K) = _
 rw [runsF,runsF_fuel lv K.length _ (by rw [List.length_drop,List.length_cons];omega)]
/-- A slice whose block is none of the caller's. -/
def Safe (Cb:World→Nat→Prop) (W:World) (a:Option Addr):Prop:=∀ p,a = some p→p.block < W.heap.size∧¬ Cb W p.block
theorem Safe.framed {Cb:World→Nat→Prop} {A B:World} {a:Option Addr} (h:Safe Cb A a) (hf:Framed Cb A B):Safe Cb B a:=fun p hp => by
 obtain ⟨h1,h2⟩:=h p hp
 refine ⟨Nat.lt_of_lt_of_le h1 hf.size,fun hc => ?_⟩
 rcases hf.grows _ hc with h3 | h3
 · exact h2 h3
 · omega
theorem Safe.below {Cb:World→Nat→Prop} {A B:World} {a:Option Addr} (h:Safe Cb A a) (hs:A.heap.size≤B.heap.size) (hm:∀ k,Cb B k→Cb A k):Safe Cb B a:=fun p hp => by
 obtain ⟨h1,h2⟩:=h p hp
 exact ⟨Nat.lt_of_lt_of_le h1 hs,fun hc => h2 (hm _ hc)⟩
theorem Cells.framed {Cb:World→Nat→Prop} {A B:World} {a:Option Addr} {xs:List Value} (h:Cells A a xs) (hs:Safe Cb A a) (hf:Framed Cb A B):Cells B a xs:=by
 intro hne
 obtain ⟨b,off,rfl,hc⟩:=h hne
 refine ⟨b,off,rfl,fun j u hu => ?_⟩
 have h1:=hc j u hu
 obtain ⟨o,ho,hoc⟩:=cells_of_cell h1
 have h2:=hf.keeps b o ho hoc (hs _ rfl).2
 simp only at ho
 rw [World.cell?_of_block (w:=A) (h2.trans ho.symm)]
 exact h1
theorem Framed.heap {Cb:World→Nat→Prop} {A B:World} {k:Nat} {cs:Array Value} {t:TypeId} (hf:Framed Cb A B) (h:A.heap[k]? = some (.cells cs t)) (hn:¬ Cb A k):B.heap[k]? = some (.cells cs t):=hf.keeps k _ h rfl hn
end Go.Proofs.YtjnidopbdjbbgaaGreat
end
/-
  Runs: it makes the iterator: walked.
-/
section
namespace Go.Proofs.YtjnidopbdjbbgaaGreat
open Go.RowKit
set_option linter.unusedVariables false
attribute [local go_sem] Oper.semAt_some
set_option maxHeartbeats 4000000 in
theorem runsF_any (w:World) (ca la:Option Addr) (n c m d:Nat):
 Calls Tryz.prog 71 #[.slice ca n c,.slice la m d] w fun e w' => e = .returned (.func (.func 113) #[] #[.pointer (some ⟨w.heap.size,0,none⟩),.pointer (some ⟨w.heap.size + 1,0,none⟩)])∧w' = (w.alloc (.cells #[.slice ca n c] 22)).alloc (.cells #[.slice la m d] 27):=by
 refine (callsIn_wide (n:=3)).1 ?_
 refine callsIn_of_wp Tryz.func71 rfl trivial ?_ rfl
 simp only [Tryz.ntmps71,List.size_toArray,List.length_cons,List.length_nil,Nat.reduceAdd,Nat.reduceSub,Array.replicate_succ,Array.replicate_zero,List.push_toArray,List.append_toArray,List.nil_append,List.cons_append]
 gi_wp2
 go_ret
 exact ⟨rfl,rfl⟩
end Go.Proofs.YtjnidopbdjbbgaaGreat
end
/-
  The runs cover the kept places, each once, in order. Plain laws: no walk.
-/
section
namespace Go.Proofs.YtjnidopbdjbbgaaGreat
set_option linter.unusedVariables false
theorem sorted_ext:∀ (A B:List Nat),A.Pairwise (· < ·)→B.Pairwise (· < ·)→(∀ i,i∈A ↔ i∈B)→A = B:=by
 intro A
 induction A with
 | nil =>
  intro B _ _ h
  cases B with
  | nil => rfl
  | cons b B => exact absurd ((h b).2 (by simp)) (by simp)
 | cons a A ih =>
  intro B hA hB h
  cases B with
  | nil => exact absurd ((h a).1 (by simp)) (by simp)
  | cons b B =>
   rw [List.pairwise_cons] at hA hB
   have hab:a = b:=by
    rcases List.mem_cons.1 ((h a).1 (by simp)) with e | e
    · exact e
    · rcases List.mem_cons.1 ((h b).2 (by simp)) with e' | e'
      · exact e'.symm
      · have:=hB.1 a e
        have:=hA.1 b e'
        omega
   subst hab
   congr 1
   refine ih B hA.2 hB.2 fun i => ⟨fun hi => ?_,fun hi => ?_⟩
   · rcases List.mem_cons.1 ((h i).1 (List.mem_cons_of_mem _ hi)) with e | e
     · have:=hA.1 i hi;omega
     · exact e
   · rcases List.mem_cons.1 ((h i).2 (List.mem_cons_of_mem _ hi)) with e | e
     · have:=hB.1 i hi;omega
     · exact e
theorem range_up (n:Nat):(List.range n).Pairwise (· < ·):=List.pairwise_lt_range
theorem keptOf_up (l:List Nat):(keptOf l).Pairwise (· < ·):=(range_up _).filter _
theorem mem_keptOf {l:List Nat} {i:Nat}:i∈keptOf l ↔ i < l.length∧rem (l.getD i 0) = false:=by
 unfold keptOf keptTo
 rw [List.mem_filter,List.mem_range]
 simp
theorem segTo_up (l:List Nat) (f k:Nat):(segTo l f k).Pairwise (· < ·):=(range_up _).filter _
theorem mem_segTo {l:List Nat} {f k i:Nat}:i∈segTo l f k ↔ i < k∧f≤i∧rem (l.getD i 0) = false:=by
 unfold segTo
 rw [List.mem_filter,List.mem_range]
 simp
/-- The kept places from some place on. -/
def Tail (l:List Nat) (K:List Nat):Prop:=K.Pairwise (· < ·)∧∀ x,K.head? = some x→∀ i,i∈K ↔ (x≤i∧i < l.length∧rem (l.getD i 0) = false)
theorem tail_all (l:List Nat):Tail l (keptOf l):=by
 refine ⟨keptOf_up l,fun x hx i => ?_⟩
 rw [mem_keptOf]
 refine ⟨fun h => ⟨?_,h.1,h.2⟩,fun h => ⟨h.2.1,h.2.2⟩⟩
 have hup:=keptOf_up l
 cases hk:keptOf l with
 | nil => rw [hk] at hx;cases hx
 | cons y K =>
  rw [hk] at hx hup
  simp at hx
  subst hx
  have hi:i∈keptOf l:=mem_keptOf.2 h
  rw [hk] at hi
  rcases List.mem_cons.1 hi with e | e
  · omega
  · have:=(List.pairwise_cons.1 hup).1 i e;omega
theorem up_get {K:List Nat} (h:K.Pairwise (· < ·)) {i j a b:Nat} (hi:K[i]? = some a) (hj:K[j]? = some b) (hij:i < j):a < b:=by
 obtain ⟨h1,rfl⟩:=List.getElem?_eq_some_iff.1 hi
 obtain ⟨h2,rfl⟩:=List.getElem?_eq_some_iff.1 hj
 exact List.pairwise_iff_getElem.1 h i j h1 h2 hij
theorem Tail.drop {l K:List Nat} (h:Tail l K) (n:Nat):Tail l (K.drop n):=by
 refine ⟨h.1.drop,fun x hx i => ?_⟩
 cases hk:K with
 | nil => rw [hk] at hx;simp at hx
 | cons y K1 =>
  have hm:=h.2 y (by rw [hk];rfl)
  have hxn:K[n]? = some x:=by rw [List.head?_drop] at hx;exact hx
  have hxK:=List.mem_of_getElem? hxn
  rw [← hk]
  constructor
  · intro hi
    have hiK:=List.mem_of_mem_drop hi
    have h1:=(hm i).1 hiK
    refine ⟨?_,h1.2⟩
    obtain ⟨j,hj⟩:=List.mem_iff_getElem?.1 hi
    rw [List.getElem?_drop] at hj
    rcases Nat.eq_zero_or_pos j with rfl | hj0
    · rw [Nat.add_zero,hxn] at hj;cases hj;exact Nat.le_refl _
    · have:=up_get h.1 hxn hj (by omega);omega
  · rintro ⟨h1,h2,h3⟩
    have hy:y≤x:=((hm x).1 hxK).1
    have hiK:=(hm i).2 ⟨by omega,h2,h3⟩
    obtain ⟨j,hj⟩:=List.mem_iff_getElem?.1 hiK
    rcases Nat.lt_or_ge j n with hjn | hjn
    · have:=up_get h.1 hj hxn hjn;omega
    · refine List.mem_iff_getElem?.2 ⟨j - n,?_⟩
      rw [List.getElem?_drop,Nat.add_sub_cancel' hjn]
      exact hj
/-- The places of the run at the front. -/
theorem Tail.seg {l:List Nat} {lv:List Int} {x:Nat} {K:List Nat} (h:Tail l (x :: K)):segOf l (runAt lv x K) = (x :: K).take (nOf lv x (x :: K))∧(runAt lv x K).f < (runAt lv x K).t∧(runAt lv x K).t≤l.length:=by
 obtain ⟨nn,hnn⟩:∃ nn,nn = nOf lv x (x :: K):=⟨_,rfl⟩
 have hn1:=nOf_pos lv x K
 obtain ⟨_,_,hnL⟩:=nOf_spec lv x (x :: K)
 obtain ⟨y,hy⟩:∃ y,(x :: K)[nn - 1]? = some y:=⟨_,List.getElem?_eq_getElem (by omega)⟩
 have hm:=h.2 x rfl
 have hyK:=(hm y).1 (List.mem_of_getElem? hy)
 have hra:runAt lv x K = ⟨x,y + 1,lv.getD x 0⟩:=by
  unfold runAt
  rw [← hnn,List.getD_eq_getElem?_getD,hy]
  rfl
 rw [hra,← hnn]
 rw [← hnn] at hn1 hnL
 refine ⟨?_,by show x < y + 1;omega,by show y + 1≤l.length;omega⟩
 refine sorted_ext _ _ (segTo_up l x (y + 1)) (h.1.take) fun i => ?_
 show i∈segTo l x (y + 1) ↔ _
 rw [mem_segTo]
 constructor
 · rintro ⟨h1,h2,h3⟩
   have hiK:=(hm i).2 ⟨h2,by omega,h3⟩
   obtain ⟨j,hj⟩:=List.mem_iff_getElem?.1 hiK
   rcases Nat.lt_or_ge j nn with hjn | hjn
   · refine List.mem_iff_getElem?.2 ⟨j,?_⟩
     rw [List.getElem?_take,if_pos hjn]
     exact hj
   · have:=up_get h.1 hy hj (by omega);omega
 · intro hi
   have hiK:=List.mem_of_mem_take hi
   have h1:=(hm i).1 hiK
   refine ⟨?_,h1.1,h1.2.2⟩
   obtain ⟨j,hj⟩:=List.mem_iff_getElem?.1 hi
   rw [List.getElem?_take] at hj
   split at hj
   · rename_i hjn
     rcases Nat.lt_or_ge j (nn - 1) with h2 | h2
     · have:=up_get h.1 hj hy h2;omega
     · have:j = nn - 1:=by omega
       subst this
       rw [hy] at hj
       cases hj
       omega
   · cases hj
/-- **The runs' places, one after the other, are the kept places.** -/
theorem runs_cover (l:List Nat) (lv:List Int):∀ K,Tail l K→placesOf l (runsOf lv K) = K∧(∀ r∈runsOf lv K,r.f < r.t∧r.t≤l.length)∧(runsOf lv K).length≤K.length:=by
 intro K
 obtain ⟨n,hn⟩:∃ n,n = K.length:=⟨_,rfl⟩
 induction n using Nat.strongRecOn generalizing K with
 | _ n ih =>
  intro h
  cases K with
  | nil => exact ⟨rfl,fun r hr => by simp [runsOf,runsF] at hr,by simp [runsOf,runsF]⟩
  | cons x K =>
   have hn1:=nOf_pos lv x K
   obtain ⟨hs,h2,h3⟩:=h.seg (lv:=lv)
   have hd:((x :: K).drop (nOf lv x (x :: K))).length < n:=by rw [List.length_drop,hn,List.length_cons];omega
   obtain ⟨i1,i2,i3⟩:=ih _ hd _ rfl (h.drop _)
   rw [runsOf_cons]
   refine ⟨?_,fun r hr => ?_,?_⟩
   · show segOf l _ ++ placesOf l _ = _
     rw [hs,i1,List.take_append_drop]
   · rcases List.mem_cons.1 hr with rfl | hr
     · exact ⟨h2,h3⟩
     · exact i2 r hr
   · rw [List.length_cons]
     omega
end Go.Proofs.YtjnidopbdjbbgaaGreat
end
/-
  Runs in order; chains of runs. Plain laws: no walk.
-/
section
namespace Go.Proofs.YtjnidopbdjbbgaaGreat
set_option linter.unusedVariables false
theorem runs_front (lv:List Int):∀ (n:Nat) (K:List Nat),K.length≤n→∀ r∈runsOf lv K,r.f∈K∧r.lv = lv.getD r.f 0:=by
 intro n
 induction n with
 | zero =>
  intro K hK r hr
  have:K = []:=List.length_eq_zero_iff.1 (by omega)
  subst this
  simp [runsOf,runsF] at hr
 | succ n ih =>
  intro K hK r hr
  cases K with
  | nil => simp [runsOf,runsF] at hr
  | cons x K =>
   rw [runsOf_cons] at hr
   have hn1:=nOf_pos lv x K
   rcases List.mem_cons.1 hr with rfl | hr
   · exact ⟨by simp [runAt],rfl⟩
   · obtain ⟨h1,h2⟩:=ih _ (by rw [List.length_drop];simp at hK ⊢;omega) r hr
     exact ⟨List.mem_of_mem_drop h1,h2⟩
/-- Runs stand in order, apart. -/
theorem runs_up (l:List Nat) (lv:List Int):∀ (n:Nat) (K:List Nat),K.length≤n→Tail l K→(runsOf lv K).Pairwise fun a b => a.t≤b.f:=by
 intro n
 induction n with
 | zero =>
  intro K hK _
  have:K = []:=List.length_eq_zero_iff.1 (by omega)
  subst this
  simp [runsOf,runsF]
 | succ n ih =>
  intro K hK h
  cases K with
  | nil => simp [runsOf,runsF]
  | cons x K =>
   rw [runsOf_cons,List.pairwise_cons]
   have hn1:=nOf_pos lv x K
   obtain ⟨_,_,hnL⟩:=nOf_spec lv x (x :: K)
   have hl:((x :: K).drop (nOf lv x (x :: K))).length≤n:=by rw [List.length_drop];simp at hK ⊢;omega
   refine ⟨fun r hr => ?_,ih _ hl (h.drop _)⟩
   obtain ⟨h1,_⟩:=runs_front lv n _ hl r hr
   obtain ⟨y,hy⟩:∃ y,(x :: K)[nOf lv x (x :: K) - 1]? = some y:=⟨_,List.getElem?_eq_getElem (by omega)⟩
   have ht:(runAt lv x K).t = y + 1:=by
    unfold runAt
    rw [List.getD_eq_getElem?_getD,hy]
    rfl
   obtain ⟨j,hj⟩:=List.mem_iff_getElem?.1 h1
   rw [List.getElem?_drop] at hj
   have:=up_get h.1 hy hj (by omega)
   omega
/-- The run that begins at a place. -/
def startOf (R:List Rn) (p:Int):Option Nat:=R.findIdx? fun r => (r.f:Int) == p
theorem startOf_some {R:List Rn} {p:Int} {k:Nat} (h:startOf R p = some k):∃ r,R[k]? = some r∧(r.f:Int) = p:=by
 unfold startOf at h
 rw [List.findIdx?_eq_some_iff_getElem] at h
 obtain ⟨hk,h1,_⟩:=h
 exact ⟨R[k],List.getElem?_eq_getElem hk,by simpa using h1⟩
/-- The run behind a run: where it ends in an isolate's beginning, the run at the isolate's end. -/
def nextOf (l:List Nat) (M:List Int) (R:List Rn) (i:Nat):Option Nat:=
 match R[i]? with
 | none => none
 | some r => if ([20,21,22]:List Nat).contains (l.getD (r.t - 1) 0) = true then startOf R (M.getD (r.t - 1) 0) else none
theorem next_up {l:List Nat} {M:List Int} {R:List Rn} {i k:Nat} (hR:R.Pairwise fun a b => a.t≤b.f) (hf:∀ r∈R,r.f < r.t) (hM:∀ j,([20,21,22]:List Nat).contains (l.getD j 0) = true→(j:Int) < M.getD j 0) (h:nextOf l M R i = some k):i < k:=by
 unfold nextOf at h
 cases hr:R[i]? with
 | none => rw [hr] at h;cases h
 | some r =>
  rw [hr] at h
  simp only at h
  split at h
  · rename_i hb
    obtain ⟨s,hs,hp⟩:=startOf_some h
    have h1:=hM _ hb
    have h2:=hf r (List.mem_of_getElem? hr)
    rw [← hp] at h1
    rcases Nat.lt_trichotomy i k with h3 | h3 | h3
    · exact h3
    · subst h3
      rw [hr] at hs
      cases hs
      omega
    · obtain ⟨e1,rfl⟩:=List.getElem?_eq_some_iff.1 hr
      obtain ⟨e2,rfl⟩:=List.getElem?_eq_some_iff.1 hs
      have:=List.pairwise_iff_getElem.1 hR k i e2 e1 h3
      have:=hf _ (List.getElem_mem e2)
      omega
  · cases h
/-- A chain of runs. -/
def chainOf (nx:Nat→Option Nat) (R:List Rn):Nat→Nat→List Rn
 | 0,_ => []
 | f + 1,i => match R[i]? with
  | none => []
  | some r => r :: (match nx i with
   | none => []
   | some k => chainOf nx R f k)
theorem chain_sub {nx:Nat→Option Nat} {R:List Rn} (hnx:∀ i k,nx i = some k→i < k):∀ f i,(chainOf nx R f i).Sublist (R.drop i):=by
 intro f
 induction f with
 | zero => intro i;exact List.nil_sublist _
 | succ f ih =>
  intro i
  rw [chainOf]
  cases hr:R[i]? with
  | none => exact List.nil_sublist _
  | some r =>
   obtain ⟨hi,hri⟩:=List.getElem?_eq_some_iff.1 hr
   rw [List.drop_eq_getElem_cons hi,hri]
   refine List.Sublist.cons_cons r ?_
   cases hk:nx i with
   | none => exact List.nil_sublist _
   | some k =>
    have hik:=hnx i k hk
    refine (ih k).trans ?_
    have:R.drop k = (R.drop (i + 1)).drop (k - (i + 1)):=by rw [List.drop_drop];congr 1;omega
    rw [this]
    exact List.drop_sublist _ _
theorem places_sub {l:List Nat} {S R:List Rn} (h:S.Sublist R):(placesOf l S).Sublist (placesOf l R):=by
 induction h with
 | slnil => exact List.Sublist.refl _
 | cons a _ ih => exact ih.trans (List.sublist_append_right _ _)
 | cons_cons a _ ih => exact (List.Sublist.refl (segOf l a)).append ih
theorem drop_sub {l:List Nat} (R:List Rn) (i:Nat):(placesOf l (R.drop i)).Sublist (placesOf l R):=places_sub (List.drop_sublist _ _)
/-- A chain's places are kept places, in order. -/
theorem chain_places {nx:Nat→Option Nat} {l:List Nat} {lv:List Int} (hnx:∀ i k,nx i = some k→i < k) (f i:Nat):(placesOf l (chainOf nx (runsOf lv (keptOf l)) f i)).Sublist (keptOf l):=by
 have h1:=(places_sub (l:=l) (chain_sub (R:=runsOf lv (keptOf l)) hnx f i)).trans (drop_sub _ i)
 rw [(runs_cover l lv _ (tail_all l)).1] at h1
 exact h1
theorem chain_first {nx:Nat→Option Nat} {R:List Rn} {f i:Nat} {r:Rn} (hr:R[i]? = some r):(chainOf nx R (f + 1) i)[0]? = some r:=by
 rw [chainOf,hr]
 rfl
/-- What is asked of the runs of a chain. -/
theorem chain_ok {nx:Nat→Option Nat} {l:List Nat} {lv:List Int} (hnx:∀ i k,nx i = some k→i < k) (f i:Nat) {r:Rn} (hr:(runsOf lv (keptOf l))[i]? = some r):
 (∀ s∈chainOf nx (runsOf lv (keptOf l)) (f + 1) i,s.f≤s.t∧s.t≤l.length)∧(chainOf nx (runsOf lv (keptOf l)) (f + 1) i).length≤l.length∧0 < (placesOf l (chainOf nx (runsOf lv (keptOf l)) (f + 1) i)).length ∧
 (∀ x∈placesOf l (chainOf nx (runsOf lv (keptOf l)) (f + 1) i),x < l.length)∧r.f∈keptOf l∧r.lv = lv.getD r.f 0∧(placesOf l (chainOf nx (runsOf lv (keptOf l)) (f + 1) i)).Pairwise (· < ·):=by
 obtain ⟨c1,c2,c3⟩:=runs_cover l lv _ (tail_all l)
 have hsub:=(chain_sub (R:=runsOf lv (keptOf l)) hnx (f + 1) i).trans (List.drop_sublist _ _)
 have hpl:=chain_places (l:=l) (lv:=lv) hnx (f + 1) i
 have hkl:(keptOf l).length≤l.length:=keptTo_le l l.length
 obtain ⟨h1,h2⟩:=runs_front lv _ _ (Nat.le_refl _) r (List.mem_of_getElem? hr)
 refine ⟨fun s hs => ?_,?_,?_,fun x hx => (mem_keptOf.1 (hpl.subset hx)).1,h1,h2,List.Pairwise.sublist hpl (keptOf_up l)⟩
 · have:=c2 s (hsub.subset hs)
   omega
 · have:=hsub.length_le
   omega
 · have hfst:=chain_first (nx:=nx) (f:=f) hr
   cases hc:chainOf nx (runsOf lv (keptOf l)) (f + 1) i with
   | nil => rw [hc] at hfst;cases hfst
   | cons s S =>
    rw [hc] at hfst
    simp at hfst
    subst hfst
    have hm:s.f∈segOf l s:=by
     unfold segOf
     rw [mem_segTo]
     have:=c2 s (List.mem_of_getElem? hr)
     exact ⟨this.1,Nat.le_refl _,(mem_keptOf.1 h1).2⟩
    have:placesOf l (s :: S) = segOf l s ++ placesOf l S:=rfl
    rw [this,List.length_append]
    have:=List.length_pos_of_mem hm
    omega
end Go.Proofs.YtjnidopbdjbbgaaGreat
end
/-
  The runs that are gathered in a slice behind a box: what a round of the range leaves. No function of the program in sight.
-/
section
namespace Go.Proofs.YtjnidopbdjbbgaaGreat
open Go.RowKit
set_option linter.unusedVariables false
/-- The runs so far lie behind a box. -/
structure RunsI (w0:World) (B rb:Nat) (pre:List Rn) (W:World):Prop where
 box:∃ a c,W.heap[rb]? = some (.cells #[.slice a pre.length c] 135)∧Own W B 3 a pre.length c (runsV pre)∧rb ∉ blk a∧(a = none∨0 < c)
 below:Below B w0 W
 ge:B≤rb
 bw:B≤w0.heap.size
/-- The blocks of the box and of the slice that it holds. -/
def CbR (rb:Nat) (W:World) (k:Nat):Prop:=∃ a n c,W.heap[rb]? = some (.cells #[.slice a n c] 135)∧(k = rb∨k∈blk a)
theorem RunsI.adm {w0:World} {B rb:Nat} {pre:List Rn} {A C:World} (h:RunsI w0 B rb pre A) (hb:Below A.heap.size A C):RunsI w0 B rb pre C∧∀ k,CbR rb C k→CbR rb A k:=by
 obtain ⟨a,c,h1,h2,h3,h4⟩:=h.box
 have hx:=hb.block rb (Array.getElem?_eq_some_iff.1 h1).1
 refine ⟨⟨⟨a,c,hx.trans h1,h2.below hb,h3,h4⟩,h.below.trans (hb.mono (Nat.le_trans h.bw h.below.size)),h.ge,h.bw⟩,?_⟩
 rintro k ⟨a2,n2,c2,h5,h6⟩
 exact ⟨a2,n2,c2,hx ▸ h5,h6⟩
theorem RunsI.lt {w0:World} {B rb:Nat} {pre:List Rn} {A:World} (h:RunsI w0 B rb pre A):∀ k,CbR rb A k→k < A.heap.size:=by
 rintro k ⟨a2,n2,c2,h5,h6⟩
 obtain ⟨a,c,h1,h2,h3,h4⟩:=h.box
 rw [h1] at h5
 simp at h5
 obtain ⟨rfl,_,_⟩:=h5
 rcases h6 with rfl | h6
 · exact (Array.getElem?_eq_some_iff.1 h1).1
 · exact (h2.blk_lt k h6).2
theorem CbR.framed (rb:Nat) (A C:World) (l:Nat) (o o':Obj) (hf:Framed (CbR rb) A C) (hl:C.heap[l]? = some o) (hc:o.isCells = false) (hc':o'.isCells = false):Framed (CbR rb) A (C.putObj l o'):=by
 have hk:∀ k (p:Obj),C.heap[k]? = some p→p.isCells = true→(C.putObj l o').heap[k]? = some p:=fun k p hp hpc => by
  by_cases hkl:k = l
  · subst hkl
    rw [hl] at hp
    cases hp
    rw [hc] at hpc
    cases hpc
  · rw [World.putObj_heap_other hkl]
    exact hp
 refine ⟨by rw [World.putObj_size];exact hf.size,fun k p hp hpc hn => hk k p (hf.keeps k p hp hpc hn) hpc,?_⟩
 rintro k ⟨a,n,c,h5,h6⟩
 refine hf.grows k ⟨a,n,c,?_,h6⟩
 by_cases hlr:rb = l
 · subst hlr
   rw [World.putObj_heap_same (Array.getElem?_eq_some_iff.1 hl).1] at h5
   cases h5
   cases hc'
 · rw [World.putObj_heap_other hlr] at h5
   exact h5
theorem RunsI.own (w0:World) (B rb s:Nat) (hs:B≤s):OwnFrom s (RunsI w0 B rb):=by
 intro pre A C row h hg hr
 have hr2:∀ r,row = some r→∃ o:Obj,A.heap[r]? = some o∧o.isCells = false:=fun r e => (hr r e).2
 obtain ⟨a,c,h1,h2,h3,h4⟩:=h.box
 exact ⟨⟨a,c,cells_others h1 hg hr2,h2.others hg hr2,h3,h4⟩,h.below.grown hg (Nat.le_trans h.bw h.below.size) (fun k e => by have:=(hr k e).1;omega),h.ge,h.bw⟩
/-- A round: the loop's variable is laid, the run is put on. -/
theorem runs_round {w0 W W2 w4:World} {B rb l c c':Nat} {pre:List Rn} {r:Rn} {a a':Option Addr} {O1 O3:Obj} (hI:RunsI w0 B rb pre W) (hg:(W.alloc O1).grownBy W2 (some l)) (hlB:B≤l) (hl:∃ o,(W.alloc O1).heap[l]? = some o∧o.isCells = false)
 (hbx:W.heap[rb]? = some (.cells #[.slice a pre.length c] 135)) (hown:Own W B 3 a pre.length c (runsV pre)) (hra:rb ∉ blk a) (hac:a = none∨0 < c)
 (h4:Own w4 B 3 a' (pre.length + 1) c' (runsV pre ++ r.cells)) (hap:Apped (W2.alloc O3) w4 a a'):
 KeepsOthers W2 (w4.setCell ⟨rb,0,none⟩ (.slice a' (pre.length + 1) c'))∧RunsI w0 B rb (pre ++ [r]) (w4.setCell ⟨rb,0,none⟩ (.slice a' (pre.length + 1) c'))∧Framed (CbR rb) W (w4.setCell ⟨rb,0,none⟩ (.slice a' (pre.length + 1) c')):=by
 have hBW:=Nat.le_trans hI.bw hI.below.size
 have hr2:∀ r,some l = some r→∃ o:Obj,(W.alloc O1).heap[r]? = some o∧o.isCells = false:=fun r e => by cases e;exact hl
 have hs2:=hg.size
 simp only [World.size_alloc] at hs2
 have hs4:=hap.grown.size
 simp only [World.size_alloc] at hs4
 have hrl:=(Array.getElem?_eq_some_iff.1 hbx).1
 have k2:∀ k (o:Obj),W.heap[k]? = some o→o.isCells = true→W2.heap[k]? = some o:=fun k o ho hc => by
  have h1:(W.alloc O1).heap[k]? = some o:=(Below.heap_alloc W O1 k (Array.getElem?_eq_some_iff.1 ho).1).trans ho
  exact (grownBy_keeps_cells hg hr2 h1 hc).trans h1
 have k4:∀ k (o:Obj),W.heap[k]? = some o→o.isCells = true→k ∉ blk a→w4.heap[k]? = some o:=fun k o ho hc hn => by
  have h1:=k2 k o ho hc
  exact (hap.heap (Array.getElem?_eq_some_iff.1 h1).1 hn).trans h1
 have hb4:=k4 rb _ hbx rfl hra
 have own2:Own W2 B 3 a pre.length c (runsV pre):=(hown.alloc O1).others hg hr2
 have hra':rb ∉ blk a':=fun hm => by
  rcases hap.blk hm with h1 | h1
  · exact hra h1
  · simp at h1;omega
 have hset:=heap_set hb4 (.slice a' (pre.length + 1) c') (j:=0)
 refine ⟨?_,⟨⟨a',c',?_,?_,hra',.inr (by have:=h4.le;omega)⟩,?_,hI.ge,hI.bw⟩,⟨by simp;omega,fun k o ho hc hn => ?_,?_⟩⟩
 · refine ((KeepsOthers.alloc W2 O3).trans (hap.others (own2.alloc O3) ?_)).trans (KeepsOthers.setCell _ _ _)
   rcases hac with h | h
   · exact .inr h
   · exact .inl (by omega)
 · rw [hset,List.length_append];rfl
 · have:=h4.stored_other ⟨rb,0,none⟩ (.slice a' (pre.length + 1) c') (fun g hg e => hra' (by rw [blk_mem,hg];show some g = some rb;rw [show g = rb from e]))
   rw [runsV_snoc,List.length_append]
   exact this
 · have b2:Below B w0 W2:=(hI.below.alloc hBW O1).grown hg (by simp;omega) (fun k e => by cases e;exact hlB)
   exact ((b2.alloc (by omega) O3).trans (hap.below (own2.alloc O3) (by simp;omega))).setCell (p:=⟨rb,0,none⟩) hI.ge _
 · have hne:k≠rb:=fun e => hn ⟨a,pre.length,c,hbx,.inl e⟩
   have hna:k ∉ blk a:=fun e => hn ⟨a,pre.length,c,hbx,.inr e⟩
   exact (Below.heap_setCell w4 ⟨rb,0,none⟩ _ k hne).trans (k4 k o ho hc hna)
 · rintro k ⟨a2,n2,c2,h5,h6⟩
   rw [hset] at h5
   simp at h5
   obtain ⟨rfl,_,_⟩:=h5
   rcases h6 with rfl | h6
   · exact .inl ⟨a,pre.length,c,hbx,.inl rfl⟩
   · rcases hap.blk h6 with h1 | h1
     · exact .inl ⟨a,pre.length,c,hbx,.inr h1⟩
     · simp at h1
       exact .inr (by omega)
theorem seqs_start {wr W0:World} {ca la:Option Addr} {n cc lc:Nat} {xs ys:List Value} (hW:W0 = ((wr.alloc (.cells #[.slice none 0 0] 135)).alloc (.cells #[.slice ca n cc] 22)).alloc (.cells #[.slice la n lc] 27)) (hc:Cells wr ca xs) (hl:Cells wr la ys):
 RunsI wr wr.heap.size wr.heap.size [] W0∧∀ B,Below W0.heap.size W0 B→B.heap[wr.heap.size + 1]? = some (.cells #[.slice ca n cc] 22)∧B.heap[wr.heap.size + 2]? = some (.cells #[.slice la n lc] 27)∧Cells B ca xs∧Cells B la ys:=by
 have hs:W0.heap.size = wr.heap.size + 3:=by rw [hW];simp
 have hb:Below wr.heap.size wr W0:=by rw [hW];exact (((Below.refl _ _).alloc (Nat.le_refl _) _).alloc (by simp) _).alloc (by simp;omega) _
 have h0:W0.heap[wr.heap.size]? = some (.cells #[.slice none 0 0] 135):=by
  rw [hW]
  exact (Below.heap_alloc _ _ _ (by simp;omega)).trans ((Below.heap_alloc _ _ _ (by simp)).trans (heap_alloc_new _ _))
 have h1:W0.heap[wr.heap.size + 1]? = some (.cells #[.slice ca n cc] 22):=by
  rw [hW]
  refine (Below.heap_alloc _ _ _ (by simp)).trans ?_
  have:=heap_alloc_new (wr.alloc (.cells #[.slice none 0 0] 135)) (.cells #[.slice ca n cc] 22)
  rwa [World.size_alloc] at this
 have h2:W0.heap[wr.heap.size + 2]? = some (.cells #[.slice la n lc] 27):=by
  rw [hW]
  have:=heap_alloc_new ((wr.alloc (.cells #[.slice none 0 0] 135)).alloc (.cells #[.slice ca n cc] 22)) (.cells #[.slice la n lc] 27)
  rwa [World.size_alloc,World.size_alloc] at this
 refine ⟨⟨⟨none,0,h0,Own.nil _ _ _,by simp [blk_none],.inl rfl⟩,hb,Nat.le_refl _,Nat.le_refl _⟩,fun B hB => ⟨(hB.block _ (by omega)).trans h1,(hB.block _ (by omega)).trans h2,?_,?_⟩⟩
 · exact hc.below (hb.trans (hB.mono (by omega)))
 · exact hl.below (hb.trans (hB.mono (by omega)))
section
variable {F:Fence} {N:Nat} {P:Program} {w:World}
/-- append of one element of three cells, within a round. -/
theorem wpListIn_push3 {ops:Array Oper} {rest:List Oper} {o:Oper} {act:Act} {Q:Exit→Act→World→Prop} (hgd:o.guard = none) (s x:Operand) (t:TypeId)
 (ho:o.op = .call { callee:=.builtin .append,args:=#[s,x],argTypes:=#[t,t] })
 (e:TypeId) (i:TypeInfo) (z:Value) (bytes:Nat) (ht:P.underlying t = some (.slice e)) (hi:P.info? e = some i) (hz:i.zero = some z) (hsize:i.size = 3) (hby:i.bytes = bytes) (hzs:z.cells.size = 3) (hz1:∀ u∈z.cells.toList,u.oneCell' = true)
 (B:Nat) (a:Option Addr) (n c:Nat) (xs:List Value) (hs:act.eval s = .slice a n c) (W:World) (v1 v2 v3:Value) (hw:w = W.alloc (.cells #[v1,v2,v3] e)) (hown:Own W B 3 a n c xs)
 (b:Nat) (hx:act.eval x = .slice (some ⟨b,0,none⟩) 1 1) (hb:b = W.heap.size) (hv:∀ u∈[v1,v2,v3],u.oneCell' = true)
 (h63:n≤1099511627776) (hby8:bytes≤64) (hB:B≤W.heap.size)
 (h:∀ a' c' w',Own w' B 3 a' (n + 1) c' (xs ++ [v1,v2,v3])→Apped (W.alloc (.cells #[v1,v2,v3] e)) w' a a'→wpListIn F N P ops Q rest (act.put o.dst (.slice a' (n + 1) c')) w'):wpListIn F N P ops Q (o :: rest) act w:=by
 subst hw
 subst hb
 have hbb:(n + 1) * bytes≤140737488355328:=by
  have:(n + 1) * bytes≤(1099511627776 + 1) * 64:=Nat.mul_le_mul (by omega) hby8
  omega
 obtain ⟨a',c',w',hr,h2,h3⟩:=run_app (P:=P) (w:=W.alloc (.cells #[v1,v2,v3] e)) t t o.type e i z 3 bytes ht hi hz hsize hby hzs hz1 B a n c xs (hown.alloc _) (.slice (some ⟨W.heap.size,0,none⟩) 1 1) 1 [v1,v2,v3] (Src.ofCells ht (some ⟨W.heap.size,0,none⟩) 1 1 _ rfl (Cells.new W [v1,v2,v3] e) hv (by decide)) (by simp only [maxLen];omega) hbb (by simp;omega)
 refine wpListIn_plain hgd fun K hK' => ?_
 unfold Oper.wpIn
 refine ⟨?_,?_⟩
 · simp [Oper.about,ho,resolve,Target.leads,Sem.run_pure]
 · rw [Oper.semAt_plain F _ _ (by rw [ho];intro c hc';cases hc')]
   simp [execOp,ho,resolve,invoke,builtin,hs,hx,hr,Result.andThen]
   exact hK' _ _ (h a' c' w' h2 h3)
end
end Go.Proofs.YtjnidopbdjbbgaaGreat
end
