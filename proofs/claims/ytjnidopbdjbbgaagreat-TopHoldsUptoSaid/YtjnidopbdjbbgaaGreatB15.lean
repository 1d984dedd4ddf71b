/-
  The reference's Step, of any class: walked.
-/
import Derived.Test.YtjnidopbdjbbgaaGreatB14
namespace Go.Proofs.YtjnidopbdjbbgaaGreat
open Go.RowKit
set_option linter.unusedVariables false
attribute [local go_sem] field196_0 field196_2
theorem drop_pre {pre l:List Ent} (h:∀ x∈pre,x.iso = false):(pre ++ l).dropWhile (fun e => !e.iso) = l.dropWhile (fun e => !e.iso):=by
 induction pre with
 | nil => rfl
 | cons x pre ih =>
  rw [List.cons_append,List.dropWhile_cons,if_pos (by rw [h x (by simp)];rfl)]
  exact ih fun y hy => h y (List.mem_cons_of_mem _ hy)
/-- What the loop over the entries holds. -/
structure PopI (w:World) (B base N pc:Nat) (s:St) (pa:Option Addr) (l:List Ent) (k:Nat) (wr:World):Prop where
 len:l.length = k
 pre:∃ pre,s.l = pre ++ l∧∀ x∈pre,x.iso = false
 iso:0 < l.countP fun e => e.iso
 box:wr.heap[N]? = some (.cells #[.int .i8 base,.slice pa k pc,.int .i64 s.isos,.int .i64 0,.int .i64 s.valid] 155)
 res:wr.heap[N + 1]? = some (.cells #[.int .i8 0,.slice none 0 0,.int .i64 0,.int .i64 0,.int .i64 0] 155)
 own:Own wr B 3 pa k pc (entsV l)
 below:Below w.heap.size w wr
theorem PopI.later {w:World} {B base N pc:Nat} {s:St} {pa:Option Addr} {l:List Ent} {k:Nat} {wr w2:World} (h:PopI w B base N pc s pa l k wr) (hb:Below wr.heap.size wr w2):PopI w B base N pc s pa l k w2:=
 ⟨h.len,h.pre,h.iso,(hb.block N (Array.getElem?_eq_some_iff.1 h.box).1).trans h.box,(hb.block (N + 1) (Array.getElem?_eq_some_iff.1 h.res).1).trans h.res,h.own.below hb,h.below.trans (hb.mono h.below.size)⟩
theorem PopI.pop {w:World} {B base N pc:Nat} {s:St} {pa:Option Addr} {e:Ent} {l:List Ent} {k:Nat} {wr:World} (h:PopI w B base N pc s pa (e :: l) k wr) (he:e.iso = false) (hN:w.heap.size≤N) (hap:∀ g,pa = some ⟨g,0,none⟩→g≠N):PopI w B base N pc s pa l (k - 1) (wr.setCell ⟨N,1,none⟩ (.slice pa (k - 1) pc)):=by
 have hk:=h.len
 rw [List.length_cons] at hk
 refine ⟨by omega,?_,?_,set1_of5 h.box _,heap_other h.res (by omega) _,?_,h.below.setCell (p:=⟨N,1,none⟩) hN _⟩
 · obtain ⟨pre,h1,h2⟩:=h.pre
   refine ⟨pre ++ [e],by rw [h1];simp,fun x hx => ?_⟩
   rcases List.mem_append.1 hx with hx | hx
   · exact h2 x hx
   · simp at hx;rw [hx];exact he
 · have:=h.iso
   rw [List.countP_cons,he] at this
   simpa using this
 · have h1:=(h.own.prefix (k - 1) (Nat.sub_le _ _)).eqL (by rw [show k - 1 = l.length from by omega,entsV_take])
   exact h1.stored_other ⟨N,1,none⟩ _ hap
theorem PopI.last {w:World} {B base N pc:Nat} {s:St} {pa:Option Addr} {e:Ent} {l:List Ent} {k:Nat} {wr:World} (h:PopI w B base N pc s pa (e :: l) k wr) (hN:w.heap.size≤N) (hap:∀ g,pa = some ⟨g,0,none⟩→g≠N) (va:Int):
 ((wr.setCell ⟨N,1,none⟩ (.slice pa (k - 1) pc)).setCell ⟨N,4,none⟩ (.int .i64 va)).heap[N]? = some (.cells #[.int .i8 base,.slice pa (k - 1) pc,.int .i64 s.isos,.int .i64 0,.int .i64 va] 155) ∧
 ((wr.setCell ⟨N,1,none⟩ (.slice pa (k - 1) pc)).setCell ⟨N,4,none⟩ (.int .i64 va)).heap[N + 1]? = some (.cells #[.int .i8 0,.slice none 0 0,.int .i64 0,.int .i64 0,.int .i64 0] 155) ∧
 Own ((wr.setCell ⟨N,1,none⟩ (.slice pa (k - 1) pc)).setCell ⟨N,4,none⟩ (.int .i64 va)) B 3 pa (k - 1) pc (entsV l)∧Below w.heap.size w ((wr.setCell ⟨N,1,none⟩ (.slice pa (k - 1) pc)).setCell ⟨N,4,none⟩ (.int .i64 va)):=by
 have hk:=h.len
 rw [List.length_cons] at hk
 have h1:=(h.own.prefix (k - 1) (Nat.sub_le _ _)).eqL (by rw [show k - 1 = l.length from by omega,entsV_take])
 exact ⟨set4_of5 (set1_of5 h.box _) _,heap_other (heap_other h.res (by omega) _) (by omega) _,(h1.stored_other ⟨N,1,none⟩ _ hap).stored_other ⟨N,4,none⟩ _ hap,(h.below.setCell (p:=⟨N,1,none⟩) hN _).setCell (p:=⟨N,4,none⟩) hN _⟩
set_option maxRecDepth 20000 in
set_option maxHeartbeats 8000000 in
theorem rstep_23v (w V:World) (B base N:Nat) (s:St) (pa:Option Addr) (pc auto:Nat) (hp:RPre w V B base N s pa pc) (hb1:base≤1) (hok:Ok base s) (hl:s.l.length≤1048590) (hi:s.isos≤1048590) (he:s.embs≤1048590) (hz:s.isos = 0) (hz3:0 < s.valid):
 Calls Tryz.prog 89 #[.agg #[.int .i8 base,.slice pa s.l.length pc,.int .i64 s.isos,.int .i64 s.embs,.int .i64 s.valid],.int .u8 23,.int .i8 auto] w (RStepP w B base s pa):=by
 obtain ⟨e,r,n,kp,hs,htop,hlev,hn,hrn,HP,HBX,HOW,HNX,HRM,HWI,HPL,HLA,HEQ,HNN,HS⟩:=rall hp hb1 hok hl
 rw [← hn]
 have HNEXT:=Lib.hid (next_23 s auto)
 rw [if_neg (by omega),if_pos hz3] at HNEXT
 have HOK:=Lib.hid (hok.next (by omega) 23 auto)
 have HCNT:=Lib.hid (next_counts s 23 auto)
 have HNL:=Lib.hid hn
 have hva:=valid_le hok
 have hx0:=(HBX.out V (Below.refl _ _)).1
 have c2:=cells_at hx0 2
 have c4:=cells_at hx0 4
 have f3:=frozen_at hx0 3
 have c3:=cells_at hx0 3
 have HISO:Hid ((s.isos:Int) = 0):=Lib.hid (by omega)
 have hz2:¬ (s.isos:Int) > 0:=by omega
 have hz4:(s.valid:Int) > 0:=by omega
 have hz5:(s.valid:Int)≤1048590:=by omega
 have hn9:n≤1048590:=by omega
 have HVP:Hid (0 < s.valid):=Lib.hid hz3
 have HCP:Hid (0 < s.l.countP fun e => e.iso):=Lib.hid (by
  obtain ⟨r,hr,hv,_⟩:=hok.shape
  rw [hr,List.countP_append,← hv]
  omega)
 obtain ⟨V2,hV2⟩:∃ V2,V2 = V.setCell ⟨N,3,none⟩ (.int .i64 0):=⟨_,rfl⟩
 have HI0:Hid (PopI w B base N pc s pa s.l n V2):=Lib.hid ⟨hn.symm,⟨[],rfl,by simp⟩,HCP.out,by rw [hV2];exact set3_of5 hx0 _,by rw [hV2];exact (HP.out.stored (Below.refl _ _) 3 _).1,by rw [hV2];exact (HOW.out V (Below.refl _ _)).stored_other ⟨N,3,none⟩ _ HP.out.apart0,by rw [hV2];exact (HP.out.stored (Below.refl _ _) 3 _).2⟩
 have HVV:=Lib.hid hV2
 clear hp hok hrn hn hs htop hlev hx0 hz hz3 hV2 hva
 go_enter Tryz.func89,Tryz.ntmps89
 go_upto_region 1 with (fail)
 rw [← HNN.out,← HEQ.out]
 go_wp2
 rw [← HVV.out]
 go_loopg [] n (fun r wr => ∃ l',PopI w B base N pc s pa l' r wr)
 case atStart => exact ⟨s.l,HI0.out⟩
 case round =>
  obtain ⟨l',hI⟩:=hrel
  obtain ⟨wa,rfl⟩:∃ wa:World,wa = wr:=⟨_,rfl⟩
  have HI:=Lib.hid hI
  obtain ⟨k,hk⟩:∃ k,k = gk:=⟨_,rfl⟩
  have HK:=Lib.hid hk
  rw [← hk] at HI
  clear hI hk
  obtain ⟨e',r',hl'⟩:∃ e' r',l' = e' :: r':=by
   cases l' with
   | nil => exact absurd HI.out.iso (by simp)
   | cons a b => exact ⟨a,b,rfl⟩
  subst hl'
  have hkl:r'.length + 1 = k:=HI.out.len
  have hkn:k≤n:=by
   obtain ⟨pre,hp,_⟩:=HI.out.pre
   have:=congrArg List.length hp
   rw [List.length_append,← HNL.out,HI.out.len] at this
   omega
  have HLST:=Lib.hid (rlast_any wa B base s.isos 0 s.valid pa pc e' r' k hkl (by omega) HI.out.own)
  have hcap:k≤pc:=HI.out.own.le
  have hk1:(1:Int)≤(k:Int):=by omega
  have hk2:(k:Int)≤1048590:=by omega
  have hk3:(k:Int) - 1≤(pc:Int):=by omega
  have hk4:((k - 1:Nat):Int) = (k:Int) - 1:=by omega
  have HKL:Hid (r'.length = k - 1):=Lib.hid (by omega)
  have HNW:Hid (w.heap.size≤N):=Lib.hid (by have:=HNN.out;omega)
  have HAP:=Lib.hid HP.out.apart0
  obtain ⟨lv0,ov0,io0⟩:=e'
  cases io0
  case false =>
   go_wp2_with (first
    | (with_reducible refine wpList_load_row rfl 155 _ rfl N rfl 155 _ (0,0) _ HI.out.box Tryz.underlying155 rfl (by kernel_rfl) ?_)
    | (go_at_call 123;refine HLST.out.mono ?_;rintro x w2 ⟨rfl,b2⟩;have HI2:=Lib.hid (HI.out.later b2);have d1:=cells_at HI2.out.box 1;have g1:=frozen_at HI2.out.box 1;clear b2))
   go_roundg (k - 1)
   case measure => have:=HK.out;omega
   case rel => exact ⟨r',HI2.out.pop rfl HNW.out HAP.out⟩
  case true =>
   have hd:(s.l.dropWhile fun e => !e.iso).tail = r':=by
    obtain ⟨pre,h1,h2⟩:=HI.out.pre
    rw [h1,drop_pre h2]
    rfl
   have HNX2:Hid (s.next 23 auto = { l:=r',isos:=0,embs:=0,valid:=s.valid - 1 }):=Lib.hid (by rw [HNEXT.out,hd])
   obtain ⟨e2,r2,hr2⟩:∃ e2 r2,r' = e2 :: r2:=by
    have:=ok_cons HOK.out
    rw [HNX2.out] at this
    exact this
   have HR2:=Lib.hid hr2
   have HPL3:=Lib.hid (fun (W:World) (h:Own W B 3 pa (k - 1) pc (entsV r')) => rplain_any W B base s.isos 0 ((s.valid:Int) - 1) pa pc e2 r2 (k - 1) 23 (by rw [← HKL.out,HR2.out];rfl) (by omega) (by omega) (by omega) (by rw [← HR2.out];exact h))
   obtain ⟨kk,hkk⟩:∃ kk,kk = (if e2.over = 0 then 23 else e2.over):=⟨_,rfl⟩
   rw [← hkk] at HPL3
   clear hkk hd hr2
   go_wp2_with (first
    | (with_reducible refine wpList_load_row rfl 155 _ rfl N rfl 155 _ (0,0) _ HX4.out Tryz.underlying155 rfl (by kernel_rfl) ?_)
    | (with_reducible refine wpList_load_row rfl 155 _ rfl N rfl 155 _ (0,0) _ (HL3.out _).1 Tryz.underlying155 rfl (by kernel_rfl) ?_)
    | (with_reducible refine wpList_load_row rfl 155 _ rfl N rfl 155 _ (0,0) _ HI.out.box Tryz.underlying155 rfl (by kernel_rfl) ?_)
    | (go_at_call 122;refine (HPL3.out _ (HL3.out _).2.2.1).mono ?_;rintro x w4 ⟨rfl,b4⟩;have HX4:=Lib.hid ((b4.block N (Array.getElem?_eq_some_iff.1 (HL3.out _).1).1).trans (HL3.out _).1);have HY4:=Lib.hid ((b4.block (N + 1) (Array.getElem?_eq_some_iff.1 (HL3.out _).2.1).1).trans (HL3.out _).2.1);have HO4:=Lib.hid ((HL3.out _).2.2.1.below b4);have HB4:=Lib.hid ((HL3.out _).2.2.2.trans (b4.mono (HL3.out _).2.2.2.size));have m0:=cells_at (HY4.out) 0;have m1:=cells_at (HY4.out) 1;have m2:=cells_at (HY4.out) 2;have m3:=cells_at (HY4.out) 3;have m4:=cells_at (HY4.out) 4;have l0:=frozen_at (HY4.out) 0;have l1:=frozen_at (HY4.out) 1;have l2:=frozen_at (HY4.out) 2;have l3:=frozen_at (HY4.out) 3;have l4:=frozen_at (HY4.out) 4;clear b4)
    | (go_at_call 123;refine HLST.out.mono ?_;rintro x w2 ⟨rfl,b2⟩;have HI2:=Lib.hid (HI.out.later b2);have HL3:=Lib.hid (fun va => HI2.out.last HNW.out HAP.out va);have d1:=cells_at HI2.out.box 1;have g1:=frozen_at HI2.out.box 1;have d4:=cells_at (set1_of5 HI2.out.box (.slice pa (k - 1) pc)) 4;have g4:=frozen_at (set1_of5 HI2.out.box (.slice pa (k - 1) pc)) 4;clear b2))
   exact step_doneW (t:=s.next 23 auto) (n:=k - 1) (qc:=pc) HP.out HB4.out HOK.out HCNT.out (by rw [HNX2.out];exact HKL.out) (by rw [HNX2.out];show ((0:Nat):Int) = s.isos;rw [HISO.out];rfl) (by rw [HNX2.out];rfl) (by rw [HNX2.out];show ((s.valid - 1:Nat):Int) = (s.valid:Int) - 1;have:=HVP.out;omega) (by rw [HNX2.out];exact HO4.out) HP.out.apart HY4.out e2.level kk true _ rfl rfl rfl rfl
/-- **A step of the reference: the stack stays one that may be.** -/
theorem rstep_any (w:World) (B base:Nat) (s:St) (pa:Option Addr) (pc c auto:Nat) (hB:B≤w.heap.size) (hb1:base≤1) (hok:Ok base s) (hl:s.l.length≤1048590) (hi:s.isos≤1048590) (he:s.embs≤1048590) (ho:Own w B 3 pa s.l.length pc (entsV s.l)) (hc1:1≤c) (hc2:c≤23) (ha:auto = 0∨auto = 1):
 Calls Tryz.prog 89 #[.agg #[.int .i8 base,.slice pa s.l.length pc,.int .i64 s.isos,.int .i64 s.embs,.int .i64 s.valid],.int .u8 c,.int .i8 auto] w (RStepP w B base s pa):=by
 have hp:RPre w _ B base w.heap.size s pa pc:=⟨hB,rfl,rfl,ho⟩
 have h19:∀ k,k = 19→c = k→c = 19:=fun k h1 h2 => by omega
 rcases (show c = 15∨c = 16∨c = 17∨c = 18∨c = 20∨c = 21∨c = 22∨c = 23∨c = 19∨c = 10∨c = 11∨(c≤9∨(12≤c∧c≤14)) by omega) with rfl | rfl | rfl | rfl | rfl | rfl | rfl | rfl | rfl | rfl | rfl | h
 · cases hr:s.room false with
   | true => exact rstep_room15 w _ B base _ s pa pc auto hp hb1 hok hl hi he hr
   | false =>
    rcases Nat.eq_zero_or_pos s.isos with hz | hz
    · exact rstep_no15z w _ B base _ s pa pc auto hp hb1 hok hl hi he hr hz
    · exact rstep_no15p w _ B base _ s pa pc auto hp hb1 hok hl hi he hr hz
 · cases hr:s.room false with
   | true => exact rstep_room16 w _ B base _ s pa pc auto hp hb1 hok hl hi he hr
   | false =>
    rcases Nat.eq_zero_or_pos s.isos with hz | hz
    · exact rstep_no16z w _ B base _ s pa pc auto hp hb1 hok hl hi he hr hz
    · exact rstep_no16p w _ B base _ s pa pc auto hp hb1 hok hl hi he hr hz
 · cases hr:s.room true with
   | true => exact rstep_room17 w _ B base _ s pa pc auto hp hb1 hok hl hi he hr
   | false =>
    rcases Nat.eq_zero_or_pos s.isos with hz | hz
    · exact rstep_no17z w _ B base _ s pa pc auto hp hb1 hok hl hi he hr hz
    · exact rstep_no17p w _ B base _ s pa pc auto hp hb1 hok hl hi he hr hz
 · cases hr:s.room true with
   | true => exact rstep_room18 w _ B base _ s pa pc auto hp hb1 hok hl hi he hr
   | false =>
    rcases Nat.eq_zero_or_pos s.isos with hz | hz
    · exact rstep_no18z w _ B base _ s pa pc auto hp hb1 hok hl hi he hr hz
    · exact rstep_no18p w _ B base _ s pa pc auto hp hb1 hok hl hi he hr hz
 · cases hr:s.room false with
   | true => exact rstep_iso20y w _ B base _ s pa pc auto hp hb1 hok hl hi he hr
   | false => exact rstep_iso20n w _ B base _ s pa pc auto hp hb1 hok hl hi he hr
 · cases hr:s.room true with
   | true => exact rstep_iso21y w _ B base _ s pa pc auto hp hb1 hok hl hi he hr
   | false => exact rstep_iso21n w _ B base _ s pa pc auto hp hb1 hok hl hi he hr
 · rcases ha with rfl | rfl
   · cases hr:s.room false with
     | true => exact rstep_iso22_0y w _ B base _ s pa pc hp hb1 hok hl hi he hr
     | false => exact rstep_iso22_0n w _ B base _ s pa pc hp hb1 hok hl hi he hr
   · cases hr:s.room true with
     | true => exact rstep_iso22_1y w _ B base _ s pa pc hp hb1 hok hl hi he hr
     | false => exact rstep_iso22_1n w _ B base _ s pa pc hp hb1 hok hl hi he hr
 · rcases Nat.eq_zero_or_pos s.isos with hz | hz
   · rcases Nat.eq_zero_or_pos s.valid with hz3 | hz3
     · exact rstep_23n w _ B base _ s pa pc auto hp hb1 hok hl hi he hz hz3
     · exact rstep_23v w _ B base _ s pa pc auto hp hb1 hok hl hi he hz hz3
   · exact rstep_23i w _ B base _ s pa pc auto hp hb1 hok hl hi he hz
 · rcases Nat.eq_zero_or_pos s.isos with hz | hz
   · rcases Nat.eq_zero_or_pos s.embs with hz3 | hz3
     · rcases Classical.em (1 < s.l.length∧s.top.iso = false) with hst | hst
       · exact rstep_19p w _ B base _ s pa pc auto hp hb1 hok hl hi he hz hz3 hst
       · exact rstep_19s w _ B base _ s pa pc auto hp hb1 hok hl hi he hz hz3 hst
     · exact rstep_19e w _ B base _ s pa pc auto hp hb1 hok hl hi he hz hz3
   · exact rstep_19i w _ B base _ s pa pc auto hp hb1 hok hl hi he hz
 · exact rstep_10 w _ B base _ s pa pc auto hp hb1 hok hl hi he
 · exact rstep_11 w _ B base _ s pa pc auto hp hb1 hok hl hi he
 · exact rstep_other w _ B base _ s pa pc auto c hp hb1 hok hl hi he hc1 hc2 h
end Go.Proofs.YtjnidopbdjbbgaaGreat
