/-
  The explicit rules: Explicit, walked.
-/
import Derived.Test.YtjnidopbdjbbgaaGreatB08
import Derived.Test.YtjnidopbdjbbgaaGreatB07
import Derived.Test.YtjnidopbdjbbgaaGreatB02
import Derived.Test.YtjnidopbdjbbgaaGreatB00
import Derived.Laws.ResultCell
section
namespace Go.Proofs.YtjnidopbdjbbgaaGreat
open Go.RowKit
set_option linter.unusedVariables false
attribute [local go_sem] Oper.semAt_some
set_option maxRecDepth 20000 in
set_option maxHeartbeats 4000000 in
theorem new_any (w:World) (base:Nat) (hb:base≤1):
 Calls Tryz.prog 66 #[.int .i8 base] w fun e w' => ∃ sb pa pc,e = .returned (.tuple #[.pointer (some ⟨sb,0,none⟩),.int .i64 0])∧StackAt w' w.heap.size sb pa pc (St.first base)∧Below w.heap.size w w':=by
 have hfin:StackAt ((w.alloc (.cells #[.int .i8 base,.int .u8 0,.bool false] 184)).alloc (.cells #[.slice (some ⟨w.heap.size,0,none⟩) 1 1,.int .i64 0,.int .i64 0,.int .i64 0] 187)) w.heap.size (w.heap.size + 1) (some ⟨w.heap.size,0,none⟩) 1 (St.first base):=by
  refine ⟨?_,?_,by simp [blockOf],by omega⟩
  · have:=heap_alloc_new (w.alloc (.cells #[.int .i8 base,.int .u8 0,.bool false] 184)) (.cells #[.slice (some ⟨w.heap.size,0,none⟩) 1 1,.int .i64 0,.int .i64 0,.int .i64 0] 187)
    rw [World.size_alloc] at this
    exact this
  · refine Own.alloc ⟨rfl,Nat.le_refl _,by simp [maxLen,St.first],.inr ⟨w.heap.size,rfl,Nat.le_refl _,by simp,fun j u hu => ?_,fun j hj => ⟨?_,World.frozen?_alloc_new _ _ _ _⟩⟩⟩ _
    · rw [World.cell?_alloc_new]
      rw [show entsV (St.first base).l = [.int .i8 base,.int .u8 0,.bool false] from rfl] at hu
      simpa using hu
    · rw [World.cell?_alloc_new]
      rw [Array.getElem?_eq_getElem (by have:j < 3:=hj;exact this)]
      rfl
 have HF:=Lib.hid hfin
 clear hfin
 rcases (show base = 0∨base = 1 by omega) with rfl | rfl
 all_goals
  go_enter Tryz.func66,Tryz.ntmps66
  go_wp2
  go_ret2
  exact ⟨_,_,_,rfl,HF.out,((Below.refl _ _).alloc (Nat.le_refl _) _).alloc (by simp) _⟩
set_option maxHeartbeats 4000000 in
theorem stepsF_any (w:World) (sb:Nat) (a:Option Addr) (n c ag m d:Nat):
 Calls Tryz.prog 68 #[.pointer (some ⟨sb,0,none⟩),.slice a n c,.slice (some ⟨ag,0,none⟩) m d] w fun e w' => e = .returned (.func (.func 111) #[] #[.pointer (some ⟨w.heap.size + 1,0,none⟩),.pointer (some ⟨w.heap.size,0,none⟩),.pointer (some ⟨w.heap.size + 2,0,none⟩)])∧w' = ((w.alloc (.cells #[.pointer (some ⟨sb,0,none⟩)] 123)).alloc (.cells #[.slice a n c] 22)).alloc (.cells #[.slice (some ⟨ag,0,none⟩) m d] 27):=by
 refine (callsIn_wide (n:=3)).1 ?_
 refine callsIn_of_wp Tryz.func68 rfl trivial ?_ rfl
 simp only [Tryz.ntmps68,List.size_toArray,List.length_cons,List.length_nil,Nat.reduceAdd,Nat.reduceSub,Array.replicate_succ,Array.replicate_zero,List.push_toArray,List.append_toArray,List.nil_append,List.cons_append]
 gi_wp2
 go_ret
 exact ⟨rfl,rfl⟩
theorem info35:(Tryz.prog.info? 35).map (fun i => (i.zero,i.size,i.bytes)) = some (some (.int .u8 0),1,1):=by kernel_rfl
theorem StackAt.mono {w:World} {B B' sb:Nat} {pa:Option Addr} {pc:Nat} {s:St} (h:StackAt w B sb pa pc s) (hB:B'≤B):StackAt w B' sb pa pc s:=
 ⟨h.box,h.own.mono hB,h.apart,Nat.le_trans hB h.ge⟩
/-- Blocks that lie apart: the answer's, the stack's, what is read, the answer's two slices, the stack's entries. -/
structure Apt (xb sb:Nat) (fx:List Nat) (la ca pa:Option Addr):Prop where
 x:xb ∉ sb :: fx
 l:∀ g∈blk la,g ∉ xb :: sb :: fx∧g ∉ blk ca∧g ∉ blk pa
 c:∀ g∈blk ca,g ∉ xb :: sb :: fx∧g ∉ blk pa
 p:∀ g∈blk pa,g≠xb
/-- What Explicit holds between two rounds. -/
structure ExI (w:World) (sb xb:Nat) (fx:List Nat) (ans:List (Option Nat × Nat)) (pre:List Nat) (W:World):Prop where
 le:pre.length≤ans.length
 box:∃ la lc ca cc m,(∃ ma mn mc,m = .slice ma mn mc)∧W.heap[xb]? = some (.cells #[.slice la pre.length lc,.slice ca pre.length cc,m] 84) ∧
  Own W w.heap.size 1 la pre.length lc ((ans.take pre.length).map fun x => i8V (lvI x.1))∧Own W w.heap.size 1 ca pre.length cc ((ans.take pre.length).map fun x => u8V x.2) ∧
  (la = none∨0 < lc)∧(ca = none∨0 < cc) ∧
  ∃ pa n' pc x y z,W.heap[sb]? = some (.cells #[.slice pa n' pc,x,y,z] 187)∧Apt xb sb fx la ca pa
 below:Below w.heap.size w W
 fresh:w.heap.size≤xb∧xb < W.heap.size∧∀ k∈sb :: fx,k < W.heap.size
theorem ExI.own (w:World) (sb xb:Nat) (fx:List Nat) (ans:List (Option Nat × Nat)) (s:Nat) (hs:w.heap.size≤s):OwnFrom s (ExI w sb xb fx ans):=by
 intro pre A C row h hg hr
 obtain ⟨la,lc,ca,cc,m,hm,h1,h2,h3,h4,h5,pa,n',pc,x,y,z,h6,h7⟩:=h.box
 have hr2:∀ r,row = some r→∃ o:Obj,A.heap[r]? = some o∧o.isCells = false:=fun r e => (hr r e).2
 refine ⟨h.le,⟨la,lc,ca,cc,m,hm,cells_others h1 hg hr2,h2.others hg hr2,h3.others hg hr2,h4,h5,pa,n',pc,x,y,z,cells_others h6 hg hr2,h7⟩,?_,h.fresh.1,Nat.lt_of_lt_of_le h.fresh.2.1 hg.size,fun k hk => Nat.lt_of_lt_of_le (h.fresh.2.2 k hk) hg.size⟩
 exact h.below.grown hg h.below.size (fun k e => by have:=(hr k e).1;omega)
theorem StT.own (W0:World) (B sb:Nat) (fx:List Nat) (s0:St) (zl:List (Nat × Nat)) (s:Nat) (hs:B≤s) (hB:B≤W0.heap.size) (hfx:∀ k∈fx,∃ o:Obj,W0.heap[k]? = some o∧o.isCells = true):OwnFrom s (StT W0 B sb fx s0 zl):=by
 intro pre A C row h hg hr
 have hr2:∀ r,row = some r→∃ o:Obj,A.heap[r]? = some o∧o.isCells = false:=fun r e => (hr r e).2
 obtain ⟨pa,pc,h1,h2⟩:=h.stack
 refine ⟨h.range,⟨pa,pc,h1.others hg hr2,h2⟩,fun k hk => ?_,?_⟩
 · obtain ⟨o,ho,hc⟩:=hfx k hk
   exact (grownBy_keeps_cells hg hr2 ((h.same k hk).trans ho) hc).trans (h.same k hk)
 · exact h.below.grown hg (Nat.le_trans hB h.below.size) (fun k e => by have:=(hr k e).1;omega)
theorem StA.others {B sb:Nat} {A C:World} (h:StA B sb A C):KeepsOthers A C:=by
 obtain ⟨pa,pc,s,pa',pc',s',h1,h2,h3,h9⟩:=h
 refine ⟨h3.kept.size,fun k o hk hc => (h3.kept.block k (Array.getElem?_eq_some_iff.1 hk).1 ?_).trans hk⟩
 rintro (rfl | e)
 · rw [h1.box] at hk;cases hk;cases hc
 · rcases h1.own.row with ⟨h0,_⟩ | ⟨g,ha,_,_,_,h4⟩
   · rw [h0] at e;cases e
   · rw [ha] at e
     cases e
     have hle:=h1.own.le
     obtain ⟨k1,_⟩:=h4 0 (by omega)
     obtain ⟨u,hu⟩:=Option.isSome_iff_exists.1 k1
     obtain ⟨o',ho',hc'⟩:=cells_of_cell hu
     simp only at ho'
     rw [hk] at ho'
     cases ho'
     rw [hc] at hc'
     cases hc'
theorem ExI.step {w:World} {sb xb:Nat} {fx:List Nat} {ans:List (Option Nat × Nat)} {pre:List Nat} {A C:World} (h:ExI w sb xb fx ans pre A) (ha:StA w.heap.size sb A C):ExI w sb xb fx ans pre C:=by
 obtain ⟨la,lc,ca,cc,m,hm,h1,h2,h3,h4,h5,pa,n',pc,x,y,z,h6,h7⟩:=h.box
 obtain ⟨pa0,pc0,s0,pa',pc',s',k1,k2,k3,_⟩:=ha
 obtain rfl:pa0 = pa:=by
  have:=k1.box
  rw [h6] at this
  simp at this
  exact this.1.1.symm
 have hns:∀ g,(g = xb∨g∈blk la∨g∈blk ca)→¬ (g = sb∨blockOf pa0 = some g):=by
  rintro g hg (e | e)
  · subst e
    rcases hg with rfl | hg | hg
    · exact h7.x (by simp)
    · exact (h7.l _ hg).1 (by simp)
    · exact (h7.c _ hg).1 (by simp)
  · have hm:=blk_mem.2 e
    rcases hg with rfl | hg | hg
    · exact h7.p _ hm rfl
    · exact (h7.l _ hg).2.2 hm
    · exact (h7.c _ hg).2 hm
 refine ⟨h.le,⟨la,lc,ca,cc,m,hm,(k3.kept.block xb h.fresh.2.1 (hns xb (.inl rfl))).trans h1,k3.kept.own h2 (fun g hg => hns g (.inr (.inl (blk_mem.2 hg)))),k3.kept.own h3 (fun g hg => hns g (.inr (.inr (blk_mem.2 hg)))),h4,h5,pa',_,_,_,_,_,k2.box,?_⟩,?_,h.fresh.1,Nat.lt_of_lt_of_le h.fresh.2.1 k3.kept.size,fun k hk => Nat.lt_of_lt_of_le (h.fresh.2.2 k hk) k3.kept.size⟩
 · refine ⟨h7.x,fun g hg => ⟨(h7.l g hg).1,(h7.l g hg).2.1,fun hp => ?_⟩,fun g hg => ⟨(h7.c g hg).1,fun hp => ?_⟩,fun g hp e => ?_⟩
   · rcases blk_swap k3.place hp with h1 | h1
     · exact (h7.l g hg).2.2 h1
     · have:=(h2.blk_lt g hg).2;omega
   · rcases blk_swap k3.place hp with h1 | h1
     · exact (h7.c g hg).2 h1
     · have:=(h3.blk_lt g hg).2;omega
   · rcases blk_swap k3.place hp with h1 | h1
     · exact h7.p g h1 e
     · have:=h.fresh.2.1;omega
 · refine k3.kept.below h.below (fun k hk => ?_) h.below.size
   rcases hk with rfl | e
   · exact k1.ge
   · exact (k1.own.blk_lt k (blk_mem.2 e)).1
/-- A push, and its store into a box: what lies below stays; whatever is no cells stays. -/
theorem push_box {W w4:World} {B xb j n c c':Nat} {a a':Option Addr} {xs ys:List Value} {o:Obj} {cs:Array Value} {t:TypeId} {u:Value} (hown:Own W B 1 a n c xs) (hc:a = none∨0 < c) (hbox:W.heap[xb]? = some (.cells cs t)) (hxa:xb ∉ blk a) (hB:B≤xb) (hBW:B≤W.heap.size)
 (h4:Own w4 B 1 a' (n + 1) c' ys) (hap:Apped (W.alloc o) w4 a a'):
 w4.heap[xb]? = some (.cells cs t)∧(w4.setCell ⟨xb,j,none⟩ u).heap[xb]? = some (.cells (cs.setIfInBounds j u) t)∧Own (w4.setCell ⟨xb,j,none⟩ u) B 1 a' (n + 1) c' ys∧KeepsOthers W (w4.setCell ⟨xb,j,none⟩ u)∧Below B W (w4.setCell ⟨xb,j,none⟩ u) ∧
 (∀ k,k < W.heap.size→k ∉ blk a→k≠xb→(w4.setCell ⟨xb,j,none⟩ u).heap[k]? = W.heap[k]?)∧(∀ g∈blk a',g∈blk a∨W.heap.size≤g)∧W.heap.size≤(w4.setCell ⟨xb,j,none⟩ u).heap.size∧(a' = none∨0 < c'):=by
 have hx4:=(hap.heap (Array.getElem?_eq_some_iff.1 hbox).1 hxa).trans hbox
 have hsz:=hap.grown.size
 simp only [World.size_alloc] at hsz
 have hxl:=(Array.getElem?_eq_some_iff.1 hbox).1
 have hxa':xb ∉ blk a':=fun hm => by
  rcases hap.blk hm with h1 | h1
  · exact hxa h1
  · simp at h1;omega
 refine ⟨hx4,heap_set hx4 u,h4.stored_other _ _ (fun g hg e => hxa' (by rw [hg];show xb∈[g];rw [show g = xb from e];simp)),?_,?_,fun k hk hka hkx => ?_,fun g hg => ?_,by simp;omega,.inr (by have:=h4.le;omega)⟩
 · refine ((KeepsOthers.alloc W o).trans (hap.others (hown.alloc o) ?_)).trans (KeepsOthers.setCell _ _ _)
   rcases hc with h | h
   · exact .inr h
   · exact .inl (by omega)
 · exact (((Below.refl B W).alloc hBW o).trans (hap.below (hown.alloc o) (by simp;omega))).setCell (p:=⟨xb,j,none⟩) hB u
 · exact (Below.heap_setCell w4 ⟨xb,j,none⟩ u k hkx).trans (hap.heap hk hka)
 · rcases hap.blk hg with h1 | h1
   · exact .inl h1
   · simp at h1
     exact .inr (by omega)
/-- Behind the first push: what the second one asks. -/
theorem expl_mid {W2 w4:World} {B xb sk n lc cc lc':Nat} {la ca la':Option Addr} {xs ys zs:List Value} {m:Value} {O3:Obj} {st:Obj} (k1:W2.heap[xb]? = some (.cells #[.slice la n lc,.slice ca n cc,m] 84)) (k2:Own W2 B 1 la n lc xs) (k3:Own W2 B 1 ca n cc ys) (h4:la = none∨0 < lc)
 (hx:xb ∉ blk la) (hxc:xb ∉ blk ca) (hlc:∀ g∈blk la,g ∉ blk ca) (hB:B≤xb) (hBW:B≤W2.heap.size) (ks:W2.heap[sk]? = some st) (hsl:sk ∉ blk la) (hsx:sk≠xb)
 (hown4:Own w4 B 1 la' (n + 1) lc' zs) (hap4:Apped (W2.alloc O3) w4 la la'):
 w4.heap[xb]? = some (.cells #[.slice la n lc,.slice ca n cc,m] 84)∧(w4.setCell ⟨xb,0,none⟩ (.slice la' (n + 1) lc')).heap[xb]? = some (.cells #[.slice la' (n + 1) lc',.slice ca n cc,m] 84) ∧
 Own (w4.setCell ⟨xb,0,none⟩ (.slice la' (n + 1) lc')) B 1 ca n cc ys∧(w4.setCell ⟨xb,0,none⟩ (.slice la' (n + 1) lc')).heap[sk]? = some st∧B≤(w4.setCell ⟨xb,0,none⟩ (.slice la' (n + 1) lc')).heap.size:=by
 obtain ⟨q1,q2,q3,q4,q5,q6,q7,q8,q9⟩:=push_box (j:=0) (u:=.slice la' (n + 1) lc') k2 h4 k1 hx hB hBW hown4 hap4
 refine ⟨q1,q2,k3.same q8 (fun g hg => ?_),(q6 sk (Array.getElem?_eq_some_iff.1 ks).1 hsl hsx).trans ks,Nat.le_trans hBW q8⟩
 have hm:g∈blk ca:=blk_mem.2 (blockOf_some hg)
 exact q6 g (k3.blk_lt g hm).2 (fun h => hlc g h hm) (fun e => hxc (e ▸ hm))
theorem expl_round {w W0 W2 w4 w6:World} {sb xb lc cc lc' cc':Nat} {fx:List Nat} {ans:List (Option Nat × Nat)} {pre:List Nat} {x:Nat} {s0:St} {zl:List (Nat × Nat)} {la ca la' ca' pa:Option Addr} {n' pc:Nat} {m y0 y1 y2:Value} {O3 O4:Obj} {o:Option Nat} {kc:Nat}
 (hmm:∃ ma mn mc,m = .slice ma mn mc) (hI:ExI w sb xb fx ans pre W2) (hT:StT W0 w.heap.size sb fx s0 zl (pre ++ [x]) W2) (hok:ans[pre.length]? = some (o,kc))
 (k1:W2.heap[xb]? = some (.cells #[.slice la pre.length lc,.slice ca pre.length cc,m] 84)) (k2:Own W2 w.heap.size 1 la pre.length lc ((ans.take pre.length).map fun x => i8V (lvI x.1))) (k3:Own W2 w.heap.size 1 ca pre.length cc ((ans.take pre.length).map fun x => u8V x.2)) (h4:la = none∨0 < lc) (h5:ca = none∨0 < cc)
 (k6:W2.heap[sb]? = some (.cells #[.slice pa n' pc,y0,y1,y2] 187)) (h7:Apt xb sb fx la ca pa)
 (hown4:Own w4 w.heap.size 1 la' (pre.length + 1) lc' (((ans.take pre.length).map fun x => i8V (lvI x.1)) ++ [i8V (lvI o)])) (hap4:Apped (W2.alloc O3) w4 la la')
 (hown6:Own w6 w.heap.size 1 ca' (pre.length + 1) cc' (((ans.take pre.length).map fun x => u8V x.2) ++ [u8V kc])) (hap6:Apped ((w4.setCell ⟨xb,0,none⟩ (.slice la' (pre.length + 1) lc')).alloc O4) w6 ca ca'):
 KeepsOthers W2 (w6.setCell ⟨xb,1,none⟩ (.slice ca' (pre.length + 1) cc'))∧ExI w sb xb fx ans (pre ++ [x]) (w6.setCell ⟨xb,1,none⟩ (.slice ca' (pre.length + 1) cc'))∧StT W0 w.heap.size sb fx s0 zl (pre ++ [x]) (w6.setCell ⟨xb,1,none⟩ (.slice ca' (pre.length + 1) cc')):=by
 have hx:xb ∉ blk la:=fun h => (h7.l _ h).1 (by simp)
 have hxc:xb ∉ blk ca:=fun h => (h7.c _ h).1 (by simp)
 have hBW:=hI.below.size
 obtain ⟨q1,q2,q3,q4,q5,q6,q7,q8,q9⟩:=push_box (j:=0) (u:=.slice la' (pre.length + 1) lc') k2 h4 k1 hx hI.fresh.1 hBW hown4 hap4
 obtain ⟨_,_,q10,_,q11⟩:=expl_mid (sk:=sb) k1 k2 k3 h4 hx hxc (fun g h => (h7.l g h).2.1) hI.fresh.1 hBW k6 (fun h => (h7.l _ h).1 (by simp)) (fun e => h7.x (by simp [e])) hown4 hap4
 obtain ⟨r1,r2,r3,r4,r5,r6,r7,r8,r9⟩:=push_box (j:=1) (u:=.slice ca' (pre.length + 1) cc') q10 h5 q2 hxc hI.fresh.1 q11 hown6 hap6
 -- what stays over both
 have hst:∀ k,k < W2.heap.size→k ∉ blk la→k ∉ blk ca→k≠xb→(w6.setCell ⟨xb,1,none⟩ (.slice ca' (pre.length + 1) cc')).heap[k]? = W2.heap[k]?:=fun k hk h1 h2 h3 => (r6 k (Nat.lt_of_lt_of_le hk q8) h2 h3).trans (q6 k hk h1 h3)
 have hfx:∀ k∈sb :: fx,(w6.setCell ⟨xb,1,none⟩ (.slice ca' (pre.length + 1) cc')).heap[k]? = W2.heap[k]?:=fun k hk =>
  hst k (hI.fresh.2.2 k hk) (fun h => (h7.l k h).1 (List.mem_cons_of_mem _ hk)) (fun h => (h7.c k h).1 (List.mem_cons_of_mem _ hk)) (fun e => h7.x (e ▸ hk))
 obtain ⟨pa2,pc2,t1,t2⟩:=hT.stack
 obtain rfl:pa2 = pa:=by
  have:=t1.box
  rw [k6] at this
  simp at this
  exact this.1.1.symm
 have hlen:(pre ++ [x]).length = pre.length + 1:=by simp
 have htk:ans.take (pre.length + 1) = ans.take pre.length ++ [(o,kc)]:=by rw [List.take_add_one,hok];rfl
 have hla:∀ g∈blk la',g∈blk la∨W2.heap.size≤g:=q7
 have hca:∀ g∈blk ca',g∈blk ca∨W2.heap.size≤g:=fun g hg => (r7 g hg).imp id (fun h => Nat.le_trans q8 h)
 have hcl:∀ g∈blk la',g ∉ blk ca':=by
  intro g h1 h2
  rcases r7 g h2 with h3 | h3
  · rcases hla g h1 with h4 | h4
    · exact (h7.l g h4).2.1 h3
    · have:=(k3.blk_lt g h3).2;omega
  · have:=(q3.blk_lt g h1).2;omega
 have hfr:∀ k∈xb :: sb :: fx,k < W2.heap.size:=fun k hk => by
  rcases List.mem_cons.1 hk with rfl | hk
  · exact hI.fresh.2.1
  · exact hI.fresh.2.2 k hk
 have hpl:∀ g∈blk pa2,g < W2.heap.size:=fun g hg => (t1.own.blk_lt g hg).2
 refine ⟨q4.trans r4,⟨?_,⟨la',lc',ca',cc',m,hmm,?_,?_,?_,q9,r9,pa2,n',pc,y0,y1,y2,(hfx sb (by simp)).trans k6,⟨h7.x,fun g hg => ⟨fun h => ?_,hcl g hg,fun h => ?_⟩,fun g hg => ⟨fun h => ?_,fun h => ?_⟩,h7.p⟩⟩,(hI.below.trans q5).trans r5,hI.fresh.1,Nat.lt_of_lt_of_le hI.fresh.2.1 (Nat.le_trans q8 r8),fun k hk => Nat.lt_of_lt_of_le (hI.fresh.2.2 k hk) (Nat.le_trans q8 r8)⟩,⟨hT.range,⟨pa2,pc2,⟨(hfx sb (by simp)).trans t1.box,t1.own.same (Nat.le_trans q8 r8) (fun g hg => ?_),t1.apart,t1.ge⟩,t2⟩,fun k hk => (hfx k (by simp [hk])).trans (hT.same k hk),(hT.below.trans q5).trans r5⟩⟩
 · rw [hlen];exact (List.getElem?_eq_some_iff.1 hok).1
 · rw [hlen];exact r2
 · rw [hlen,htk,List.map_append]
   have hm:∀ g,la' = some ⟨g,0,none⟩→g∈blk la':=fun g hg => blk_mem.2 (blockOf_some hg)
   exact q3.same r8 (fun g hg => r6 g (q3.blk_lt g (hm g hg)).2 (fun h => by
    rcases hla g (hm g hg) with h1 | h1
    · exact (h7.l g h1).2.1 h
    · have:=(k3.blk_lt g h).2;omega) (fun e => by
    rcases hla g (hm g hg) with h1 | h1
    · exact hx (e ▸ h1)
    · have:=hI.fresh.2.1;omega))
 · rw [hlen,htk,List.map_append];exact r3
 · rcases hla g hg with h1 | h1
   · exact (h7.l g h1).1 h
   · have:=hfr g h;omega
 · rcases hla g hg with h1 | h1
   · exact (h7.l g h1).2.2 h
   · have:=hpl g h;omega
 · rcases hca g hg with h1 | h1
   · exact (h7.c g h1).1 h
   · have:=hfr g h;omega
 · rcases hca g hg with h1 | h1
   · exact (h7.c g h1).2 h
   · have:=hpl g h;omega
 · have hm:g∈blk pa2:=blk_mem.2 (blockOf_some hg)
   exact hst g (hpl g hm) (fun h => (h7.l g h).2.2 hm) (fun h => (h7.c g h).2 hm) (h7.p g hm)
end Go.Proofs.YtjnidopbdjbbgaaGreat
end
/-
  Slices cloned: walked (printed by genclone.py).
-/
section
namespace Go.Proofs.YtjnidopbdjbbgaaGreat
open Go.RowKit
set_option linter.unusedVariables false
theorem Own.empty (w:World) (B e:Nat) (hB:B≤w.heap.size):Own (w.alloc (.cells #[] e)) B 1 (some ⟨w.heap.size,0,none⟩) 0 0 []:=
 ⟨rfl,Nat.le_refl _,by simp [maxLen],.inr ⟨w.heap.size,rfl,hB,by simp,fun j u hu => by simp at hu,fun j hj => by simp at hj⟩⟩
theorem eq_nil22 (w:World) (a:Option Addr) (n c:Nat):(binOp .eql 22 (.slice a n c) (.slice none 0 0)).run Tryz.prog w = .ok (.bool a.isNone) w:=Lib.run_eql_slice_nil w 22 35 a n c 0 0 Tryz.underlying22
attribute [local go_sem] eq_nil22
set_option maxHeartbeats 2000000 in
theorem cloneC_any (w:World) (a:Option Addr) (n c:Nat) (l:List Nat) (hl:l.length = n) (hn:n≤1099511627776) (hc:Cells w a (l.map u8V)):
 Calls Tryz.prog 41 #[.slice a n c] w fun e w' => ∃ a' c',e = .returned (.slice a' n c')∧Own w' w.heap.size 1 a' n c' (l.map u8V)∧Below w.heap.size w w':=by
 obtain ⟨i0,hi,hz0,hz1,hz2⟩:=info_parts info35
 cases a with
 | none =>
  have hl0:l = []:=by
   by_cases h:l = []
   · exact h
   · obtain ⟨b,off,he,_⟩:=hc (by simpa using h)
     cases he
  subst hl0
  simp at hl
  subst hl
  clear hc
  go_enter Tryz.func41,Tryz.ntmps41
  go_wp2
  go_ret
  exact ⟨none,0,rfl,Own.nil _ _ _,Below.refl _ _⟩
 | some ad =>
  have HC:=Lib.hid hc
  have HL:=Lib.hid hl
  clear hc hl
  go_enter Tryz.func41,Tryz.ntmps41
  go_wp2_with (at_builtin;refine wpList_app rfl _ _ 22 22 rfl 35 i0 (.int .u8 0) 1 1 Tryz.underlying22 hi hz0 hz1 hz2 rfl (by simp [Value.cells,Value.oneCell']) w.heap.size _ 0 0 [] rfl (Own.empty w w.heap.size 35 (Nat.le_refl _)) _ n (l.map u8V) rfl (Src.ofCells Tryz.underlying22 (some ad) n c _ (by rw [List.length_map,HL.out];omega) (HC.out.below ((Below.refl _ _).alloc (Nat.le_refl _) _)) (ones u8V (fun _ => rfl) l) (by decide)) (by simp only [maxLen];omega) (by omega) (by simp) ?_;intro a4 c4 w4 hown4 hap4;have HO4:=Lib.hid hown4;have HB4:=Lib.hid (((Below.refl w.heap.size w).alloc (Nat.le_refl _) (.cells #[] 35)).trans (hap4.below (Own.empty w w.heap.size 35 (Nat.le_refl _)) (by simp)));clear hown4 hap4)
  go_ret
  refine ⟨a4,c4,by simp,(HO4.out.eqN (by omega)).eqL (by simp),HB4.out⟩
theorem eq_nil33 (w:World) (a:Option Addr) (n c:Nat):(binOp .eql 33 (.slice a n c) (.slice none 0 0)).run Tryz.prog w = .ok (.bool a.isNone) w:=Lib.run_eql_slice_nil w 33 3 a n c 0 0 Tryz.underlying33
attribute [local go_sem] eq_nil33
set_option maxHeartbeats 2000000 in
theorem cloneP_any (w:World) (a:Option Addr) (n c:Nat) (l:List Int) (hl:l.length = n) (hn:n≤1099511627776) (hc:Cells w a (l.map i64V)):
 Calls Tryz.prog 84 #[.slice a n c] w fun e w' => ∃ a' c',e = .returned (.slice a' n c')∧Own w' w.heap.size 1 a' n c' (l.map i64V)∧Below w.heap.size w w':=by
 obtain ⟨i0,hi,hz0,hz1,hz2⟩:=info_parts info3
 cases a with
 | none =>
  have hl0:l = []:=by
   by_cases h:l = []
   · exact h
   · obtain ⟨b,off,he,_⟩:=hc (by simpa using h)
     cases he
  subst hl0
  simp at hl
  subst hl
  clear hc
  go_enter Tryz.func84,Tryz.ntmps84
  go_wp2
  go_ret
  exact ⟨none,0,rfl,Own.nil _ _ _,Below.refl _ _⟩
 | some ad =>
  have HC:=Lib.hid hc
  have HL:=Lib.hid hl
  clear hc hl
  go_enter Tryz.func84,Tryz.ntmps84
  go_wp2_with (at_builtin;refine wpList_app rfl _ _ 33 33 rfl 3 i0 (.int .i64 0) 1 8 Tryz.underlying33 hi hz0 hz1 hz2 rfl (by simp [Value.cells,Value.oneCell']) w.heap.size _ 0 0 [] rfl (Own.empty w w.heap.size 3 (Nat.le_refl _)) _ n (l.map i64V) rfl (Src.ofCells Tryz.underlying33 (some ad) n c _ (by rw [List.length_map,HL.out];omega) (HC.out.below ((Below.refl _ _).alloc (Nat.le_refl _) _)) (ones i64V (fun _ => rfl) l) (by decide)) (by simp only [maxLen];omega) (by omega) (by simp) ?_;intro a4 c4 w4 hown4 hap4;have HO4:=Lib.hid hown4;have HB4:=Lib.hid (((Below.refl w.heap.size w).alloc (Nat.le_refl _) (.cells #[] 3)).trans (hap4.below (Own.empty w w.heap.size 3 (Nat.le_refl _)) (by simp)));clear hown4 hap4)
  go_ret
  refine ⟨a4,c4,by simp,(HO4.out.eqN (by omega)).eqL (by simp),HB4.out⟩
theorem eq_nil27 (w:World) (a:Option Addr) (n c:Nat):(binOp .eql 27 (.slice a n c) (.slice none 0 0)).run Tryz.prog w = .ok (.bool a.isNone) w:=Lib.run_eql_slice_nil w 27 26 a n c 0 0 Tryz.underlying27
attribute [local go_sem] eq_nil27
set_option maxHeartbeats 2000000 in
theorem cloneL_any (w:World) (a:Option Addr) (n c:Nat) (l:List Int) (hl:l.length = n) (hn:n≤1099511627776) (hc:Cells w a (l.map i8V)):
 Calls Tryz.prog 58 #[.slice a n c] w fun e w' => ∃ a' c',e = .returned (.slice a' n c')∧Own w' w.heap.size 1 a' n c' (l.map i8V)∧Below w.heap.size w w':=by
 obtain ⟨i0,hi,hz0,hz1,hz2⟩:=info_parts info26
 cases a with
 | none =>
  have hl0:l = []:=by
   by_cases h:l = []
   · exact h
   · obtain ⟨b,off,he,_⟩:=hc (by simpa using h)
     cases he
  subst hl0
  simp at hl
  subst hl
  clear hc
  go_enter Tryz.func58,Tryz.ntmps58
  go_wp2
  go_ret
  exact ⟨none,0,rfl,Own.nil _ _ _,Below.refl _ _⟩
 | some ad =>
  have HC:=Lib.hid hc
  have HL:=Lib.hid hl
  clear hc hl
  go_enter Tryz.func58,Tryz.ntmps58
  go_wp2_with (at_builtin;refine wpList_app rfl _ _ 27 27 rfl 26 i0 (.int .i8 0) 1 1 Tryz.underlying27 hi hz0 hz1 hz2 rfl (by simp [Value.cells,Value.oneCell']) w.heap.size _ 0 0 [] rfl (Own.empty w w.heap.size 26 (Nat.le_refl _)) _ n (l.map i8V) rfl (Src.ofCells Tryz.underlying27 (some ad) n c _ (by rw [List.length_map,HL.out];omega) (HC.out.below ((Below.refl _ _).alloc (Nat.le_refl _) _)) (ones i8V (fun _ => rfl) l) (by decide)) (by simp only [maxLen];omega) (by omega) (by simp) ?_;intro a4 c4 w4 hown4 hap4;have HO4:=Lib.hid hown4;have HB4:=Lib.hid (((Below.refl w.heap.size w).alloc (Nat.le_refl _) (.cells #[] 26)).trans (hap4.below (Own.empty w w.heap.size 26 (Nat.le_refl _)) (by simp)));clear hown4 hap4)
  go_ret
  refine ⟨a4,c4,by simp,(HO4.out.eqN (by omega)).eqL (by simp),HB4.out⟩
end Go.Proofs.YtjnidopbdjbbgaaGreat
end
/-
  The places that are kept (Kept): walked.
-/
section
namespace Go.Proofs.YtjnidopbdjbbgaaGreat
open Go.RowKit
set_option linter.unusedVariables false
/-- A class whose character is removed. -/
def rem (c:Nat):Bool:=([10,15,16,17,18,19]:List Nat).contains c
/-- The first k places, those kept. -/
def keptTo (l:List Nat) (k:Nat):List Nat:=(List.range k).filter fun i => !rem (l.getD i 0)
def keptOf (l:List Nat):List Nat:=keptTo l l.length
theorem keptTo_succ {l:List Nat} {k x:Nat} (h:l[k]? = some x):keptTo l (k + 1) = keptTo l k ++ if rem x = true then [] else [k]:=by
 unfold keptTo
 rw [List.range_succ,List.filter_append]
 congr 1
 have:l.getD k 0 = x:=by rw [List.getD_eq_getElem?_getD,h];rfl
 rw [List.filter_cons,this]
 cases rem x <;> simp
theorem keptTo_le (l:List Nat) (k:Nat):(keptTo l k).length≤k:=by
 unfold keptTo
 exact Nat.le_trans (List.length_filter_le _ _) (by simp)
set_option maxRecDepth 20000 in
set_option maxHeartbeats 4000000 in
theorem kept_any (w:World) (a:Option Addr) (c:Nat) (l:List Nat) (hn:l.length≤1099511627776) (hc:Cells w a (l.map u8V)) (h23:∀ x∈l,1≤x∧x≤23):
 Calls Tryz.prog 70 #[.slice a l.length c] w fun e w' => ∃ a' c',e = .returned (.slice a' (keptOf l).length c')∧Own w' w.heap.size 1 a' (keptOf l).length c' ((keptOf l).map natV)∧Below w.heap.size w w':=by
 obtain ⟨i0,hi,hz0,hz1,hz2⟩:=info_parts info3
 have HC:=Lib.hid hc
 have H23:=Lib.hid (fun w x (hx:x∈l) => removed_any w x (h23 x hx).1 (h23 x hx).2)
 obtain ⟨n,hnn⟩:∃ n,n = l.length:=⟨_,rfl⟩
 have HN:=Lib.hid hnn
 rw [← hnn] at hn ⊢
 clear hc h23 hnn
 go_enter Tryz.func70,Tryz.ntmps70
 go_wp2
 go_loopg [3,8] n (fun r v i wr => ∃ (k c:Nat) (a:Option Addr),k + r = n∧i = .int .i64 k∧v = .slice a (keptTo l k).length c∧Own wr w.heap.size 1 a (keptTo l k).length c ((keptTo l k).map natV)∧Below w.heap.size w wr)
 case atStart => exact ⟨0,0,none,by omega,rfl,rfl,Own.nil _ _ _,Below.refl _ _⟩
 case round =>
  obtain ⟨k,c4,a4,hk,rfl,rfl,hown,hb⟩:=hrel
  by_cases hlt:k < n
  · obtain ⟨x,hx⟩:∃ x,l[k]? = some x:=⟨_,List.getElem?_eq_getElem (by rw [← HN.out];exact hlt)⟩
    obtain ⟨bb,oo,rfl,hcx⟩:=(HC.out.below hb).getm hx
    unfold u8V at hcx
    have hke:=keptTo_succ hx
    have HR:=Lib.hid (fun w => H23.out w x (List.mem_of_getElem? hx))
    have HO:=Lib.hid hown
    have HB:=Lib.hid hb
    have HK:=Lib.hid hk
    have hkl:(keptTo l k).length≤1099511627776:=by have:=keptTo_le l k;omega
    have hk0:(0:Int)≤(k:Int):=by omega
    have hk1:(k:Int) < (n:Int):=by omega
    unfold rem at hke
    cases hr:([10,15,16,17,18,19]:List Nat).contains x with
    | true =>
     rw [hr,if_pos rfl,List.append_nil] at hke
     have HKE:=Lib.hid hke
     have HR2:Hid (∀ w,Calls Tryz.prog 31 #[.int .u8 x] w fun e w' => e = .returned (.bool true)∧w = w'):=Lib.hid fun w => by have:=HR.out w;rw [hr] at this;exact this
     clear hx hown hb hk hke hr HR
     go_wp2_with (go_at_call 31;refine (HR2.out _).mono ?_;rintro e w2 ⟨rfl,rfl⟩)
     go_roundg (gk - 1)
     case measure => have:=HK.out;omega
     case rel => exact ⟨k + 1,c4,a4,by have:=HK.out;omega,by go_num,by rw [HKE.out],by rw [HKE.out];exact HO.out,HB.out⟩
    | false =>
     rw [hr,if_neg (by decide)] at hke
     have HKE:=Lib.hid hke
     have HR2:Hid (∀ w,Calls Tryz.prog 31 #[.int .u8 x] w fun e w' => e = .returned (.bool false)∧w = w'):=Lib.hid fun w => by have:=HR.out w;rw [hr] at this;exact this
     clear hx hown hb hk hke hr HR
     go_wp2_with (first | (go_at_call 31;refine (HR2.out _).mono ?_;rintro e w2 ⟨rfl,rfl⟩) | (at_builtin;refine wpList_push rfl _ _ 33 rfl 3 i0 (.int .i64 0) 8 Tryz.underlying33 hi hz0 hz1 hz2 rfl rfl w.heap.size a4 (keptTo l k).length c4 _ rfl _ _ rfl HO.out _ rfl rfl rfl (by omega) (by decide) HB.out.size ?_;intro a5 c5 w5 hown5 hap5 hb5;have HO5:=Lib.hid hown5;have HB5:=Lib.hid hb5;clear hown5 hap5 hb5))
     go_roundg (gk - 1)
     case measure => have:=HK.out;omega
     case rel => exact ⟨k + 1,c5,a5,by have:=HK.out;omega,by go_num,by rw [HKE.out,List.length_append];rfl,by rw [HKE.out,List.length_append,List.map_append];exact HO5.out,HB.out.trans HB5.out⟩
  · obtain rfl:k = n:=by omega
    have HO:=Lib.hid (show Own wr w.heap.size 1 a4 (keptOf l).length c4 ((keptOf l).map natV) by unfold keptOf;rw [← HN.out];exact hown)
    have HB:=Lib.hid hb
    clear hown hb hk hlt
    go_wp2
    go_ret
    exact ⟨a4,c4,by unfold keptOf;rw [← HN.out];rfl,HO.out,HB.out⟩
end Go.Proofs.YtjnidopbdjbbgaaGreat
end
/-
  Sequences as values: is one that may be (Check), a copy of one (Copy): walked.
-/
section
namespace Go.Proofs.YtjnidopbdjbbgaaGreat
open Go.RowKit
set_option linter.unusedVariables false
/-- A sequence: places, classes, level, what stands ahead and behind. -/
structure Sq where
 ps:List Nat
 cs:List Nat
 lv:Nat
 sos:Nat
 eos:Nat
/-- A sequence that may be. -/
structure Sq.Ok (s:Sq):Prop where
 pos:0 < s.ps.length
 same:s.cs.length = s.ps.length
 big:s.ps.length≤1048576
 up:s.ps.Pairwise (· < ·)
 top:∀ p∈s.ps,p≤1099511627776
 cl:∀ c∈s.cs,Cl c
 lv:s.lv≤126
 sos:s.sos = 1∨s.sos = 2
 eos:s.eos = 1∨s.eos = 2
/-- The value of a sequence whose two slices lie there. -/
def Sq.val (s:Sq) (pa:Option Addr) (pc:Nat) (ca:Option Addr) (cc:Nat):Value:=.agg #[.slice pa s.ps.length pc,.slice ca s.ps.length cc,.int .i8 s.lv,.int .u8 s.sos,.int .u8 s.eos]
/-- Its slices hold it. -/
structure Sq.In (s:Sq) (w:World) (pa ca:Option Addr):Prop where
 ps:Cells w pa (s.ps.map natV)
 cs:Cells w ca (s.cs.map u8V)
theorem Sq.In.below {s:Sq} {w w':World} {pa ca:Option Addr} (h:s.In w pa ca) (hb:Below w.heap.size w w'):s.In w' pa ca:=⟨h.ps.below hb,h.cs.below hb⟩
theorem cl_known {c:Nat} (h:Cl c):1≤c∧c≤23∧knownOf c = c∧([10,15,16,17,18,19]:List Nat).contains c = false:=by
 unfold Cl at h
 refine ⟨by omega,by omega,by unfold knownOf;rw [if_pos (by omega)],by simp;omega⟩
set_option maxRecDepth 20000
set_option maxHeartbeats 4000000
theorem edge_any (w:World) (c:Nat) (h:c = 1∨c = 2):Calls Tryz.prog 82 #[.int .u8 c] w fun e w' => e = .returned (.bool true)∧w = w':=by
 rcases h with rfl | rfl
 all_goals
  go_enter Tryz.func82,Tryz.ntmps82
  go_wp2
  go_ret
  exact ⟨rfl,rfl⟩
theorem check_any (w:World) (s:Sq) (hs:s.Ok) (pa ca:Option Addr) (pc cc:Nat) (hi:s.In w pa ca):
 Calls Tryz.prog 46 #[s.val pa pc ca cc] w fun e w' => e = .returned (.int .i64 0)∧Below w.heap.size w w':=by
 obtain ⟨ps,cs,lv,sos,eos⟩:=s
 obtain ⟨h1,h2,h3,h4,h5,h6,h7,h8,h9⟩:=hs
 simp only at h1 h2 h3 h4 h5 h6 h7 h8 h9
 unfold Sq.val
 simp only
 have HIN:=Lib.hid hi
 have HE:Hid (∀ w c,(c = sos∨c = eos)→Calls Tryz.prog 82 #[.int .u8 (c:Nat)] w fun e w' => e = .returned (.bool true)∧w = w'):=Lib.hid (fun w c hc => edge_any w c (by rcases hc with rfl | rfl;exact h8;exact h9))
 have HUP:=Lib.hid h4
 have HTOP:=Lib.hid h5
 have HCL:=Lib.hid h6
 have H2:=Lib.hid h2
 obtain ⟨n,hn⟩:∃ n,n = ps.length:=⟨_,rfl⟩
 have HN:=Lib.hid hn
 rw [← hn] at h1 h3 ⊢
 have hz:((n:Int) == 0) = false:=by simp;omega
 have hnn:((n:Int) != (n:Int)) = false:=by simp
 have hl0:(0:Int)≤(lv:Int):=by omega
 have hl1:(lv:Int)≤126:=by omega
 clear hi h2 h4 h5 h6 h7 h8 h9 hn
 go_enter Tryz.func46,Tryz.ntmps46
 go_wp2_with (go_at_call 82;refine (HE.out _ _ (by first | exact .inl rfl | exact .inr rfl)).mono ?_;rintro e w1 ⟨rfl,rfl⟩)
 have HB0:=Lib.hid ((Below.refl w.heap.size w).alloc (Nat.le_refl _) (.cells #[.slice pa n pc,.slice ca n cc,.int .i8 lv,.int .u8 sos,.int .u8 eos] 75))
 have hbx:(w.alloc (.cells #[.slice pa n pc,.slice ca n cc,.int .i8 lv,.int .u8 sos,.int .u8 eos] 75)).cell? ⟨w.heap.size,1,none⟩ = some (.slice ca n cc):=by rw [World.cell?_alloc_new];rfl
 generalize w.alloc (.cells #[.slice pa n pc,.slice ca n cc,.int .i8 lv,.int .u8 sos,.int .u8 eos] 75) = W at *
 have HBX:=Lib.hid hbx
 have HWS:=Lib.hid (HB0.out.size)
 have HXS:=Lib.hid (World.block_lt_of_cell? W _ hbx)
 clear hbx hnn hz
 go_loopg [4,47] n (fun r la i wr => ∃ k:Nat,k + r = n∧i = .int .i64 k∧(∃ x:Int,la = .int .i64 x∧x≤1099511627776∧∀ p,ps[k]? = some p→x < (p:Int))∧Below W.heap.size W wr)
 case atStart => exact ⟨0,by omega,rfl,⟨-1,rfl,by omega,fun p _ => by omega⟩,Below.refl _ _⟩
 case round =>
  obtain ⟨k,hk,rfl,⟨la,rfl,hla,hup⟩,hb⟩:=hrel
  by_cases hlt:k < n
  · obtain ⟨p,hp⟩:∃ p,ps[k]? = some p:=⟨_,List.getElem?_eq_getElem (by rw [← HN.out];exact hlt)⟩
    obtain ⟨x,hx⟩:∃ x,cs[k]? = some x:=⟨_,List.getElem?_eq_getElem (by rw [H2.out,← HN.out];exact hlt)⟩
    have hbw:=after HB0.out hb
    obtain ⟨b1,o1,rfl,hcp⟩:=(HIN.out.ps.below hbw).getm hp
    obtain ⟨b2,o2,rfl,hcx⟩:=(HIN.out.cs.below hbw).getm hx
    have hpl:=hup p hp
    have hpt:=HTOP.out p (List.mem_of_getElem? hp)
    obtain ⟨y1,y2,y3,y4⟩:=cl_known (HCL.out x (List.mem_of_getElem? hx))
    have hbx:=(hb.cell (p:=⟨w.heap.size,1,none⟩) HXS.out).trans HBX.out
    unfold natV at hcp
    unfold u8V at hcx
    have HRM:Hid (∀ w,Calls Tryz.prog 31 #[.int .u8 x] w fun e w' => e = .returned (.bool false)∧w' = w):=Lib.hid (fun w => (removed_any w x y1 y2).mono (fun e w' h => ⟨by rw [h.1,y4],h.2.symm⟩))
    have HKN:Hid (∀ w,Calls Tryz.prog 83 #[.int .u8 x] w fun e w' => e = .returned (.int .u8 x)∧w' = w):=Lib.hid (fun w => (knownS_any w x).mono (fun e w' h => ⟨by rw [h.1,y3],h.2.symm⟩))
    have HNXT:Hid (∀ q,ps[k + 1]? = some q→(p:Int) < (q:Int)):=Lib.hid (fun q hq => by
     have h1:=List.pairwise_iff_getElem.1 HUP.out k (k + 1) (List.getElem?_eq_some_iff.1 hp).1 (List.getElem?_eq_some_iff.1 hq).1 (by omega)
     rw [(List.getElem?_eq_some_iff.1 hp).2,(List.getElem?_eq_some_iff.1 hq).2] at h1
     omega)
    have HB:=Lib.hid hb
    have HK:=Lib.hid hk
    have hk0:(0:Int)≤(k:Int):=by omega
    have hk1:(k:Int) < (n:Int):=by omega
    have hle:decide ((p:Int)≤la) = false:=by simp;omega
    have hxx:((x:Int) != (x:Int)) = false:=by simp
    have HPT:=Lib.hid hpt
    clear hup hb hp hx hbw y3 y4 hk hpt hpl
    go_wp2
    go_quiet (first | (go_at_call 31;exact Calls.quiet_of_same (HRM.out _)) | (go_at_call 83;exact Calls.quiet_of_same (HKN.out _)))
    go_wp2
    go_roundg (gk - 1)
    case measure => have:=HK.out;omega
    case rel => exact ⟨k + 1,by have:=HK.out;omega,by go_num,⟨p,rfl,by have:=HPT.out;omega,HNXT.out⟩,below_drewN HB.out _⟩
  · have hkn:(n:Int)≤(k:Int):=by omega
    have HB:=Lib.hid (after HB0.out hb)
    clear hb hup
    go_wp2
    go_ret
    exact ⟨rfl,HB.out⟩
end Go.Proofs.YtjnidopbdjbbgaaGreat
end
/-
  A sequence copied; the rules' functions: walked.
-/
section
namespace Go.Proofs.YtjnidopbdjbbgaaGreat
open Go.RowKit
set_option linter.unusedVariables false
set_option maxRecDepth 20000
set_option maxHeartbeats 4000000
theorem heap_set5 {w:World} {N:Nat} {a b c d e:Value} {t:TypeId} {fr:Nat × Nat} (h:w.heap[N]? = some (.cells #[a,b,c,d,e] t fr)) (x y z u v:Value):
 (((((w.setCell ⟨N,0,none⟩ x).setCell ⟨N,1,none⟩ y).setCell ⟨N,2,none⟩ z).setCell ⟨N,3,none⟩ u).setCell ⟨N,4,none⟩ v).heap[N]? = some (.cells #[x,y,z,u,v] t fr):=heap_set (heap_set (heap_set (heap_set (heap_set h x) y) z) u) v
theorem Own.set5 {w:World} {B size n c N:Nat} {p:Option Addr} {xs:List Value} (h:Own w B size p n c xs) (hp:N ∉ blk p) (a b d e f:Value):
 Own (((((w.setCell ⟨N,0,none⟩ a).setCell ⟨N,1,none⟩ b).setCell ⟨N,2,none⟩ d).setCell ⟨N,3,none⟩ e).setCell ⟨N,4,none⟩ f) B size p n c xs:=by
 have ne:∀ g,p = some ⟨g,0,none⟩→g≠N:=fun g hg e => hp (by rw [blk_mem,blockOf_some hg,e])
 exact ((((h.stored_other _ _ ne).stored_other _ _ ne).stored_other _ _ ne).stored_other _ _ ne).stored_other _ _ ne
theorem below_set5 {w w0:World} {B N:Nat} (h:Below B w0 w) (hN:B≤N) (a b d e f:Value):
 Below B w0 (((((w.setCell ⟨N,0,none⟩ a).setCell ⟨N,1,none⟩ b).setCell ⟨N,2,none⟩ d).setCell ⟨N,3,none⟩ e).setCell ⟨N,4,none⟩ f):=
 ((((h.setCell (p:=⟨N,0,none⟩) hN _).setCell (p:=⟨N,1,none⟩) hN _).setCell (p:=⟨N,2,none⟩) hN _).setCell (p:=⟨N,3,none⟩) hN _).setCell (p:=⟨N,4,none⟩) hN _
theorem copy_any (w:World) (s:Sq) (hs:s.Ok) (pa ca:Option Addr) (pc cc:Nat) (hi:s.In w pa ca):
 Calls Tryz.prog 49 #[s.val pa pc ca cc] w fun e w' => ∃ pa' pc' ca' cc',e = .returned (s.val pa' pc' ca' cc')∧Own w' w.heap.size 1 pa' s.ps.length pc' (s.ps.map natV)∧Own w' w.heap.size 1 ca' s.ps.length cc' (s.cs.map u8V)∧(∀ g∈blk pa',g ∉ blk ca')∧Below w.heap.size w w':=by
 obtain ⟨ps,cs,lv,sos,eos⟩:=s
 have hbig:=hs.big
 have hsame:=hs.same
 simp only at hbig hsame
 have e1:ps.map natV = (ps.map (fun x:Nat => (x:Int))).map i64V:=by rw [List.map_map];rfl
 have HC1:=Lib.hid (fun w h => cloneP_any w pa ps.length pc (ps.map (fun x:Nat => (x:Int))) (by simp) (by omega) h)
 rw [← e1] at HC1
 have HC2:=Lib.hid (fun w h => cloneC_any w ca ps.length cc cs hsame (by omega) h)
 have HIN:=Lib.hid hi
 unfold Sq.val
 simp only
 obtain ⟨n,hn⟩:∃ n,n = ps.length:=⟨_,rfl⟩
 rw [← hn] at hbig HC1 HC2 ⊢
 clear hi hs hsame e1 hn
 obtain ⟨O1,hO1⟩:∃ O,O = Obj.cells #[.slice pa n pc,.slice ca n cc,.int .i8 lv,.int .u8 sos,.int .u8 eos] 75:=⟨_,rfl⟩
 obtain ⟨O2,hO2⟩:∃ O,O = Obj.cells #[.slice none 0 0,.slice none 0 0,.int .i8 0,.int .u8 0,.int .u8 0] 75:=⟨_,rfl⟩
 have hw1:((w.alloc O1).alloc O2).heap[w.heap.size]? = some O1:=(Below.heap_alloc _ _ _ (by simp)).trans (heap_alloc_new w O1)
 have hw2:((w.alloc O1).alloc O2).heap[w.heap.size + 1]? = some O2:=by
  have:=heap_alloc_new (w.alloc O1) O2
  rwa [World.size_alloc] at this
 have hb0:Below w.heap.size w ((w.alloc O1).alloc O2):=((Below.refl _ _).alloc (Nat.le_refl _) _).alloc (by simp) _
 have hsz0:((w.alloc O1).alloc O2).heap.size = w.heap.size + 2:=by simp
 have HW1:=Lib.hid hw1
 have HW2:=Lib.hid hw2
 have HB0:=Lib.hid hb0
 have HSZ:=Lib.hid hsz0
 subst hO1
 subst hO2
 clear hw1 hw2 hb0 hsz0
 go_enter Tryz.func49,Tryz.ntmps49
 go_wp2_with (first | (go_at_call 84;refine (HC1.out _ (HIN.out.ps.below HB0.out)).mono ?_;rintro e w1 ⟨pa',pc',rfl,hown1,hb1⟩;have HO1:=Lib.hid hown1;have HB1:=Lib.hid hb1;have hx1:=(hb1.block w.heap.size (by rw [HSZ.out];omega)).trans HW1.out;have hc0:=cells_at hx1 0;have hf0:=frozen_at hx1 0;have hc1:=cells_at hx1 1;have HX1:=Lib.hid hx1;clear hown1 hb1 hx1) | (go_at_call 41;refine (HC2.out _ (HIN.out.cs.below ((HB0.out.trans (HB1.out.mono (by rw [HSZ.out];omega))).setCell (p:=⟨w.heap.size,0,none⟩) (Nat.le_refl _) _))).mono ?_;rintro e w2 ⟨ca',cc',rfl,hown2,hb2⟩;have HO2:=Lib.hid hown2;have HB2:=Lib.hid hb2;have HL1:=Lib.hid (show w.heap.size + 2≤w1.heap.size by have:=HB1.out.size;rw [HSZ.out] at this;exact this);have HX2:=Lib.hid ((hb2.block w.heap.size (by have:=HL1.out;simp;omega)).trans (heap_set HX1.out (.slice pa' n pc')));have HY2:=Lib.hid ((hb2.block (w.heap.size + 1) (by have:=HL1.out;simp;omega)).trans (heap_other ((HB1.out.block (w.heap.size + 1) (by rw [HSZ.out];omega)).trans HW2.out) (by omega) (.slice pa' n pc')));have hc1:=cells_at HX2.out 1;have hf1:=frozen_at HX2.out 1;have hd0:=cells_at HX2.out 0;have hd2:=cells_at HX2.out 2;have hd3:=cells_at HX2.out 3;have hd4:=cells_at HX2.out 4;have he0:=cells_at HY2.out 0;have he1:=cells_at HY2.out 1;have he2:=cells_at HY2.out 2;have he3:=cells_at HY2.out 3;have he4:=cells_at HY2.out 4;have hg0:=frozen_at HY2.out 0;have hg1:=frozen_at HY2.out 1;have hg2:=frozen_at HY2.out 2;have hg3:=frozen_at HY2.out 3;have hg4:=frozen_at HY2.out 4;clear hown2 hb2))
 have hY3:=heap_other HY2.out (show w.heap.size + 1≠w.heap.size by omega) (j:=1) (.slice ca' n cc')
 have hfin:=heap_set5 hY3 (.slice pa' n pc') (.slice ca' n cc') (.int .i8 lv) (.int .u8 sos) (.int .u8 eos)
 have n1:w.heap.size ∉ blk pa'∧w.heap.size + 1 ∉ blk pa':=⟨fun h => by have:=(HO1.out.blk_lt _ h).1;rw [HSZ.out] at this;omega,fun h => by have:=(HO1.out.blk_lt _ h).1;rw [HSZ.out] at this;omega⟩
 have n2:w.heap.size ∉ blk ca'∧w.heap.size + 1 ∉ blk ca':=⟨fun h => by have:=(HO2.out.blk_lt _ h).1;have:=HL1.out;simp at *;omega,fun h => by have:=(HO2.out.blk_lt _ h).1;have:=HL1.out;simp at *;omega⟩
 have o1:=((HO1.out.stored_other ⟨w.heap.size,0,none⟩ (.slice pa' n pc') (fun g hg e => n1.1 (by rw [blk_mem,blockOf_some hg,e]))).below HB2.out)
 have o1':=o1.stored_other ⟨w.heap.size,1,none⟩ (.slice ca' n cc') (fun g hg e => n1.1 (by rw [blk_mem,blockOf_some hg,e]))
 have o2':=HO2.out.stored_other ⟨w.heap.size,1,none⟩ (.slice ca' n cc') (fun g hg e => n2.1 (by rw [blk_mem,blockOf_some hg,e]))
 have bb:=((HB0.out.trans (HB1.out.mono (by rw [HSZ.out];omega))).setCell (p:=⟨w.heap.size,0,none⟩) (Nat.le_refl _) (.slice pa' n pc'))
 have bb2:=(bb.trans (HB2.out.mono bb.size)).setCell (p:=⟨w.heap.size,1,none⟩) (Nat.le_refl _) (.slice ca' n cc')
 exact bodyPost_ret (results_cell_row (P:=Tryz.prog) rfl _ _ (w.heap.size + 1) 75 _ (0,0) _ rfl hfin Tryz.underlying75 rfl (by kernel_rfl)) rfl ⟨pa',pc',ca',cc',rfl,(o1'.set5 n1.2 _ _ _ _ _).mono (by rw [HSZ.out];omega),(o2'.set5 n2.2 _ _ _ _ _).mono (by have:=HL1.out;simp;omega),fun g h1 h2 => by have k1:=(HO1.out.blk_lt g h1).2;have k2:=(HO2.out.blk_lt g h2).1;simp at k2;omega,below_set5 bb2 (by omega) _ _ _ _ _⟩
end Go.Proofs.YtjnidopbdjbbgaaGreat
end
