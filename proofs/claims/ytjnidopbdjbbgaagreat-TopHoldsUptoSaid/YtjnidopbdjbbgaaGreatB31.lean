/-
  The pile of brackets: an opening one put on, its closing one found; walked.
-/
import Derived.Test.YtjnidopbdjbbgaaGreatB30
import Derived.Deep.CutBlock
import Derived.Stop.RegionWithIn
namespace Go.Proofs.YtjnidopbdjbbgaaGreat
open Go.RowKit
set_option linter.unusedVariables false
attribute [local go_sem] Oper.semAt_some
theorem info218:(Tryz.prog.info? 218).map (fun i => (i.zero,i.size,i.bytes)) = some (some (.agg #[.int .i64 0,.int .i32 0]),2,16):=by kernel_rfl
theorem info119:(Tryz.prog.info? 119).map (fun i => (i.zero,i.size,i.bytes)) = some (some (.agg #[.int .i64 0,.int .i64 0]),2,16):=by kernel_rfl
/-- A pile that lies at a block. -/
def PkAt (w:World) (sb:Nat) (la:Option Addr) (ln lc:Nat) (fa:Option Addr) (fn fc:Nat):Prop:=w.heap[sb]? = some (.cells #[.slice la ln lc,.slice fa fn fc,.bool false,.bool true] 216)
set_option maxRecDepth 20000
set_option maxHeartbeats 4000000
theorem pnone_any (w:World) (sb:Nat) (la:Option Addr) (ln lc:Nat) (fa:Option Addr) (fn fc:Nat) (h:PkAt w sb la ln lc fa fn fc):Calls Tryz.prog 132 #[.pointer (some ⟨sb,0,none⟩)] w fun e w' => e = .returned (.bool false)∧w = w':=by
 have h3:=cells_at h 3
 clear h
 go_enter Tryz.func132,Tryz.ntmps132
 go_wp2
 go_ret
 exact ⟨rfl,rfl⟩
theorem pnew_any (w:World):Calls Tryz.prog 102 #[] w fun e w' => e = .returned (.pointer (some ⟨w.heap.size,0,none⟩))∧PkAt w' w.heap.size none 0 0 none 0 0∧Below w.heap.size w w':=by
 go_enter Tryz.func102,Tryz.ntmps102
 go_wp2
 go_ret
 exact ⟨rfl,heap_alloc_new _ _,(Below.refl _ _).alloc (Nat.le_refl _) _⟩
theorem popen_any (w:World) (sb:Nat) (at0:Nat) (cl:Int) (h:PkAt w sb none 0 0 none 0 0):Calls Tryz.prog 104 #[.pointer (some ⟨sb,0,none⟩),.int .i64 at0,.int .i32 cl] w fun e w' => e = .returned (.int .i64 0) ∧
 ∃ la lc,PkAt w' sb la 1 lc none 0 0∧Own w' w.heap.size 2 la 1 lc [.int .i64 at0,.int .i32 cl]∧Kept (fun k => k = sb) w w':=by
 obtain ⟨i0,hi,hz0,hz1,hz2⟩:=info_parts info218
 have HN:=Lib.hid (fun w h => pnone_any w sb none 0 0 none 0 0 h)
 have H:=Lib.hid h
 have h0:=cells_at h 0
 have h2:=cells_at h 2
 have f0:=frozen_at h 0
 have HL:=Lib.hid (show sb < w.heap.size from (Array.getElem?_eq_some_iff.1 h).1)
 have hlt:=HL.out
 clear h
 go_enter Tryz.func104,Tryz.ntmps104
 go_wp2_with (first | (go_at_call 132;refine (HN.out _ H.out).mono ?_;rintro e w2 ⟨rfl,rfl⟩) | (at_builtin;refine wpList_pushN rfl _ _ 214 rfl 218 i0 _ 2 16 Tryz.underlying214 hi hz0 hz1 (by decide) hz2 rfl (by simp [Value.cells,Value.oneCell']) w.heap.size none 0 0 [] rfl w [.int .i64 at0,.int .i32 cl] rfl rfl (Own.nil _ _ _) _ rfl rfl (by simp [Value.oneCell']) (by omega) (by decide) (Nat.le_refl _) ?_;intro oa oc w4 hown4 hap4 hbe4;have HO4:=Lib.hid hown4;have HB4:=Lib.hid hbe4;have HX4:=Lib.hid ((hbe4.block sb HL.out).trans H.out);have g0:=cells_at HX4.out 0;have k0:=frozen_at HX4.out 0;clear hown4 hap4 hbe4))
 go_ret
 refine ⟨rfl,oa,oc,heap_set HX4.out _,?_,(Kept.of_below (S:=fun k => k = sb) HB4.out).setCell rfl 0 _⟩
 exact HO4.out.stored_other _ _ (fun g hg e => by have h1:=(HO4.out.blk_lt g (blk_mem.2 (blockOf_some hg))).1;have h2:=HL.out;simp at e;omega)
theorem pback_any (w:World) (a:Option Addr) (n c:Nat):Calls Tryz.prog 133 #[.slice a n c] w fun e w' => e = .returned (.func (.func 151) #[] #[.pointer (some ⟨w.heap.size,0,none⟩)])∧w' = w.alloc (.cells #[.slice a n c] 214):=by
 go_enter Tryz.func133,Tryz.ntmps133
 go_wp2
 go_ret
 exact ⟨rfl,rfl⟩
theorem own_fresh (w0 w:World) (e:TypeId) (v1 v2 z1 z2:Value) (t:TypeId):Own (w.alloc (.cells (#[v1,v2] ++ Builtin.zeroCells #[z1,z2] (grownCap w0 1 0 e - 1)) t)) w.heap.size 2 (some ⟨w.heap.size,0,none⟩) 1 (grownCap w0 1 0 e) [v1,v2]:=by
 have hge:=grownCap_ge w0 1 0 e
 have hml:=grownCap_le_maxLen w0 1 0 e (by simp [maxLen])
 refine ⟨rfl,hge,hml,.inr ⟨_,rfl,Nat.le_refl _,by simp,fun j u hu => ?_,fun j hj => ⟨?_,World.frozen?_alloc_new _ _ _ _⟩⟩⟩
 · rw [World.cell?_alloc_new,Array.getElem?_append_left (by have:=(List.getElem?_eq_some_iff.1 hu).1;simpa using this)]
   simpa using hu
 · rw [World.cell?_alloc_new]
   have hsz:j < (#[v1,v2] ++ Builtin.zeroCells #[z1,z2] (grownCap w0 1 0 e - 1)).size:=by
    rw [Array.size_append,size_zeroCells]
    simp
    omega
   rw [Array.getElem?_eq_getElem hsz]
   rfl
/-- The boxes of Close, and the pile. -/
structure ClAt (W:World) (B sb at1:Nat) (cl:Int) (r0 r1:Nat) (rb:Bool) (la:Option Addr) (ln lc:Nat) (fa:Option Addr) (fn fc:Nat):Prop where
 b0:W.heap[B]? = some (.cells #[.pointer (some ⟨sb,0,none⟩)] 171)
 b1:W.heap[B + 1]? = some (.cells #[.int .i64 at1] 3)
 b2:W.heap[B + 1 + 1]? = some (.cells #[.int .i32 cl] 21)
 b3:W.heap[B + 1 + 1 + 1]? = some (.cells #[.int .i64 r0,.int .i64 r1] 119)
 b4:W.heap[B + 1 + 1 + 1 + 1]? = some (.cells #[.bool rb] 4)
 pk:PkAt W sb la ln lc fa fn fc
theorem ClAt.others {W W':World} {B sb at1:Nat} {cl:Int} {r0 r1:Nat} {rb:Bool} {la:Option Addr} {ln lc:Nat} {fa:Option Addr} {fn fc:Nat} (h:ClAt W B sb at1 cl r0 r1 rb la ln lc fa fn fc) {row:Option Nat} (hg:W.grownBy W' row) (hr:∀ r,row = some r→∃ o:Obj,W.heap[r]? = some o∧o.isCells = false):ClAt W' B sb at1 cl r0 r1 rb la ln lc fa fn fc:=
 ⟨cells_others h.b0 hg hr,cells_others h.b1 hg hr,cells_others h.b2 hg hr,cells_others h.b3 hg hr,cells_others h.b4 hg hr,cells_others h.pk hg hr⟩
theorem ClAt.below {W W':World} {B sb at1:Nat} {cl:Int} {r0 r1:Nat} {rb:Bool} {la:Option Addr} {ln lc:Nat} {fa:Option Addr} {fn fc:Nat} (h:ClAt W B sb at1 cl r0 r1 rb la ln lc fa fn fc) (hb:Below W.heap.size W W'):ClAt W' B sb at1 cl r0 r1 rb la ln lc fa fn fc:=
 ⟨(hb.block _ (Array.getElem?_eq_some_iff.1 h.b0).1).trans h.b0,(hb.block _ (Array.getElem?_eq_some_iff.1 h.b1).1).trans h.b1,(hb.block _ (Array.getElem?_eq_some_iff.1 h.b2).1).trans h.b2,(hb.block _ (Array.getElem?_eq_some_iff.1 h.b3).1).trans h.b3,(hb.block _ (Array.getElem?_eq_some_iff.1 h.b4).1).trans h.b4,(hb.block _ (Array.getElem?_eq_some_iff.1 h.pk).1).trans h.pk⟩
theorem cl_start (w:World) (sb at1:Nat) (cl:Int) (la:Option Addr) (lc:Nat) (h:PkAt w sb la 1 lc none 0 0):
 ClAt (((((w.alloc (.cells #[.pointer (some ⟨sb,0,none⟩)] 171)).alloc (.cells #[.int .i64 at1] 3)).alloc (.cells #[.int .i32 cl] 21)).alloc (.cells #[.int .i64 0,.int .i64 0] 119)).alloc (.cells #[.bool false] 4)) w.heap.size sb at1 cl 0 0 false la 1 lc none 0 0 ∧
 Below w.heap.size w (((((w.alloc (.cells #[.pointer (some ⟨sb,0,none⟩)] 171)).alloc (.cells #[.int .i64 at1] 3)).alloc (.cells #[.int .i32 cl] 21)).alloc (.cells #[.int .i64 0,.int .i64 0] 119)).alloc (.cells #[.bool false] 4)):=by
 have b1:Below w.heap.size w (w.alloc (.cells #[.pointer (some ⟨sb,0,none⟩)] 171)):=(Below.refl _ _).alloc (Nat.le_refl _) _
 refine ⟨⟨?_,?_,?_,?_,?_,?_⟩,(((b1.alloc (by simp) _).alloc (by simp;omega) _).alloc (by simp;omega) _).alloc (by simp;omega) _⟩
 · exact ((((Below.refl _ _).alloc (Nat.le_refl _) _).alloc (by simp) _).alloc (by simp) _ |>.alloc (by simp) _).block w.heap.size (by simp) |>.trans (heap_alloc_new w _)
 · have h1:=heap_alloc_new (w.alloc (.cells #[.pointer (some ⟨sb,0,none⟩)] 171)) (.cells #[.int .i64 (at1:Int)] 3)
   rw [World.size_alloc] at h1
   exact ((((Below.refl _ _).alloc (Nat.le_refl _) _).alloc (by simp) _).alloc (by simp) _).block (w.heap.size + 1) (by simp) |>.trans h1
 · have h1:=heap_alloc_new ((w.alloc (.cells #[.pointer (some ⟨sb,0,none⟩)] 171)).alloc (.cells #[.int .i64 (at1:Int)] 3)) (.cells #[.int .i32 cl] 21)
   rw [World.size_alloc,World.size_alloc] at h1
   exact (((Below.refl _ _).alloc (Nat.le_refl _) _).alloc (by simp) _).block (w.heap.size + 1 + 1) (by simp) |>.trans h1
 · have h1:=heap_alloc_new (((w.alloc (.cells #[.pointer (some ⟨sb,0,none⟩)] 171)).alloc (.cells #[.int .i64 (at1:Int)] 3)).alloc (.cells #[.int .i32 cl] 21)) (.cells #[.int .i64 0,.int .i64 0] 119)
   rw [World.size_alloc,World.size_alloc,World.size_alloc] at h1
   exact ((Below.refl _ _).alloc (Nat.le_refl _) _).block (w.heap.size + 1 + 1 + 1) (by simp) |>.trans h1
 · have h1:=heap_alloc_new ((((w.alloc (.cells #[.pointer (some ⟨sb,0,none⟩)] 171)).alloc (.cells #[.int .i64 (at1:Int)] 3)).alloc (.cells #[.int .i32 cl] 21)).alloc (.cells #[.int .i64 0,.int .i64 0] 119)) (.cells #[.bool false] 4)
   rw [World.size_alloc,World.size_alloc,World.size_alloc,World.size_alloc] at h1
   exact h1
 · exact (((((b1.alloc (by simp) _).alloc (by simp;omega) _).alloc (by simp;omega) _).alloc (by simp;omega) _).block sb (Array.getElem?_eq_some_iff.1 h).1).trans h
/-- What Close leaves. -/
structure ClEnd (w:World) (sb at0 at1:Nat) (cl:Int) (ab lc:Nat) (W:World):Prop where
 ex:∃ fa fc,ClAt W w.heap.size sb at1 cl at0 at1 true (some ⟨ab,0,none⟩) 0 lc fa 1 fc∧Own W w.heap.size 2 fa 1 fc [.int .i64 at0,.int .i64 at1]
 kept:Kept (fun k => k = sb) w W
theorem Kept.grown {S:Nat→Prop} {w W W':World} {row:Option Nat} (h:Kept S w W) (hg:W.grownBy W' row) (hr:∀ r,row = some r→w.heap.size≤r):Kept S w W':=
 ⟨hg.os.trans h.os,hg.tape.trans h.tape,hg.output.trans h.output,Nat.le_trans h.size hg.size,fun k hk hs => (hg.block k (Nat.lt_of_lt_of_le hk h.size) (fun e => by have:=hr k e.symm;omega)).trans (h.block k hk hs)⟩
theorem clEnd_own {w:World} {sb at0 at1:Nat} {cl:Int} {ab lc B:Nat} (hB:w.heap.size≤B):OwnFrom B (fun (_:Unit) W => ClEnd w sb at0 at1 cl ab lc W):=fun _ W W' row h hg hr => by
 obtain ⟨fa,fc,h1,h2⟩:=h.ex
 exact ⟨⟨fa,fc,h1.others hg (fun r e => (hr r e).2),h2.others hg (fun r e => (hr r e).2)⟩,h.kept.grown hg (fun r e => Nat.le_trans hB (hr r e).1)⟩
theorem close_mid {w V W2:World} {sb at0 at1 ab lc xb cap:Nat} {cl:Int} (h:ClAt V w.heap.size sb at1 cl 0 0 false (some ⟨ab,0,none⟩) 0 lc none 0 0) (hx:V.heap[xb]? = some (.cells #[.int .i64 at0,.int .i64 at1] 119)) (hk:Kept (fun k => k = sb) w V) (ho:KeepsOthers W2 V) (hsb:sb < w.heap.size) (hxs:sb < xb) (hcap:cap = grownCap V.drew 1 0 119):
 ∀ X,X = (((V.setCell ⟨sb,1,none⟩ (.slice (some ⟨V.heap.size + 1,0,none⟩) 1 cap)).alloc (.cells #[.int .i64 at0,.int .i64 at1] 119)).alloc (.cells (#[.int .i64 at0,.int .i64 at1] ++ Builtin.zeroCells #[.int .i64 0,.int .i64 0] (cap - 1)) 119)).drew.drew →
  ClAt X w.heap.size sb at1 cl 0 0 false (some ⟨ab,0,none⟩) 0 lc (some ⟨V.heap.size + 1,0,none⟩) 1 cap∧X.heap[xb]? = some (.cells #[.int .i64 at0,.int .i64 at1] 119)∧Own X w.heap.size 2 (some ⟨V.heap.size + 1,0,none⟩) 1 cap [.int .i64 at0,.int .i64 at1]∧Kept (fun k => k = sb) w X∧KeepsOthers W2 X∧w.heap.size + 1 + 1 + 1 + 1 < V.heap.size:=by
 intro X hX
 subst hX
 have h4:=(Array.getElem?_eq_some_iff.1 h.b4).1
 have hV1:ClAt (V.setCell ⟨sb,1,none⟩ (.slice (some ⟨V.heap.size + 1,0,none⟩) 1 cap)) w.heap.size sb at1 cl 0 0 false (some ⟨ab,0,none⟩) 0 lc (some ⟨V.heap.size + 1,0,none⟩) 1 cap:=
  ⟨heap_other h.b0 (by omega) _,heap_other h.b1 (by omega) _,heap_other h.b2 (by omega) _,heap_other h.b3 (by omega) _,heap_other h.b4 (by omega) _,heap_set h.pk _⟩
 have hX1:=heap_other hx (j:=1) (show xb≠sb by omega) (.slice (some ⟨V.heap.size + 1,0,none⟩) 1 cap)
 have hK1:=hk.setCell (g:=sb) rfl 1 (.slice (some ⟨V.heap.size + 1,0,none⟩) 1 cap)
 have hO1:=ho.trans (KeepsOthers.setCell V ⟨sb,1,none⟩ (.slice (some ⟨V.heap.size + 1,0,none⟩) 1 cap))
 have hs1:(V.setCell ⟨sb,1,none⟩ (.slice (some ⟨V.heap.size + 1,0,none⟩) 1 cap)).heap.size = V.heap.size:=by simp
 generalize V.setCell ⟨sb,1,none⟩ (.slice (some ⟨V.heap.size + 1,0,none⟩) 1 cap) = V1 at *
 have hb:Below V1.heap.size V1 (((V1.alloc (.cells #[.int .i64 at0,.int .i64 at1] 119)).alloc (.cells (#[.int .i64 at0,.int .i64 at1] ++ Builtin.zeroCells #[.int .i64 0,.int .i64 0] (cap - 1)) 119)).drew.drew):=((((Below.refl _ _).alloc (Nat.le_refl _) _).alloc (by simp) _).drew).drew
 have ho1:=own_fresh V.drew (V1.alloc (.cells #[.int .i64 at0,.int .i64 at1] 119)) 119 (.int .i64 at0) (.int .i64 at1) (.int .i64 0) (.int .i64 0) 119
 rw [← hcap,World.size_alloc,hs1] at ho1
 refine ⟨hV1.below hb,(hb.block xb (Array.getElem?_eq_some_iff.1 hX1).1).trans hX1,(ho1.drew.drew).mono (by omega),hK1.trans (Kept.of_below (S:=fun k => k = sb) hb) (fun i hi => .inl hi),(((hO1.trans (KeepsOthers.alloc _ _)).trans (KeepsOthers.alloc _ _)).trans (KeepsOthers.drew _)).trans (KeepsOthers.drew _),h4⟩
theorem close_end {w X W2:World} {sb at0 at1 ab lc fc:Nat} {cl:Int} {fa:Option Addr} (h:ClAt X w.heap.size sb at1 cl 0 0 false (some ⟨ab,0,none⟩) 0 lc fa 1 fc) (ho:Own X w.heap.size 2 fa 1 fc [.int .i64 at0,.int .i64 at1]) (hfa:∀ g∈blk fa,w.heap.size + 1 + 1 + 1 + 1 < g) (hk:Kept (fun k => k = sb) w X) (hO:KeepsOthers W2 X) (hsb:sb < w.heap.size):
 KeepsOthers W2 (((X.setCell ⟨w.heap.size + 1 + 1 + 1,0,none⟩ (.int .i64 at0)).setCell ⟨w.heap.size + 1 + 1 + 1,1,none⟩ (.int .i64 at1)).setCell ⟨w.heap.size + 1 + 1 + 1 + 1,0,none⟩ (.bool true)) ∧
 ClEnd w sb at0 at1 cl ab lc (((X.setCell ⟨w.heap.size + 1 + 1 + 1,0,none⟩ (.int .i64 at0)).setCell ⟨w.heap.size + 1 + 1 + 1,1,none⟩ (.int .i64 at1)).setCell ⟨w.heap.size + 1 + 1 + 1 + 1,0,none⟩ (.bool true)):=by
 have n3:∀ g,fa = some ⟨g,0,none⟩→g≠w.heap.size + 1 + 1 + 1:=fun g hg e => by have:=hfa g (blk_mem.2 (blockOf_some hg));omega
 have n4:∀ g,fa = some ⟨g,0,none⟩→g≠w.heap.size + 1 + 1 + 1 + 1:=fun g hg e => by have:=hfa g (blk_mem.2 (blockOf_some hg));omega
 have k3:X.heap[w.heap.size + 1 + 1 + 1]? = some (.cells #[.int .i64 (0:Nat),.int .i64 (0:Nat)] 119):=h.b3
 have e3:((X.setCell ⟨w.heap.size + 1 + 1 + 1,0,none⟩ (.int .i64 at0)).setCell ⟨w.heap.size + 1 + 1 + 1,1,none⟩ (.int .i64 at1)).heap[w.heap.size + 1 + 1 + 1]? = some (.cells #[.int .i64 at0,.int .i64 at1] 119):=heap_set (heap_set k3 _) _
 refine ⟨((hO.trans (KeepsOthers.setCell _ _ _)).trans (KeepsOthers.setCell _ _ _)).trans (KeepsOthers.setCell _ _ _),⟨fa,fc,⟨?_,?_,?_,?_,?_,?_⟩,((ho.stored_other _ _ n3).stored_other _ _ n3).stored_other _ _ n4⟩,((hk.setNew (by omega) 0 _).setNew (by omega) 1 _).setNew (by omega) 0 _⟩
 · exact heap_other (heap_other (heap_other h.b0 (by omega) _) (by omega) _) (by omega) _
 · exact heap_other (heap_other (heap_other h.b1 (by omega) _) (by omega) _) (by omega) _
 · exact heap_other (heap_other (heap_other h.b2 (by omega) _) (by omega) _) (by omega) _
 · exact heap_other e3 (by omega) _
 · exact heap_set (heap_other (heap_other h.b4 (by omega) _) (by omega) _) _
 · exact heap_other (heap_other (heap_other h.pk (by omega) _) (by omega) _) (by omega) _
theorem res105 {B:Nat} (x y:Value) (b:Bool):∀ (tmps:Array Value) (W':World),W'.heap[B]? = some (.cells #[x,y] 119)→W'.heap[B + 1]? = some (.cells #[.bool b] 4)→tmps.getD 6 undef = .pointer (some ⟨B,0,none⟩)→tmps.getD 7 undef = .pointer (some ⟨B + 1,0,none⟩)→(results Tryz.f105 tmps).run Tryz.prog W' = .ok (.tuple #[.agg #[x,y],.bool b]) W':=by
 intro tmps W' h1 h2 h3 h4
 have l1:=run_loadVar_row (P:=Tryz.prog) _ B 119 119 _ _ _ h1 Tryz.underlying119 rfl (by kernel_rfl)
 have h5:W'.cell? ⟨B + 1,0,none⟩ = some (.bool b):=cells_at h2 0
 have l2:(loadVar 4 ⟨B + 1,0,none⟩).run Tryz.prog W' = .ok (.bool b) W':=by simp [go_sem,h5]
 have e:Tryz.f105.results = #[.cell 6 119,.cell 7 4]:=rfl
 unfold results
 rw [e]
 simp only [Array.getD_eq_getD_getElem?] at h3 h4
 simp [h3,h4,asAddr,l1,l2]
theorem pclose_in (w:World) (sb:Nat) (at0 at1:Nat) (cl:Int) (ab lc:Nat) (hlc:1≤lc) (h:PkAt w sb (some ⟨ab,0,none⟩) 1 lc none 0 0) (o0:w.cell? ⟨ab,0,none⟩ = some (.int .i64 at0)) (o1:w.cell? ⟨ab,1,none⟩ = some (.int .i32 cl)):CallsIn Fence.wide 5 Tryz.prog 105 #[.pointer (some ⟨sb,0,none⟩),.int .i64 at1,.int .i32 cl] w fun e w' =>
 e = .returned (.tuple #[.agg #[.int .i64 at0,.int .i64 at1],.bool true])∧∃ fa fc,PkAt w' sb (some ⟨ab,0,none⟩) 0 lc fa 1 fc∧Own w' w.heap.size 2 fa 1 fc [.int .i64 at0,.int .i64 at1]∧Kept (fun k => k = sb) w w':=by
 obtain ⟨i0,hi,hz0,hz1,hz2⟩:=info_parts info119
 obtain ⟨hcl,hbl⟩:=cl_start w sb at1 cl (some ⟨ab,0,none⟩) lc h
 have HSB:=Lib.hid (show sb < w.heap.size from (Array.getElem?_eq_some_iff.1 h).1)
 have HAB:=Lib.hid (World.block_lt_of_cell? w _ o0)
 obtain ⟨W0,hW0⟩:∃ W0,W0 = ((((w.alloc (.cells #[.pointer (some ⟨sb,0,none⟩)] 171)).alloc (.cells #[.int .i64 at1] 3)).alloc (.cells #[.int .i32 cl] 21)).alloc (.cells #[.int .i64 0,.int .i64 0] 119)).alloc (.cells #[.bool false] 4):=⟨_,rfl⟩
 rw [← hW0] at hcl hbl
 have HS0:=Lib.hid (show W0.heap.size = w.heap.size + 5 by rw [hW0];simp)
 have HW0:=Lib.hid hW0
 have HCL:=Lib.hid hcl
 have HBL:=Lib.hid hbl
 have HN:=Lib.hid (fun w h => pnone_any w sb (some ⟨ab,0,none⟩) 1 lc none 0 0 h)
 have c0:=cells_at HCL.out.b0 0
 have k0:=cells_at HCL.out.pk 0
 have k2:=cells_at HCL.out.pk 2
 have O0:=Lib.hid ((hbl.cell (p:=⟨ab,0,none⟩) HAB.out).trans o0)
 have O1:=Lib.hid ((hbl.cell (p:=⟨ab,1,none⟩) HAB.out).trans o1)
 clear h o0 o1 hcl hbl hW0
 refine callsIn_of_wp_marks Tryz.func105 rfl trivial ?_ rfl
 simp only [Tryz.ntmps105,List.size_toArray,List.length_cons,List.length_nil,Nat.reduceAdd,Nat.reduceSub,Array.replicate_succ,Array.replicate_zero,List.push_toArray,List.append_toArray,List.nil_append,List.cons_append]
 refine wpIn_wide.2 ?_
 go_wp2_with fail
 rw [← HW0.out]
 refine (HN.out _ HCL.out.pk).mono ?_
 rintro e w1 ⟨rfl,rfl⟩
 go_wp2_with fail
 refine (pback_any _ _ _ _).mono ?_
 rintro e w2 ⟨rfl,hw2⟩
 have HB2:=Lib.hid (show Below W0.heap.size W0 w2 by rw [hw2];exact (Below.refl _ _).alloc (Nat.le_refl _) _)
 have HBK:=Lib.hid (show w2.heap[W0.heap.size]? = some (.cells #[.slice (some ⟨ab,0,none⟩) 1 lc] 214) by rw [hw2];exact heap_alloc_new _ _)
 have HCL2:=Lib.hid (HCL.out.below HB2.out)
 clear hw2 c0 k0 k2
 go_wp2_with fail
 refine (wpIn_wide (n:=5)).1 ?_
 have HW2S:=Lib.hid (show w.heap.size≤w2.heap.size from by have h1:=HB2.out.size;have h2:=HBL.out.size;omega)
 refine wpIn_rangeR rfl (by omega) (gf:=151) (lb:=#[.pointer (some ⟨W0.heap.size,0,none⟩)]) rfl trivial (enters_of Tryz.func151 (by kernel_rfl) rfl) (enc0:=#[.int .i64 ((0:Nat):Int),.agg #[.int .i64 at0,.int .i32 cl]]) rfl (back_open 4 (by omega) W0.heap.size ab lc 0 at0 cl (by omega))
  (ClEnd w sb at0 at1 cl ab lc) (clEnd_own HW2S.out) (fun V hV => ⟨(hV.block _ (Array.getElem?_eq_some_iff.1 HBK.out).1).trans HBK.out,?c0,?c1⟩) ?round ?stop
 case c0 => exact ((HB2.out.trans (hV.mono HB2.out.size)).cell (p:=⟨ab,0,none⟩) (World.block_lt_of_cell? _ _ O0.out)).trans O0.out
 case c1 => exact ((HB2.out.trans (hV.mono HB2.out.size)).cell (p:=⟨ab,1,none⟩) (World.block_lt_of_cell? _ _ O1.out)).trans O1.out
 case round =>
  rename_i Q1 K1 a1
  clear a1 hi hz0 hz1 hz2
  intro lp W hV
  have hw:=HCL2.out.below hV
  have HWA:=Lib.hid hw
  have HKW:=Lib.hid (Kept.of_below (S:=fun k => k = sb) ((HBL.out.trans (HB2.out.mono HBL.out.size)).trans (hV.mono HW2S.out)))
  have HVS:=Lib.hid hV.size
  clear hw hV
  gi_wp2
  refine ⟨KeepsOthers.alloc _ _,fun W2 hg hlp ho => ?_⟩
  have hr2:∀ r,some lp = some r→∃ o':Obj,(W.alloc (.cells #[.int .i64 at0,.int .i32 cl] 218)).heap[r]? = some o'∧o'.isCells = false:=fun r e => by cases e;exact ho
  have HC2:=Lib.hid ((HWA.out.below ((Below.refl _ _).alloc (Nat.le_refl _) (.cells #[.int .i64 at0,.int .i32 cl] 218))).others hg hr2)
  have HX2:=Lib.hid (cells_others (heap_alloc_new W (.cells #[.int .i64 at0,.int .i32 cl] 218)) hg hr2)
  have HK2:=Lib.hid (((HKW.out.trans (Kept.of_below (S:=fun k => k = sb) ((Below.refl _ _).alloc (Nat.le_refl _) (.cells #[.int .i64 at0,.int .i32 cl] 218))) (fun i h => .inl h))).grown hg (fun r e => by cases e;exact Nat.le_trans HW2S.out hlp))
  have c0:=cells_at HC2.out.b0 0
  have c1:=cells_at HC2.out.b1 0
  have c2:=cells_at HC2.out.b2 0
  have x0:=cells_at HX2.out 0
  have x1:=cells_at HX2.out 1
  have k0:=cells_at HC2.out.pk 0
  have k1:=cells_at HC2.out.pk 1
  have f0:=frozen_at HC2.out.pk 0
  have f1:=frozen_at HC2.out.pk 1
  have HSB2:=Lib.hid (show sb < W2.heap.size from (Array.getElem?_eq_some_iff.1 HC2.out.pk).1)
  have HB4:=Lib.hid (show w.heap.size + 1 + 1 + 1 + 1 < W2.heap.size from (Array.getElem?_eq_some_iff.1 HC2.out.b4).1)
  clear hg hr2 ho hlp
  gi_wp2
  have HW3:=Lib.hid (show Below W2.heap.size W2 (W2.alloc (.cells #[.int .i64 at0,.int .i64 at1] 119)) from (Below.refl _ _).alloc (Nat.le_refl _) _)
  have HC3:=Lib.hid (HC2.out.below HW3.out)
  have HX3:=Lib.hid (heap_alloc_new W2 (.cells #[.int .i64 at0,.int .i64 at1] 119))
  have HK3:=Lib.hid (HK2.out.trans (Kept.of_below (S:=fun k => k = sb) HW3.out) (fun i h => .inl h))
  have HO3:=Lib.hid (KeepsOthers.alloc W2 (.cells #[.int .i64 at0,.int .i64 at1] 119))
  obtain ⟨xb,hxb⟩:∃ xb,W2.heap.size = xb:=⟨_,rfl⟩
  rw [hxb] at HX3 HSB2 HB4 ⊢
  have HXB:=Lib.hid hxb
  clear hxb c0 c1 c2 x0 x1 k0 k1 f0 f1
  generalize W2.alloc (.cells #[.int .i64 at0,.int .i64 at1] 119) = W3 at *
  have c0:W3.cell? ⟨w.heap.size,0,none⟩ = some (.pointer (some ⟨sb,0,none⟩)):=cells_at HC3.out.b0 0
  have k0:W3.cell? ⟨sb,0,none⟩ = some (.slice (some ⟨ab,0,none⟩) 1 lc):=cells_at HC3.out.pk 0
  have f0:=frozen_at HC3.out.pk 0
  have hlc2:(1:Int)≤(lc:Int):=by omega
  refine wpIn_region_any (by kernel_rfl) ?_
  change wpAnyIn _ _ _ _ _ _ _ _ _ (World.drew _)
  apply once
  case h =>
   intro h1023
   apply once
   case h =>
    intro h511
    apply once
    case h =>
     intro h255
     apply once
     case h =>
      intro h127
      apply once
      case h =>
       intro h63
       apply once
       case h =>
        intro h126
        apply once
        case h =>
         intro h31
         apply once
         case h =>
          intro h47
          apply once
          case h =>
           intro h62
           apply once
           case h =>
            intro h15
            apply once
            case h =>
             intro h30
             apply once
             case h =>
              intro h39
              apply once
              case h =>
               intro h46
               apply once
               case h =>
                intro h7
                apply once
                case h =>
                 intro h14
                 apply once
                 case h =>
                  intro h35
                  apply once
                  case h =>
                   intro h38
                   apply once
                   case h =>
                    intro h3
                    apply once
                    case h =>
                     intro h6
                     apply once
                     case h =>
                      intro h33
                      apply once
                      case h =>
                       intro h34
                       apply once
                       case h =>
                        intro h1
                        apply once
                        case h =>
                         intro h2
                         apply once
                         case h =>
                          intro h32
                          refine wpAnyIn_ready (rs:=[0,1,5]) (by kernel_rfl) (by simp) ?_
                          refine AllReadyIn.cons rfl (fun K hK => ?_) ?_
                          · (go_simp);refine hK _ _ ?_;show wpAnyIn _ _ _ _ _ _ _ #[true,false,false,false,false,false,false,false,false,false] _ _;exact h1
                          refine AllReadyIn.cons rfl (fun K hK => ?_) ?_
                          · (go_simp);refine hK _ _ ?_;show wpAnyIn _ _ _ _ _ _ _ #[false,true,false,false,false,false,false,false,false,false] _ _;exact h2
                          refine AllReadyIn.cons rfl (fun K hK => ?_) ?_
                          · (go_simp);refine hK _ _ ?_;show wpAnyIn _ _ _ _ _ _ _ #[false,false,false,false,false,true,false,false,false,false] _ _;exact h32
                          exact AllReadyIn.nil
                         case g =>
                          refine wpAnyIn_ready (rs:=[0,1]) (by kernel_rfl) (by simp) ?_
                          refine AllReadyIn.cons rfl (fun K hK => ?_) ?_
                          · (go_simp);refine hK _ _ ?_;show wpAnyIn _ _ _ _ _ _ _ #[true,false,false,false,false,true,false,false,false,false] _ _;exact h33
                          refine AllReadyIn.cons rfl (fun K hK => ?_) ?_
                          · (go_simp);refine hK _ _ ?_;show wpAnyIn _ _ _ _ _ _ _ #[false,true,false,false,false,true,false,false,false,false] _ _;exact h34
                          exact AllReadyIn.nil
                        case g =>
                         refine wpAnyIn_ready (rs:=[0,2,5]) (by kernel_rfl) (by simp) ?_
                         refine AllReadyIn.cons rfl (fun K hK => ?_) ?_
                         · (go_simp);refine hK _ _ ?_;show wpAnyIn _ _ _ _ _ _ _ #[true,true,false,false,false,false,false,false,false,false] _ _;exact h3
                         refine AllReadyIn.cons rfl (fun K hK => ?_) ?_
                         · (go_simp);refine hK _ _ ?_;show wpAnyIn _ _ _ _ _ _ _ #[false,true,true,false,false,false,false,false,false,false] _ _;exact h6
                         refine AllReadyIn.cons rfl (fun K hK => ?_) ?_
                         · (go_simp);refine hK _ _ ?_;show wpAnyIn _ _ _ _ _ _ _ #[false,true,false,false,false,true,false,false,false,false] _ _;exact h34
                         exact AllReadyIn.nil
                       case g =>
                        refine wpAnyIn_ready (rs:=[1,5]) (by kernel_rfl) (by simp) ?_
                        refine AllReadyIn.cons rfl (fun K hK => ?_) ?_
                        · (go_simp);refine hK _ _ ?_;show wpAnyIn _ _ _ _ _ _ _ #[true,true,false,false,false,false,false,false,false,false] _ _;exact h3
                        refine AllReadyIn.cons rfl (fun K hK => ?_) ?_
                        · (go_simp);refine hK _ _ ?_;show wpAnyIn _ _ _ _ _ _ _ #[true,false,false,false,false,true,false,false,false,false] _ _;exact h33
                        exact AllReadyIn.nil
                      case g =>
                       refine wpAnyIn_ready (rs:=[0,2]) (by kernel_rfl) (by simp) ?_
                       refine AllReadyIn.cons rfl (fun K hK => ?_) ?_
                       · (go_simp);refine hK _ _ ?_;show wpAnyIn _ _ _ _ _ _ _ #[true,true,false,false,false,true,false,false,false,false] _ _;exact h35
                       refine AllReadyIn.cons rfl (fun K hK => ?_) ?_
                       · (go_simp);refine hK _ _ ?_;show wpAnyIn _ _ _ _ _ _ _ #[false,true,true,false,false,true,false,false,false,false] _ _;exact h38
                       exact AllReadyIn.nil
                     case g =>
                      refine wpAnyIn_ready (rs:=[1]) (by kernel_rfl) (by simp) ?_
                      refine AllReadyIn.cons rfl (fun K hK => ?_) ?_
                      · (go_simp);refine hK _ _ ?_;show wpAnyIn _ _ _ _ _ _ _ #[true,true,false,false,false,true,false,false,false,false] _ _;exact h35
                      exact AllReadyIn.nil
                    case g =>
                     refine wpAnyIn_ready (rs:=[0,3,5]) (by kernel_rfl) (by simp) ?_
                     refine AllReadyIn.cons rfl (fun K hK => ?_) ?_
                     · (go_simp);refine hK _ _ ?_;show wpAnyIn _ _ _ _ _ _ _ #[true,true,true,false,false,false,false,false,false,false] _ _;exact h7
                     refine AllReadyIn.cons rfl (fun K hK => ?_) ?_
                     · (go_simp);refine hK _ _ ?_;show wpAnyIn _ _ _ _ _ _ _ #[false,true,true,true,false,false,false,false,false,false] _ _;exact h14
                     refine AllReadyIn.cons rfl (fun K hK => ?_) ?_
                     · (go_simp);refine hK _ _ ?_;show wpAnyIn _ _ _ _ _ _ _ #[false,true,true,false,false,true,false,false,false,false] _ _;exact h38
                     exact AllReadyIn.nil
                   case g =>
                    refine wpAnyIn_ready (rs:=[2,5]) (by kernel_rfl) (by simp) ?_
                    refine AllReadyIn.cons rfl (fun K hK => ?_) ?_
                    · (go_simp);refine hK _ _ ?_;show wpAnyIn _ _ _ _ _ _ _ #[true,true,true,false,false,false,false,false,false,false] _ _;exact h7
                    refine AllReadyIn.cons rfl (fun K hK => ?_) ?_
                    · (go_simp);refine hK _ _ ?_;show wpAnyIn _ _ _ _ _ _ _ #[true,true,false,false,false,true,false,false,false,false] _ _;exact h35
                    exact AllReadyIn.nil
                  case g =>
                   refine wpAnyIn_ready (rs:=[0,3]) (by kernel_rfl) (by simp) ?_
                   refine AllReadyIn.cons rfl (fun K hK => ?_) ?_
                   · (go_simp);refine hK _ _ ?_;show wpAnyIn _ _ _ _ _ _ _ #[true,true,true,false,false,true,false,false,false,false] _ _;exact h39
                   refine AllReadyIn.cons rfl (fun K hK => ?_) ?_
                   · (go_simp);refine hK _ _ ?_;show wpAnyIn _ _ _ _ _ _ _ #[false,true,true,true,false,true,false,false,false,false] _ _;exact h46
                   exact AllReadyIn.nil
                 case g =>
                  refine wpAnyIn_ready (rs:=[2]) (by kernel_rfl) (by simp) ?_
                  refine AllReadyIn.cons rfl (fun K hK => ?_) ?_
                  · (go_simp);refine hK _ _ ?_;show wpAnyIn _ _ _ _ _ _ _ #[true,true,true,false,false,true,false,false,false,false] _ _;exact h39
                  exact AllReadyIn.nil
                case g =>
                 refine wpAnyIn_ready (rs:=[0,4,5]) (by kernel_rfl) (by simp) ?_
                 refine AllReadyIn.cons rfl (fun K hK => ?_) ?_
                 · (go_simp);refine hK _ _ ?_;show wpAnyIn _ _ _ _ _ _ _ #[true,true,true,true,false,false,false,false,false,false] _ _;exact h15
                 refine AllReadyIn.cons rfl (fun K hK => ?_) ?_
                 · (go_simp);refine hK _ _ ?_;show wpAnyIn _ _ _ _ _ _ _ #[false,true,true,true,true,false,false,false,false,false] _ _;exact h30
                 refine AllReadyIn.cons rfl (fun K hK => ?_) ?_
                 · (go_simp);refine hK _ _ ?_;show wpAnyIn _ _ _ _ _ _ _ #[false,true,true,true,false,true,false,false,false,false] _ _;exact h46
                 exact AllReadyIn.nil
               case g =>
                refine wpAnyIn_ready (rs:=[3,5]) (by kernel_rfl) (by simp) ?_
                refine AllReadyIn.cons rfl (fun K hK => ?_) ?_
                · (go_simp);refine hK _ _ ?_;show wpAnyIn _ _ _ _ _ _ _ #[true,true,true,true,false,false,false,false,false,false] _ _;exact h15
                refine AllReadyIn.cons rfl (fun K hK => ?_) ?_
                · (go_simp);refine hK _ _ ?_;show wpAnyIn _ _ _ _ _ _ _ #[true,true,true,false,false,true,false,false,false,false] _ _;exact h39
                exact AllReadyIn.nil
              case g =>
               refine wpAnyIn_ready (rs:=[0,4]) (by kernel_rfl) (by simp) ?_
               refine AllReadyIn.cons rfl (fun K hK => ?_) ?_
               · (go_simp);refine hK _ _ ?_;show wpAnyIn _ _ _ _ _ _ _ #[true,true,true,true,false,true,false,false,false,false] _ _;exact h47
               refine AllReadyIn.cons rfl (fun K hK => ?_) ?_
               · (go_simp);refine hK _ _ ?_;show wpAnyIn _ _ _ _ _ _ _ #[false,true,true,true,true,true,false,false,false,false] _ _;exact h62
               exact AllReadyIn.nil
             case g =>
              refine wpAnyIn_ready (rs:=[3]) (by kernel_rfl) (by simp) ?_
              refine AllReadyIn.cons rfl (fun K hK => ?_) ?_
              · (go_simp);refine hK _ _ ?_;show wpAnyIn _ _ _ _ _ _ _ #[true,true,true,true,false,true,false,false,false,false] _ _;exact h47
              exact AllReadyIn.nil
            case g =>
             refine wpAnyIn_ready (rs:=[0,5]) (by kernel_rfl) (by simp) ?_
             refine AllReadyIn.cons rfl (fun K hK => ?_) ?_
             · (go_simp);refine hK _ _ ?_;show wpAnyIn _ _ _ _ _ _ _ #[true,true,true,true,true,false,false,false,false,false] _ _;exact h31
             refine AllReadyIn.cons rfl (fun K hK => ?_) ?_
             · (go_simp);refine hK _ _ ?_;show wpAnyIn _ _ _ _ _ _ _ #[false,true,true,true,true,true,false,false,false,false] _ _;exact h62
             exact AllReadyIn.nil
           case g =>
            refine wpAnyIn_ready (rs:=[4,5]) (by kernel_rfl) (by simp) ?_
            refine AllReadyIn.cons rfl (fun K hK => ?_) ?_
            · (go_simp);refine hK _ _ ?_;show wpAnyIn _ _ _ _ _ _ _ #[true,true,true,true,true,false,false,false,false,false] _ _;exact h31
            refine AllReadyIn.cons rfl (fun K hK => ?_) ?_
            · (go_simp);refine hK _ _ ?_;show wpAnyIn _ _ _ _ _ _ _ #[true,true,true,true,false,true,false,false,false,false] _ _;exact h47
            exact AllReadyIn.nil
          case g =>
           refine wpAnyIn_ready (rs:=[0,6]) (by kernel_rfl) (by simp) ?_
           refine AllReadyIn.cons rfl (fun K hK => ?_) ?_
           · (go_simp);refine hK _ _ ?_;show wpAnyIn _ _ _ _ _ _ _ #[true,true,true,true,true,true,false,false,false,false] _ _;exact h63
           refine AllReadyIn.cons rfl (fun K hK => ?_) ?_
           · (go_simp);refine hK _ _ ?_;show wpAnyIn _ _ _ _ _ _ _ #[false,true,true,true,true,true,true,false,false,false] _ _;exact h126
           exact AllReadyIn.nil
         case g =>
          refine wpAnyIn_ready (rs:=[4]) (by kernel_rfl) (by simp) ?_
          refine AllReadyIn.cons rfl (fun K hK => ?_) ?_
          · (go_simp);refine hK _ _ ?_;show wpAnyIn _ _ _ _ _ _ _ #[true,true,true,true,true,true,false,false,false,false] _ _;exact h63
          exact AllReadyIn.nil
        case g =>
         refine wpAnyIn_ready (rs:=[5]) (by kernel_rfl) (by simp) ?_
         refine AllReadyIn.cons rfl (fun K hK => ?_) ?_
         · (go_simp);refine hK _ _ ?_;show wpAnyIn _ _ _ _ _ _ _ #[true,true,true,true,true,true,false,false,false,false] _ _;exact h63
         exact AllReadyIn.nil
       case g =>
        refine wpAnyIn_ready (rs:=[0]) (by kernel_rfl) (by simp) ?_
        refine AllReadyIn.cons rfl (fun K hK => ?_) ?_
        · (go_simp);refine hK _ _ ?_;show wpAnyIn _ _ _ _ _ _ _ #[true,true,true,true,true,true,true,false,false,false] _ _;exact h127
        exact AllReadyIn.nil
      case g =>
       refine wpAnyIn_ready (rs:=[6]) (by kernel_rfl) (by simp) ?_
       refine AllReadyIn.cons rfl (fun K hK => ?_) ?_
       · (go_simp);refine hK _ _ ?_;show wpAnyIn _ _ _ _ _ _ _ #[true,true,true,true,true,true,true,false,false,false] _ _;exact h127
       exact AllReadyIn.nil
     case g =>
      refine wpAnyIn_ready (rs:=[7]) (by kernel_rfl) (by simp) ?_
      refine AllReadyIn.cons rfl (fun K hK => ?_) ?_
      · (go_simp);refine hK _ _ ?_;show wpAnyIn _ _ _ _ _ _ _ #[true,true,true,true,true,true,true,true,false,false] _ _;exact h255
      exact AllReadyIn.nil
    case g =>
     refine wpAnyIn_ready (rs:=[8]) (by kernel_rfl) (by simp) ?_
     refine AllReadyIn.cons rfl (fun K hK => ?_) ?_
     · (go_simp);refine hK _ _ ?_;show wpAnyIn _ _ _ _ _ _ _ #[true,true,true,true,true,true,true,true,true,false] _ _;exact h511
     exact AllReadyIn.nil
   case g =>
    refine wpAnyIn_ready (rs:=[9]) (by kernel_rfl) (by simp) ?_
    refine AllReadyIn.cons rfl (fun K hK => ?_) ?_
    · (go_simp);refine hK _ _ ?_;show wpAnyIn _ _ _ _ _ _ _ #[true,true,true,true,true,true,true,true,true,true] _ _;exact h1023
    exact AllReadyIn.nil
  refine wpAnyIn_done (by kernel_rfl) ?_ _
  have HCV:=Lib.hid (show ClAt (W3.setCell ⟨sb,0,none⟩ (.slice (some ⟨ab,0,none⟩) 0 lc)).drew w.heap.size sb at1 cl 0 0 false (some ⟨ab,0,none⟩) 0 lc none 0 0 from by
   have hn:=HSB.out
   exact ⟨heap_other HC3.out.b0 (by omega) _,heap_other HC3.out.b1 (by omega) _,heap_other HC3.out.b2 (by omega) _,heap_other HC3.out.b3 (by omega) _,heap_other HC3.out.b4 (by omega) _,heap_set HC3.out.pk _⟩)
  have HXV:=Lib.hid (show (W3.setCell ⟨sb,0,none⟩ (.slice (some ⟨ab,0,none⟩) 0 lc)).drew.heap[xb]? = some (.cells #[.int .i64 at0,.int .i64 at1] 119) from heap_other HX3.out (by have:=HSB2.out;omega) _)
  have HKV:=Lib.hid (show Kept (fun k => k = sb) w (W3.setCell ⟨sb,0,none⟩ (.slice (some ⟨ab,0,none⟩) 0 lc)).drew from keptD (HK3.out.setCell (g:=sb) rfl 0 _))
  have HOV:=Lib.hid (show KeepsOthers W2 (W3.setCell ⟨sb,0,none⟩ (.slice (some ⟨ab,0,none⟩) 0 lc)).drew from (HO3.out.trans (KeepsOthers.setCell _ _ _)).trans (KeepsOthers.drew _))
  clear c0 k0 f0
  generalize (W3.setCell ⟨sb,0,none⟩ (.slice (some ⟨ab,0,none⟩) 0 lc)).drew = V at *
  have c0:V.cell? ⟨w.heap.size,0,none⟩ = some (.pointer (some ⟨sb,0,none⟩)):=cells_at HCV.out.b0 0
  have k1:V.cell? ⟨sb,1,none⟩ = some (.slice none 0 0):=cells_at HCV.out.pk 1
  have x0:V.cell? ⟨xb,0,none⟩ = some (.int .i64 at0):=cells_at HXV.out 0
  have x1:V.cell? ⟨xb,1,none⟩ = some (.int .i64 at1):=cells_at HXV.out 1
  have fV1:=frozen_at HCV.out.pk 1
  have hwV:w.heap.size < V.heap.size:=(Array.getElem?_eq_some_iff.1 HCV.out.b0).1
  have hsV:sb < V.heap.size:=(Array.getElem?_eq_some_iff.1 HCV.out.pk).1
  have hxV:xb < V.heap.size:=(Array.getElem?_eq_some_iff.1 HXV.out).1
  gi_wp2
  have hfit:¬ (281474976710656 < Builtin.nextslicecap 1 0 * Tryz.t119.bytes):=by decide
  refine wpIn_region_any (by kernel_rfl) ?_
  change wpAnyIn _ _ _ _ _ _ _ _ _ (World.drew _)
  apply once
  case h =>
   intro h2047
   apply once
   case h =>
    intro h1023
    apply once
    case h =>
     intro h511
     apply once
     case h =>
      intro h255
      apply once
      case h =>
       intro h127
       apply once
       case h =>
        intro h254
        apply once
        case h =>
         intro h63
         apply once
         case h =>
          intro h111
          apply once
          case h =>
           intro h126
           apply once
           case h =>
            intro h31
            apply once
            case h =>
             intro h47
             apply once
             case h =>
              intro h62
              apply once
              case h =>
               intro h103
               apply once
               case h =>
                intro h110
                apply once
                case h =>
                 intro h15
                 apply once
                 case h =>
                  intro h30
                  apply once
                  case h =>
                   intro h39
                   apply once
                   case h =>
                    intro h46
                    apply once
                    case h =>
                     intro h99
                     apply once
                     case h =>
                      intro h102
                      apply once
                      case h =>
                       intro h7
                       apply once
                       case h =>
                        intro h14
                        apply once
                        case h =>
                         intro h35
                         apply once
                         case h =>
                          intro h38
                          apply once
                          case h =>
                           intro h97
                           apply once
                           case h =>
                            intro h98
                            apply once
                            case h =>
                             intro h3
                             apply once
                             case h =>
                              intro h6
                              apply once
                              case h =>
                               intro h33
                               apply once
                               case h =>
                                intro h34
                                apply once
                                case h =>
                                 intro h96
                                 apply once
                                 case h =>
                                  intro h1
                                  apply once
                                  case h =>
                                   intro h2
                                   apply once
                                   case h =>
                                    intro h32
                                    refine wpAnyIn_ready (rs:=[0,1,5]) (by kernel_rfl) (by simp) ?_
                                    refine AllReadyIn.cons rfl (fun K hK => ?_) ?_
                                    · (go_simp);refine hK _ _ ?_;show wpAnyIn _ _ _ _ _ _ _ #[true,false,false,false,false,false,false,false,false,false,false] _ _;exact h1
                                    refine AllReadyIn.cons rfl (fun K hK => ?_) ?_
                                    · (go_simp);refine hK _ _ ?_;show wpAnyIn _ _ _ _ _ _ _ #[false,true,false,false,false,false,false,false,false,false,false] _ _;exact h2
                                    refine AllReadyIn.cons rfl (fun K hK => ?_) ?_
                                    · (go_simp);refine hK _ _ ?_;show wpAnyIn _ _ _ _ _ _ _ #[false,false,false,false,false,true,false,false,false,false,false] _ _;exact h32
                                    exact AllReadyIn.nil
                                   case g =>
                                    refine wpAnyIn_ready (rs:=[0,1,6]) (by kernel_rfl) (by simp) ?_
                                    refine AllReadyIn.cons rfl (fun K hK => ?_) ?_
                                    · (go_simp);refine hK _ _ ?_;show wpAnyIn _ _ _ _ _ _ _ #[true,false,false,false,false,true,false,false,false,false,false] _ _;exact h33
                                    refine AllReadyIn.cons rfl (fun K hK => ?_) ?_
                                    · (go_simp);refine hK _ _ ?_;show wpAnyIn _ _ _ _ _ _ _ #[false,true,false,false,false,true,false,false,false,false,false] _ _;exact h34
                                    refine AllReadyIn.cons rfl (fun K hK => ?_) ?_
                                    · (go_simp);refine hK _ _ ?_;show wpAnyIn _ _ _ _ _ _ _ #[false,false,false,false,false,true,true,false,false,false,false] _ _;exact h96
                                    exact AllReadyIn.nil
                                  case g =>
                                   refine wpAnyIn_ready (rs:=[0,2,5]) (by kernel_rfl) (by simp) ?_
                                   refine AllReadyIn.cons rfl (fun K hK => ?_) ?_
                                   · (go_simp);refine hK _ _ ?_;show wpAnyIn _ _ _ _ _ _ _ #[true,true,false,false,false,false,false,false,false,false,false] _ _;exact h3
                                   refine AllReadyIn.cons rfl (fun K hK => ?_) ?_
                                   · (go_simp);refine hK _ _ ?_;show wpAnyIn _ _ _ _ _ _ _ #[false,true,true,false,false,false,false,false,false,false,false] _ _;exact h6
                                   refine AllReadyIn.cons rfl (fun K hK => ?_) ?_
                                   · (go_simp);refine hK _ _ ?_;show wpAnyIn _ _ _ _ _ _ _ #[false,true,false,false,false,true,false,false,false,false,false] _ _;exact h34
                                   exact AllReadyIn.nil
                                 case g =>
                                  refine wpAnyIn_ready (rs:=[1,5]) (by kernel_rfl) (by simp) ?_
                                  refine AllReadyIn.cons rfl (fun K hK => ?_) ?_
                                  · (go_simp);refine hK _ _ ?_;show wpAnyIn _ _ _ _ _ _ _ #[true,true,false,false,false,false,false,false,false,false,false] _ _;exact h3
                                  refine AllReadyIn.cons rfl (fun K hK => ?_) ?_
                                  · (go_simp);refine hK _ _ ?_;show wpAnyIn _ _ _ _ _ _ _ #[true,false,false,false,false,true,false,false,false,false,false] _ _;exact h33
                                  exact AllReadyIn.nil
                                case g =>
                                 refine wpAnyIn_ready (rs:=[0,1]) (by kernel_rfl) (by simp) ?_
                                 refine AllReadyIn.cons rfl (fun K hK => ?_) ?_
                                 · (go_simp);refine hK _ _ ?_;show wpAnyIn _ _ _ _ _ _ _ #[true,false,false,false,false,true,true,false,false,false,false] _ _;exact h97
                                 refine AllReadyIn.cons rfl (fun K hK => ?_) ?_
                                 · (go_simp);refine hK _ _ ?_;show wpAnyIn _ _ _ _ _ _ _ #[false,true,false,false,false,true,true,false,false,false,false] _ _;exact h98
                                 exact AllReadyIn.nil
                               case g =>
                                refine wpAnyIn_ready (rs:=[0,2,6]) (by kernel_rfl) (by simp) ?_
                                refine AllReadyIn.cons rfl (fun K hK => ?_) ?_
                                · (go_simp);refine hK _ _ ?_;show wpAnyIn _ _ _ _ _ _ _ #[true,true,false,false,false,true,false,false,false,false,false] _ _;exact h35
                                refine AllReadyIn.cons rfl (fun K hK => ?_) ?_
                                · (go_simp);refine hK _ _ ?_;show wpAnyIn _ _ _ _ _ _ _ #[false,true,true,false,false,true,false,false,false,false,false] _ _;exact h38
                                refine AllReadyIn.cons rfl (fun K hK => ?_) ?_
                                · (go_simp);refine hK _ _ ?_;show wpAnyIn _ _ _ _ _ _ _ #[false,true,false,false,false,true,true,false,false,false,false] _ _;exact h98
                                exact AllReadyIn.nil
                              case g =>
                               refine wpAnyIn_ready (rs:=[1,6]) (by kernel_rfl) (by simp) ?_
                               refine AllReadyIn.cons rfl (fun K hK => ?_) ?_
                               · (go_simp);refine hK _ _ ?_;show wpAnyIn _ _ _ _ _ _ _ #[true,true,false,false,false,true,false,false,false,false,false] _ _;exact h35
                               refine AllReadyIn.cons rfl (fun K hK => ?_) ?_
                               · (go_simp);refine hK _ _ ?_;show wpAnyIn _ _ _ _ _ _ _ #[true,false,false,false,false,true,true,false,false,false,false] _ _;exact h97
                               exact AllReadyIn.nil
                             case g =>
                              refine wpAnyIn_ready (rs:=[0,3,5]) (by kernel_rfl) (by simp) ?_
                              refine AllReadyIn.cons rfl (fun K hK => ?_) ?_
                              · (go_simp);refine hK _ _ ?_;show wpAnyIn _ _ _ _ _ _ _ #[true,true,true,false,false,false,false,false,false,false,false] _ _;exact h7
                              refine AllReadyIn.cons rfl (fun K hK => ?_) ?_
                              · (go_simp);refine hK _ _ ?_;show wpAnyIn _ _ _ _ _ _ _ #[false,true,true,true,false,false,false,false,false,false,false] _ _;exact h14
                              refine AllReadyIn.cons rfl (fun K hK => ?_) ?_
                              · (go_simp);refine hK _ _ ?_;show wpAnyIn _ _ _ _ _ _ _ #[false,true,true,false,false,true,false,false,false,false,false] _ _;exact h38
                              exact AllReadyIn.nil
                            case g =>
                             refine wpAnyIn_ready (rs:=[2,5]) (by kernel_rfl) (by simp) ?_
                             refine AllReadyIn.cons rfl (fun K hK => ?_) ?_
                             · (go_simp);refine hK _ _ ?_;show wpAnyIn _ _ _ _ _ _ _ #[true,true,true,false,false,false,false,false,false,false,false] _ _;exact h7
                             refine AllReadyIn.cons rfl (fun K hK => ?_) ?_
                             · (go_simp);refine hK _ _ ?_;show wpAnyIn _ _ _ _ _ _ _ #[true,true,false,false,false,true,false,false,false,false,false] _ _;exact h35
                             exact AllReadyIn.nil
                           case g =>
                            refine wpAnyIn_ready (rs:=[0,2]) (by kernel_rfl) (by simp) ?_
                            refine AllReadyIn.cons rfl (fun K hK => ?_) ?_
                            · (go_simp);refine hK _ _ ?_;show wpAnyIn _ _ _ _ _ _ _ #[true,true,false,false,false,true,true,false,false,false,false] _ _;exact h99
                            refine AllReadyIn.cons rfl (fun K hK => ?_) ?_
                            · (go_simp);refine hK _ _ ?_;show wpAnyIn _ _ _ _ _ _ _ #[false,true,true,false,false,true,true,false,false,false,false] _ _;exact h102
                            exact AllReadyIn.nil
                          case g =>
                           refine wpAnyIn_ready (rs:=[1]) (by kernel_rfl) (by simp) ?_
                           refine AllReadyIn.cons rfl (fun K hK => ?_) ?_
                           · (go_simp);refine hK _ _ ?_;show wpAnyIn _ _ _ _ _ _ _ #[true,true,false,false,false,true,true,false,false,false,false] _ _;exact h99
                           exact AllReadyIn.nil
                         case g =>
                          refine wpAnyIn_ready (rs:=[0,3,6]) (by kernel_rfl) (by simp) ?_
                          refine AllReadyIn.cons rfl (fun K hK => ?_) ?_
                          · (go_simp);refine hK _ _ ?_;show wpAnyIn _ _ _ _ _ _ _ #[true,true,true,false,false,true,false,false,false,false,false] _ _;exact h39
                          refine AllReadyIn.cons rfl (fun K hK => ?_) ?_
                          · (go_simp);refine hK _ _ ?_;show wpAnyIn _ _ _ _ _ _ _ #[false,true,true,true,false,true,false,false,false,false,false] _ _;exact h46
                          refine AllReadyIn.cons rfl (fun K hK => ?_) ?_
                          · (go_simp);refine hK _ _ ?_;show wpAnyIn _ _ _ _ _ _ _ #[false,true,true,false,false,true,true,false,false,false,false] _ _;exact h102
                          exact AllReadyIn.nil
                        case g =>
                         refine wpAnyIn_ready (rs:=[2,6]) (by kernel_rfl) (by simp) ?_
                         refine AllReadyIn.cons rfl (fun K hK => ?_) ?_
                         · (go_simp);refine hK _ _ ?_;show wpAnyIn _ _ _ _ _ _ _ #[true,true,true,false,false,true,false,false,false,false,false] _ _;exact h39
                         refine AllReadyIn.cons rfl (fun K hK => ?_) ?_
                         · (go_simp);refine hK _ _ ?_;show wpAnyIn _ _ _ _ _ _ _ #[true,true,false,false,false,true,true,false,false,false,false] _ _;exact h99
                         exact AllReadyIn.nil
                       case g =>
                        refine wpAnyIn_ready (rs:=[0,4,5]) (by kernel_rfl) (by simp) ?_
                        refine AllReadyIn.cons rfl (fun K hK => ?_) ?_
                        · (go_simp);refine hK _ _ ?_;show wpAnyIn _ _ _ _ _ _ _ #[true,true,true,true,false,false,false,false,false,false,false] _ _;exact h15
                        refine AllReadyIn.cons rfl (fun K hK => ?_) ?_
                        · (go_simp);refine hK _ _ ?_;show wpAnyIn _ _ _ _ _ _ _ #[false,true,true,true,true,false,false,false,false,false,false] _ _;exact h30
                        refine AllReadyIn.cons rfl (fun K hK => ?_) ?_
                        · (go_simp);refine hK _ _ ?_;show wpAnyIn _ _ _ _ _ _ _ #[false,true,true,true,false,true,false,false,false,false,false] _ _;exact h46
                        exact AllReadyIn.nil
                      case g =>
                       refine wpAnyIn_ready (rs:=[3,5]) (by kernel_rfl) (by simp) ?_
                       refine AllReadyIn.cons rfl (fun K hK => ?_) ?_
                       · (go_simp);refine hK _ _ ?_;show wpAnyIn _ _ _ _ _ _ _ #[true,true,true,true,false,false,false,false,false,false,false] _ _;exact h15
                       refine AllReadyIn.cons rfl (fun K hK => ?_) ?_
                       · (go_simp);refine hK _ _ ?_;show wpAnyIn _ _ _ _ _ _ _ #[true,true,true,false,false,true,false,false,false,false,false] _ _;exact h39
                       exact AllReadyIn.nil
                     case g =>
                      refine wpAnyIn_ready (rs:=[0,3]) (by kernel_rfl) (by simp) ?_
                      refine AllReadyIn.cons rfl (fun K hK => ?_) ?_
                      · (go_simp);refine hK _ _ ?_;show wpAnyIn _ _ _ _ _ _ _ #[true,true,true,false,false,true,true,false,false,false,false] _ _;exact h103
                      refine AllReadyIn.cons rfl (fun K hK => ?_) ?_
                      · (go_simp);refine hK _ _ ?_;show wpAnyIn _ _ _ _ _ _ _ #[false,true,true,true,false,true,true,false,false,false,false] _ _;exact h110
                      exact AllReadyIn.nil
                    case g =>
                     refine wpAnyIn_ready (rs:=[2]) (by kernel_rfl) (by simp) ?_
                     refine AllReadyIn.cons rfl (fun K hK => ?_) ?_
                     · (go_simp);refine hK _ _ ?_;show wpAnyIn _ _ _ _ _ _ _ #[true,true,true,false,false,true,true,false,false,false,false] _ _;exact h103
                     exact AllReadyIn.nil
                   case g =>
                    refine wpAnyIn_ready (rs:=[0,4,6]) (by kernel_rfl) (by simp) ?_
                    refine AllReadyIn.cons rfl (fun K hK => ?_) ?_
                    · (go_simp);refine hK _ _ ?_;show wpAnyIn _ _ _ _ _ _ _ #[true,true,true,true,false,true,false,false,false,false,false] _ _;exact h47
                    refine AllReadyIn.cons rfl (fun K hK => ?_) ?_
                    · (go_simp);refine hK _ _ ?_;show wpAnyIn _ _ _ _ _ _ _ #[false,true,true,true,true,true,false,false,false,false,false] _ _;exact h62
                    refine AllReadyIn.cons rfl (fun K hK => ?_) ?_
                    · (go_simp);refine hK _ _ ?_;show wpAnyIn _ _ _ _ _ _ _ #[false,true,true,true,false,true,true,false,false,false,false] _ _;exact h110
                    exact AllReadyIn.nil
                  case g =>
                   refine wpAnyIn_ready (rs:=[3,6]) (by kernel_rfl) (by simp) ?_
                   refine AllReadyIn.cons rfl (fun K hK => ?_) ?_
                   · (go_simp);refine hK _ _ ?_;show wpAnyIn _ _ _ _ _ _ _ #[true,true,true,true,false,true,false,false,false,false,false] _ _;exact h47
                   refine AllReadyIn.cons rfl (fun K hK => ?_) ?_
                   · (go_simp);refine hK _ _ ?_;show wpAnyIn _ _ _ _ _ _ _ #[true,true,true,false,false,true,true,false,false,false,false] _ _;exact h103
                   exact AllReadyIn.nil
                 case g =>
                  refine wpAnyIn_ready (rs:=[0,5]) (by kernel_rfl) (by simp) ?_
                  refine AllReadyIn.cons rfl (fun K hK => ?_) ?_
                  · (go_simp);refine hK _ _ ?_;show wpAnyIn _ _ _ _ _ _ _ #[true,true,true,true,true,false,false,false,false,false,false] _ _;exact h31
                  refine AllReadyIn.cons rfl (fun K hK => ?_) ?_
                  · (go_simp);refine hK _ _ ?_;show wpAnyIn _ _ _ _ _ _ _ #[false,true,true,true,true,true,false,false,false,false,false] _ _;exact h62
                  exact AllReadyIn.nil
                case g =>
                 refine wpAnyIn_ready (rs:=[4,5]) (by kernel_rfl) (by simp) ?_
                 refine AllReadyIn.cons rfl (fun K hK => ?_) ?_
                 · (go_simp);refine hK _ _ ?_;show wpAnyIn _ _ _ _ _ _ _ #[true,true,true,true,true,false,false,false,false,false,false] _ _;exact h31
                 refine AllReadyIn.cons rfl (fun K hK => ?_) ?_
                 · (go_simp);refine hK _ _ ?_;show wpAnyIn _ _ _ _ _ _ _ #[true,true,true,true,false,true,false,false,false,false,false] _ _;exact h47
                 exact AllReadyIn.nil
               case g =>
                refine wpAnyIn_ready (rs:=[0,4]) (by kernel_rfl) (by simp) ?_
                refine AllReadyIn.cons rfl (fun K hK => ?_) ?_
                · (go_simp);refine hK _ _ ?_;show wpAnyIn _ _ _ _ _ _ _ #[true,true,true,true,false,true,true,false,false,false,false] _ _;exact h111
                refine AllReadyIn.cons rfl (fun K hK => ?_) ?_
                · (go_simp);refine hK _ _ ?_;show wpAnyIn _ _ _ _ _ _ _ #[false,true,true,true,true,true,true,false,false,false,false] _ _;exact h126
                exact AllReadyIn.nil
              case g =>
               refine wpAnyIn_ready (rs:=[3]) (by kernel_rfl) (by simp) ?_
               refine AllReadyIn.cons rfl (fun K hK => ?_) ?_
               · (go_simp);refine hK _ _ ?_;show wpAnyIn _ _ _ _ _ _ _ #[true,true,true,true,false,true,true,false,false,false,false] _ _;exact h111
               exact AllReadyIn.nil
             case g =>
              refine wpAnyIn_ready (rs:=[0,6]) (by kernel_rfl) (by simp) ?_
              refine AllReadyIn.cons rfl (fun K hK => ?_) ?_
              · (go_simp);refine hK _ _ ?_;show wpAnyIn _ _ _ _ _ _ _ #[true,true,true,true,true,true,false,false,false,false,false] _ _;exact h63
              refine AllReadyIn.cons rfl (fun K hK => ?_) ?_
              · (go_simp);refine hK _ _ ?_;show wpAnyIn _ _ _ _ _ _ _ #[false,true,true,true,true,true,true,false,false,false,false] _ _;exact h126
              exact AllReadyIn.nil
            case g =>
             refine wpAnyIn_ready (rs:=[4,6]) (by kernel_rfl) (by simp) ?_
             refine AllReadyIn.cons rfl (fun K hK => ?_) ?_
             · (go_simp);refine hK _ _ ?_;show wpAnyIn _ _ _ _ _ _ _ #[true,true,true,true,true,true,false,false,false,false,false] _ _;exact h63
             refine AllReadyIn.cons rfl (fun K hK => ?_) ?_
             · (go_simp);refine hK _ _ ?_;show wpAnyIn _ _ _ _ _ _ _ #[true,true,true,true,false,true,true,false,false,false,false] _ _;exact h111
             exact AllReadyIn.nil
           case g =>
            refine wpAnyIn_ready (rs:=[5]) (by kernel_rfl) (by simp) ?_
            refine AllReadyIn.cons rfl (fun K hK => ?_) ?_
            · (go_simp);refine hK _ _ ?_;show wpAnyIn _ _ _ _ _ _ _ #[true,true,true,true,true,true,false,false,false,false,false] _ _;exact h63
            exact AllReadyIn.nil
          case g =>
           refine wpAnyIn_ready (rs:=[0,7]) (by kernel_rfl) (by simp) ?_
           refine AllReadyIn.cons rfl (fun K hK => ?_) ?_
           · (go_simp);refine hK _ _ ?_;show wpAnyIn _ _ _ _ _ _ _ #[true,true,true,true,true,true,true,false,false,false,false] _ _;exact h127
           refine AllReadyIn.cons rfl (fun K hK => ?_) ?_
           · (go_simp);refine hK _ _ ?_;show wpAnyIn _ _ _ _ _ _ _ #[false,true,true,true,true,true,true,true,false,false,false] _ _;exact h254
           exact AllReadyIn.nil
         case g =>
          refine wpAnyIn_ready (rs:=[4]) (by kernel_rfl) (by simp) ?_
          refine AllReadyIn.cons rfl (fun K hK => ?_) ?_
          · (go_simp);refine hK _ _ ?_;show wpAnyIn _ _ _ _ _ _ _ #[true,true,true,true,true,true,true,false,false,false,false] _ _;exact h127
          exact AllReadyIn.nil
        case g =>
         refine wpAnyIn_ready (rs:=[6]) (by kernel_rfl) (by simp) ?_
         refine AllReadyIn.cons rfl (fun K hK => ?_) ?_
         · (go_simp);refine hK _ _ ?_;show wpAnyIn _ _ _ _ _ _ _ #[true,true,true,true,true,true,true,false,false,false,false] _ _;exact h127
         exact AllReadyIn.nil
       case g =>
        refine wpAnyIn_ready (rs:=[0]) (by kernel_rfl) (by simp) ?_
        refine AllReadyIn.cons rfl (fun K hK => ?_) ?_
        · (go_simp);refine hK _ _ ?_;show wpAnyIn _ _ _ _ _ _ _ #[true,true,true,true,true,true,true,true,false,false,false] _ _;exact h255
        exact AllReadyIn.nil
      case g =>
       refine wpAnyIn_ready (rs:=[7]) (by kernel_rfl) (by simp) ?_
       refine AllReadyIn.cons rfl (fun K hK => ?_) ?_
       · (go_simp);refine hK _ _ ?_;show wpAnyIn _ _ _ _ _ _ _ #[true,true,true,true,true,true,true,true,false,false,false] _ _;exact h255
       exact AllReadyIn.nil
     case g =>
      refine wpAnyIn_ready (rs:=[8]) (by kernel_rfl) (by simp) ?_
      refine AllReadyIn.cons rfl (fun K hK => ?_) ?_
      · (go_simp);refine hK _ _ ?_;show wpAnyIn _ _ _ _ _ _ _ #[true,true,true,true,true,true,true,true,true,false,false] _ _;exact h511
      exact AllReadyIn.nil
    case g =>
     refine wpAnyIn_ready (rs:=[9]) (by kernel_rfl) (by simp) ?_
     refine AllReadyIn.cons rfl (fun K hK => ?_) ?_
     · (go_simp);refine hK _ _ ?_;show wpAnyIn _ _ _ _ _ _ _ #[true,true,true,true,true,true,true,true,true,true,false] _ _;exact h1023
     exact AllReadyIn.nil
   case g =>
    refine wpAnyIn_ready (rs:=[10]) (by kernel_rfl) (by simp) ?_
    refine AllReadyIn.cons rfl (fun K hK => ?_) ?_
    · (go_simp);refine hK _ _ ?_;show wpAnyIn _ _ _ _ _ _ _ #[true,true,true,true,true,true,true,true,true,true,true] _ _;exact h2047
    exact AllReadyIn.nil
  refine wpAnyIn_done (by kernel_rfl) ?_ _
  have hG:(Question.appendCap 1 0 119).cut (V.tape (V.drawn + 1) (Question.appendCap 1 0 119)) = grownCap V.drew 1 0 119:=rfl
  rw [hG]
  obtain ⟨cap,hcap⟩:∃ cap,cap = grownCap V.drew 1 0 119:=⟨_,rfl⟩
  rw [← hcap]
  obtain ⟨X,hX⟩:∃ X,X = (((V.setCell ⟨sb,1,none⟩ (.slice (some ⟨V.heap.size + 1,0,none⟩) 1 cap)).alloc (.cells #[.int .i64 at0,.int .i64 at1] 119)).alloc (.cells (#[.int .i64 at0,.int .i64 at1] ++ Builtin.zeroCells #[.int .i64 0,.int .i64 0] (cap - 1)) 119)).drew.drew:=⟨_,rfl⟩
  obtain ⟨m1,m2,m3,m4,m5,m6⟩:=close_mid HCV.out HXV.out HKV.out HOV.out HSB.out HSB2.out hcap X hX
  rw [← hX]
  have M1:=Lib.hid m1
  have M2:=Lib.hid m2
  have M3:=Lib.hid m3
  have M4:=Lib.hid m4
  have M5:=Lib.hid m5
  have M6:=Lib.hid m6
  clear m1 m2 m3 m4 m5 m6 hX hG hcap c0 k1 x0 x1 fV1 hfit
  have x0:=cells_at M2.out 0
  have x1:=cells_at M2.out 1
  have b30:=cells_at M1.out.b3 0
  have b31:=cells_at M1.out.b3 1
  have b40:=cells_at M1.out.b4 0
  have g30:=frozen_at M1.out.b3 0
  have g31:=frozen_at M1.out.b3 1
  have g40:=frozen_at M1.out.b4 0
  gi_wp2
  exact close_end M1.out M3.out (fun g hg => by rw [blk_some] at hg;simp at hg;have:=M6.out;omega) M4.out M5.out HSB.out
 case stop =>
  intro D W hD hI hK
  have HI:=Lib.hid hI
  have HK:=Lib.hid hK
  have HD:=Lib.hid hD
  clear hI hK hD
  gi_wp2
  obtain ⟨fa,fc,h1,h2⟩:=HI.out.ex
  have hkd:=HK.out
  have hno:∀ r,some D = some r→∃ o:Obj,W.heap[r]? = some o∧o.isCells = false:=fun r e => by cases e;exact ⟨_,hkd,rfl⟩
  have hg:=grownBy_putObj' W D (.deferred none)
  have h1':=h1.others hg hno
  refine ⟨by simp,.inl ⟨_,_,rfl,run_takeDeferred hkd,?_⟩⟩
  exact ⟨_,res105 _ _ true _ _ h1'.b3 h1'.b4 rfl rfl,rfl,fa,fc,h1'.pk,h2.others hg hno,HI.out.kept.grown hg (fun r e => by cases e;exact Nat.le_trans HW2S.out HD.out)⟩
theorem pclose_any (w:World) (sb:Nat) (at0 at1:Nat) (cl:Int) (ab lc:Nat) (hlc:1≤lc) (h:PkAt w sb (some ⟨ab,0,none⟩) 1 lc none 0 0) (o0:w.cell? ⟨ab,0,none⟩ = some (.int .i64 at0)) (o1:w.cell? ⟨ab,1,none⟩ = some (.int .i32 cl)):Calls Tryz.prog 105 #[.pointer (some ⟨sb,0,none⟩),.int .i64 at1,.int .i32 cl] w fun e w' =>
 e = .returned (.tuple #[.agg #[.int .i64 at0,.int .i64 at1],.bool true])∧∃ fa fc,PkAt w' sb (some ⟨ab,0,none⟩) 0 lc fa 1 fc∧Own w' w.heap.size 2 fa 1 fc [.int .i64 at0,.int .i64 at1]∧Kept (fun k => k = sb) w w':=callsIn_wide.1 (pclose_in w sb at0 at1 cl ab lc hlc h o0 o1)
end Go.Proofs.YtjnidopbdjbbgaaGreat
