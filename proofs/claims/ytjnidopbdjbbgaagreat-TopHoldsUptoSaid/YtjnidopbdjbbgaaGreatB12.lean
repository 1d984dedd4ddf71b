/-
  The reference's stack: its small methods, walked.
-/
import Derived.Test.YtjnidopbdjbbgaaGreatB05
import Derived.Deep.CutBlock
namespace Go.Proofs.YtjnidopbdjbbgaaGreat
open Go.RowKit
set_option linter.unusedVariables false
theorem alloc2_at (w:World) (a b:Obj):((w.alloc a).alloc b).heap[w.heap.size]? = some a∧((w.alloc a).alloc b).heap[w.heap.size + 1]? = some b:=by
 refine ⟨((Below.refl (w.alloc a).heap.size (w.alloc a)).alloc (Nat.le_refl _) b).block w.heap.size (by simp) |>.trans (heap_alloc_new w a),?_⟩
 have:=heap_alloc_new (w.alloc a) b
 rw [World.size_alloc] at this
 exact this
theorem below_alloc2 (w:World) (a b:Obj):Below w.heap.size w ((w.alloc a).alloc b):=((Below.refl _ _).alloc (Nat.le_refl _) a).alloc (by simp) b
theorem set1_of5 {w:World} {N:Nat} {a b c d e:Value} {t:TypeId} {fr:Nat × Nat} (h:w.heap[N]? = some (.cells #[a,b,c,d,e] t fr)) (v:Value):(w.setCell ⟨N,1,none⟩ v).heap[N]? = some (.cells #[a,v,c,d,e] t fr):=heap_set h v
theorem set_all5 {w:World} {N:Nat} {a b c d e:Value} {t:TypeId} {fr:Nat × Nat} (h:w.heap[N]? = some (.cells #[a,b,c,d,e] t fr)) (x y z u v:Value):
 (((((w.setCell ⟨N,0,none⟩ x).setCell ⟨N,1,none⟩ y).setCell ⟨N,2,none⟩ z).setCell ⟨N,3,none⟩ u).setCell ⟨N,4,none⟩ v).heap[N]? = some (.cells #[x,y,z,u,v] t fr):=heap_set (heap_set (heap_set (heap_set (heap_set h x) y) z) u) v
theorem own_ge {w:World} {B size n c g:Nat} {a:Option Addr} {xs:List Value} (h:Own w B size a n c xs) (hg:a = some ⟨g,0,none⟩):B≤g:=by
 rcases h.row with ⟨h0,_⟩ | ⟨g',ha,h1,_⟩
 · rw [h0] at hg;cases hg
 · rw [ha] at hg
   cases hg
   exact h1
theorem ents_one (l:List Ent):∀ u∈entsV l,u.oneCell' = true:=by
 intro u hu
 unfold entsV at hu
 obtain ⟨e,_,he⟩:=List.mem_flatMap.1 hu
 unfold entV at he
 simp at he
 rcases he with rfl | rfl | rfl <;> rfl
set_option maxRecDepth 20000 in
set_option maxHeartbeats 8000000 in
theorem rlast_any (w:World) (B:Nat) (bi is em va:Int) (pa:Option Addr) (pc:Nat) (e:Ent) (r:List Ent) (n:Nat) (hn:r.length + 1 = n) (hl:n≤1099511627776) (ho:Own w B 3 pa n pc (entsV (e :: r))):
 Calls Tryz.prog 123 #[.agg #[.int .i8 bi,.slice pa n pc,.int .i64 is,.int .i64 em,.int .i64 va]] w fun x w' => x = .returned (.agg #[.int .i8 e.level,.int .u8 e.over,.bool e.iso])∧Below w.heap.size w w':=by
 subst hn
 obtain ⟨W,hW⟩:∃ W,W = (w.alloc (.cells #[.int .i8 bi,.slice pa (r.length + 1) pc,.int .i64 is,.int .i64 em,.int .i64 va] 155)).alloc (.cells #[.int .i8 0,.int .u8 0,.bool false] 196):=⟨_,rfl⟩
 obtain ⟨b1,b2⟩:=alloc2_at w (.cells #[.int .i8 bi,.slice pa (r.length + 1) pc,.int .i64 is,.int .i64 em,.int .i64 va] 155) (.cells #[.int .i8 0,.int .u8 0,.bool false] 196)
 have hb:=below_alloc2 w (.cells #[.int .i8 bi,.slice pa (r.length + 1) pc,.int .i64 is,.int .i64 em,.int .i64 va] 155) (.cells #[.int .i8 0,.int .u8 0,.bool false] 196)
 rw [← hW] at b1 b2 hb
 obtain ⟨N,hN⟩:∃ N,N = w.heap.size:=⟨_,rfl⟩
 rw [← hN] at b1 b2
 obtain ⟨g,rfl,d0,d1,d2⟩:=own_top (ho.below hb)
 have c1:=cells_at b1 1
 have k0:=cells_at b2 0
 have k1:=cells_at b2 1
 have k2:=cells_at b2 2
 have f0:=frozen_at b2 0
 have f1:=frozen_at b2 1
 have f2:=frozen_at b2 2
 have HB2:=Lib.hid b2
 have HB:=Lib.hid hb
 obtain ⟨m,hm⟩:∃ m,m = r.length:=⟨_,rfl⟩
 rw [← hm] at hl c1 d0 d1 d2 hW ⊢
 have HW:=Lib.hid hW
 have HN:=Lib.hid hN
 have h1:(0:Int)≤(m:Int):=by omega
 have h2:(m:Int) < (m:Int) + 1:=by omega
 clear ho hW hN b1 b2 hb hm
 go_enter Tryz.func123,Tryz.ntmps123
 go_upto_region 1 with (fail)
 rw [← HN.out,← HW.out]
 go_wp2
 have hr:=heap_set3 HB2.out (.int .i8 e.level) (.int .u8 e.over) (.bool e.iso)
 exact bodyPost_ret (results_cell_row (P:=Tryz.prog) rfl _ _ (N + 1) 196 _ (0,0) _ rfl hr Tryz.underlying196 rfl (by kernel_rfl)) rfl ⟨rfl,((HB.out.setCell (p:=⟨N + 1,0,none⟩) (by have:=HN.out;show w.heap.size≤N + 1;omega) _).setCell (p:=⟨N + 1,1,none⟩) (by have:=HN.out;show w.heap.size≤N + 1;omega) _).setCell (p:=⟨N + 1,2,none⟩) (by have:=HN.out;show w.heap.size≤N + 1;omega) _⟩
theorem field196_0 (a b c:Value) (w:World):(Instr.field 196 (.agg #[a,b,c]) 0).run Tryz.prog w = .ok a w:=by
 simp [Instr.field,run_underlying Tryz.underlying196,part,Tryz.isAgg26,asAgg]
theorem field196_2 (a b c:Value) (w:World):(Instr.field 196 (.agg #[a,b,c]) 2).run Tryz.prog w = .ok c w:=by
 simp [Instr.field,run_underlying Tryz.underlying196,part,Tryz.isAgg4,asAgg]
attribute [local go_sem] field196_0 field196_2
theorem info196:(Tryz.prog.info? 196).map (fun i => (i.zero,i.size,i.bytes)) = some (some (.agg #[.int .i8 0,.int .u8 0,.bool false]),3,3):=by kernel_rfl
set_option maxRecDepth 20000 in
set_option maxHeartbeats 8000000 in
theorem rnext_any (w:World) (B:Nat) (bi is em va:Int) (pa:Option Addr) (pc:Nat) (e:Ent) (r:List Ent) (n:Nat) (odd:Bool) (hn:r.length + 1 = n) (hl:n≤1099511627776) (hL:e.level≤125) (ho:Own w B 3 pa n pc (entsV (e :: r))):
 Calls Tryz.prog 119 #[.agg #[.int .i8 bi,.slice pa n pc,.int .i64 is,.int .i64 em,.int .i64 va],.bool odd] w fun x w' => x = .returned (.int .i64 (nextLevel e.level odd))∧Below w.heap.size w w':=by
 obtain ⟨W,hW⟩:∃ W,W = w.alloc (.cells #[.int .i8 bi,.slice pa n pc,.int .i64 is,.int .i64 em,.int .i64 va] 155):=⟨_,rfl⟩
 have b1:=heap_alloc_new w (.cells #[.int .i8 bi,.slice pa n pc,.int .i64 is,.int .i64 em,.int .i64 va] 155)
 have hb:Below w.heap.size w W:=by rw [hW];exact (Below.refl _ _).alloc (Nat.le_refl _) _
 rw [← hW] at b1
 obtain ⟨N,hN⟩:∃ N,N = w.heap.size:=⟨_,rfl⟩
 rw [← hN] at b1
 have HB1:=Lib.hid b1
 have HB:=Lib.hid hb
 have HW:=Lib.hid hW
 have HN:=Lib.hid hN
 have HLA:=Lib.hid (rlast_any W B bi is em va pa pc e r n hn hl (ho.below hb))
 obtain ⟨L,hLL⟩:∃ L,L = e.level:=⟨_,rfl⟩
 rw [← hLL] at hL HLA ⊢
 have hL0:(0:Int)≤(L:Int):=by omega
 have hL1:(L:Int)≤125:=by omega
 clear hW hN b1 hb ho hn hl hLL
 rcases Nat.mod_two_eq_zero_or_one (L + 1) with hp | hp
 · have ht:((L:Int) + 1).tmod 2 = 0:=by rw [Int.tmod_eq_emod_of_nonneg (by omega)];omega
   cases odd
   · have hm:nextLevel L false = L + 1:=by unfold nextLevel;rw [hp];rfl
     rw [hm]
     go_enter Tryz.func119,Tryz.ntmps119
     go_upto_region 1 with (fail)
     rw [← HN.out,← HW.out]
     go_wp2_with (first | (with_reducible refine wpList_load_row rfl 155 _ rfl N rfl 155 _ (0,0) _ HB1.out Tryz.underlying155 rfl (by kernel_rfl) ?_) | (go_at_call 123;refine HLA.out.mono ?_;rintro x w2 ⟨rfl,b2⟩;have HB2:=Lib.hid (HB.out.trans (b2.mono HB.out.size));clear b2))
     go_ret
     exact ⟨by congr 2,HB2.out⟩
   · have hm:nextLevel L true = L + 2:=by unfold nextLevel;rw [hp];rfl
     rw [hm]
     go_enter Tryz.func119,Tryz.ntmps119
     go_upto_region 1 with (fail)
     rw [← HN.out,← HW.out]
     go_wp2_with (first | (with_reducible refine wpList_load_row rfl 155 _ rfl N rfl 155 _ (0,0) _ HB1.out Tryz.underlying155 rfl (by kernel_rfl) ?_) | (go_at_call 123;refine HLA.out.mono ?_;rintro x w2 ⟨rfl,b2⟩;have HB2:=Lib.hid (HB.out.trans (b2.mono HB.out.size));clear b2))
     go_ret
     exact ⟨by congr 2,HB2.out⟩
 · have ht:((L:Int) + 1).tmod 2 = 1:=by rw [Int.tmod_eq_emod_of_nonneg (by omega)];omega
   cases odd
   · have hm:nextLevel L false = L + 2:=by unfold nextLevel;rw [hp];rfl
     rw [hm]
     go_enter Tryz.func119,Tryz.ntmps119
     go_upto_region 1 with (fail)
     rw [← HN.out,← HW.out]
     go_wp2_with (first | (with_reducible refine wpList_load_row rfl 155 _ rfl N rfl 155 _ (0,0) _ HB1.out Tryz.underlying155 rfl (by kernel_rfl) ?_) | (go_at_call 123;refine HLA.out.mono ?_;rintro x w2 ⟨rfl,b2⟩;have HB2:=Lib.hid (HB.out.trans (b2.mono HB.out.size));clear b2))
     go_ret
     exact ⟨by congr 2,HB2.out⟩
   · have hm:nextLevel L true = L + 1:=by unfold nextLevel;rw [hp];rfl
     rw [hm]
     go_enter Tryz.func119,Tryz.ntmps119
     go_upto_region 1 with (fail)
     rw [← HN.out,← HW.out]
     go_wp2_with (first | (with_reducible refine wpList_load_row rfl 155 _ rfl N rfl 155 _ (0,0) _ HB1.out Tryz.underlying155 rfl (by kernel_rfl) ?_) | (go_at_call 123;refine HLA.out.mono ?_;rintro x w2 ⟨rfl,b2⟩;have HB2:=Lib.hid (HB.out.trans (b2.mono HB.out.size));clear b2))
     go_ret
     exact ⟨by congr 2,HB2.out⟩
set_option maxRecDepth 20000 in
set_option maxHeartbeats 8000000 in
theorem rroom_any (w:World) (bi va:Int) (is em:Nat) (pa:Option Addr) (pc n:Nat) (k:Nat):
 Calls Tryz.prog 120 #[.agg #[.int .i8 bi,.slice pa n pc,.int .i64 is,.int .i64 em,.int .i64 va],.int .i64 k] w fun x w' => x = .returned (.bool (decide (k≤125) && is == 0 && em == 0))∧Below w.heap.size w w':=by
 have HB:Hid (Below w.heap.size w (w.alloc (.cells #[.int .i8 bi,.slice pa n pc,.int .i64 is,.int .i64 em,.int .i64 va] 155))):=Lib.hid ((Below.refl _ _).alloc (Nat.le_refl _) _)
 have b1:=heap_alloc_new w (.cells #[.int .i8 bi,.slice pa n pc,.int .i64 is,.int .i64 em,.int .i64 va] 155)
 have c2:=cells_at b1 2
 have c3:=cells_at b1 3
 clear b1
 by_cases h1:k≤125
 · have g1:(k:Int)≤125:=by omega
   have HK:=Lib.hid h1
   by_cases h2:is = 0
   · subst h2
     by_cases h3:em = 0
     · subst h3
       rw [show (decide (k≤125) && (0:Nat) == 0 && (0:Nat) == 0) = true from by simp [HK.out]]
       clear h1
       go_enter Tryz.func120,Tryz.ntmps120
       go_wp2
       go_ret
       exact ⟨rfl,HB.out⟩
     · have g3:((em:Int) == 0) = false:=by simp <;> omega
       rw [show (decide (k≤125) && (0:Nat) == 0 && em == 0) = false from by simp [h3]]
       clear h1 h3
       go_enter Tryz.func120,Tryz.ntmps120
       go_wp2
       go_ret
       exact ⟨rfl,HB.out⟩
   · have g2:((is:Int) == 0) = false:=by simp <;> omega
     rw [show (decide (k≤125) && is == 0 && em == 0) = false from by simp [h2]]
     clear h1 h2
     go_enter Tryz.func120,Tryz.ntmps120
     go_wp2
     go_ret
     exact ⟨rfl,HB.out⟩
 · have g1:¬ (k:Int)≤125:=by omega
   rw [show (decide (k≤125) && is == 0 && em == 0) = false from by simp [h1]]
   clear h1
   go_enter Tryz.func120,Tryz.ntmps120
   go_wp2
   go_ret
   exact ⟨rfl,HB.out⟩
set_option maxRecDepth 20000 in
set_option maxHeartbeats 8000000 in
theorem rplain_any (w:World) (B:Nat) (bi is em va:Int) (pa:Option Addr) (pc:Nat) (e:Ent) (r:List Ent) (n c:Nat) (hn:r.length + 1 = n) (hl:n≤1099511627776) (hc1:1≤c) (hc2:c≤23) (ho:Own w B 3 pa n pc (entsV (e :: r))):
 Calls Tryz.prog 122 #[.agg #[.int .i8 bi,.slice pa n pc,.int .i64 is,.int .i64 em,.int .i64 va],.int .u8 c] w fun x w' => x = .returned (.tuple #[.int .i8 e.level,.int .u8 (if e.over = 0 then c else e.over:Nat)])∧Below w.heap.size w w':=by
 obtain ⟨W,hW⟩:∃ W,W = w.alloc (.cells #[.int .i8 bi,.slice pa n pc,.int .i64 is,.int .i64 em,.int .i64 va] 155):=⟨_,rfl⟩
 have b1:=heap_alloc_new w (.cells #[.int .i8 bi,.slice pa n pc,.int .i64 is,.int .i64 em,.int .i64 va] 155)
 have hb:Below w.heap.size w W:=by rw [hW];exact (Below.refl _ _).alloc (Nat.le_refl _) _
 rw [← hW] at b1
 obtain ⟨N,hN⟩:∃ N,N = w.heap.size:=⟨_,rfl⟩
 rw [← hN] at b1
 have HB1:=Lib.hid b1
 have HB:=Lib.hid hb
 have HW:=Lib.hid hW
 have HN:=Lib.hid hN
 have HLA:=Lib.hid (rlast_any W B bi is em va pa pc e r n hn hl (ho.below hb))
 have g1:¬ (c:Int) < 1:=by omega
 have g2:¬ (c:Int) > 23:=by omega
 have g3:¬ (23:Int) < (c:Int):=by omega
 clear hW hN b1 hb ho hn hl
 by_cases h0:e.over = 0
 · rw [if_pos h0]
   rw [h0] at HLA
   clear h0
   go_enter Tryz.func122,Tryz.ntmps122
   go_upto_region 1 with (fail)
   rw [← HN.out,← HW.out]
   go_wp2_with (first | (with_reducible refine wpList_load_row rfl 155 _ rfl N rfl 155 _ (0,0) _ HB1.out Tryz.underlying155 rfl (by kernel_rfl) ?_) | (go_at_call 123;refine HLA.out.mono ?_;rintro x w2 ⟨rfl,b2⟩;have HB2:=Lib.hid (HB.out.trans (b2.mono HB.out.size));clear b2))
   go_ret2
   exact ⟨rfl,HB2.out.alloc HB2.out.size _⟩
 · have g4:((e.over:Int) != 0) = true:=by simp <;> omega
   rw [if_neg h0]
   clear h0
   go_enter Tryz.func122,Tryz.ntmps122
   go_upto_region 1 with (fail)
   rw [← HN.out,← HW.out]
   go_wp2_with (first | (with_reducible refine wpList_load_row rfl 155 _ rfl N rfl 155 _ (0,0) _ HB1.out Tryz.underlying155 rfl (by kernel_rfl) ?_) | (go_at_call 123;refine HLA.out.mono ?_;rintro x w2 ⟨rfl,b2⟩;have HB2:=Lib.hid (HB.out.trans (b2.mono HB.out.size));clear b2))
   have c0:=cells_at (heap_alloc_new w2 (.cells #[.int .i8 e.level,.int .u8 e.over,.bool e.iso] 196)) 0
   have c1:=cells_at (heap_alloc_new w2 (.cells #[.int .i8 e.level,.int .u8 e.over,.bool e.iso] 196)) 1
   go_quiet (fail)
   go_wp2
   go_ret2
   exact ⟨rfl,below_drewN (HB2.out.alloc HB2.out.size _) _⟩
set_option maxRecDepth 20000 in
set_option maxHeartbeats 8000000 in
theorem rwith_any (w:World) (B:Nat) (bi is em va:Int) (pa:Option Addr) (pc:Nat) (l:List Ent) (e:Ent) (n:Nat) (hn:l.length = n) (hl:n≤1048600) (ho:Own w B 3 pa n pc (entsV l)):
 Calls Tryz.prog 121 #[.agg #[.int .i8 bi,.slice pa n pc,.int .i64 is,.int .i64 em,.int .i64 va],.agg #[.int .i8 e.level,.int .u8 e.over,.bool e.iso]] w fun x w' => ∃ qa qc,x = .returned (.agg #[.int .i8 bi,.slice qa (n + 1:Nat) qc,.int .i64 is,.int .i64 em,.int .i64 va])∧Own w' w.heap.size 3 qa (n + 1) qc (entsV (e :: l))∧Below w.heap.size w w':=by
 obtain ⟨i0,hi,hz0,hz1,hz2⟩:=info_parts info196
 obtain ⟨W,hW⟩:∃ W,W = ((w.alloc (.cells #[.int .i8 bi,.slice pa n pc,.int .i64 is,.int .i64 em,.int .i64 va] 155)).alloc (.cells #[.int .i8 e.level,.int .u8 e.over,.bool e.iso] 196)).alloc (.cells #[.int .i8 0,.slice none 0 0,.int .i64 0,.int .i64 0,.int .i64 0] 155):=⟨_,rfl⟩
 obtain ⟨b1,b2⟩:=alloc2_at w (.cells #[.int .i8 bi,.slice pa n pc,.int .i64 is,.int .i64 em,.int .i64 va] 155) (.cells #[.int .i8 e.level,.int .u8 e.over,.bool e.iso] 196)
 have hb:=(below_alloc2 w (.cells #[.int .i8 bi,.slice pa n pc,.int .i64 is,.int .i64 em,.int .i64 va] 155) (.cells #[.int .i8 e.level,.int .u8 e.over,.bool e.iso] 196)).alloc (by simp;omega) (.cells #[.int .i8 0,.slice none 0 0,.int .i64 0,.int .i64 0,.int .i64 0] 155)
 have b3:=heap_alloc_new ((w.alloc (.cells #[.int .i8 bi,.slice pa n pc,.int .i64 is,.int .i64 em,.int .i64 va] 155)).alloc (.cells #[.int .i8 e.level,.int .u8 e.over,.bool e.iso] 196)) (.cells #[.int .i8 0,.slice none 0 0,.int .i64 0,.int .i64 0,.int .i64 0] 155)
 simp only [World.size_alloc] at b3
 have hbb:=(Below.refl ((w.alloc (.cells #[.int .i8 bi,.slice pa n pc,.int .i64 is,.int .i64 em,.int .i64 va] 155)).alloc (.cells #[.int .i8 e.level,.int .u8 e.over,.bool e.iso] 196)).heap.size _).alloc (Nat.le_refl _) (.cells #[.int .i8 0,.slice none 0 0,.int .i64 0,.int .i64 0,.int .i64 0] 155)
 replace b1:=(hbb.block w.heap.size (by simp;omega)).trans b1
 replace b2:=(hbb.block (w.heap.size + 1) (by simp)).trans b2
 clear hbb
 rw [← hW] at b1 b2 b3 hb
 obtain ⟨N,hN⟩:∃ N,N = w.heap.size:=⟨_,rfl⟩
 rw [← hN] at b1 b2 b3
 have HB1:=Lib.hid b1
 have HB2:=Lib.hid b2
 have HB3:=Lib.hid b3
 have HB:=Lib.hid hb
 have HW:=Lib.hid hW
 have HN:=Lib.hid hN
 have HO:=Lib.hid (ho.below hb)
 have HLL:=Lib.hid hn
 have HSZ:Hid (W.heap.size = N + 3):=Lib.hid (by rw [hW,hN];simp)
 have c1:=cells_at b1 1
 clear hW hN b1 b2 b3 hb ho hn
 go_enter Tryz.func121,Tryz.ntmps121
 go_upto_region 1 with (fail)
 rw [← HN.out,← HW.out]
 go_wp2_with (first
  | (at_builtin;refine wpList_push3 rfl _ _ 153 rfl 196 i0 _ 3 Tryz.underlying153 hi hz0 hz1 hz2 rfl (by simp [Value.cells,Value.oneCell']) W.heap.size _ _ _ (entsV l) rfl W5 _ _ _ rfl HO5.out _ rfl rfl (by simp [Value.oneCell']) (by omega) (by decide) HB5.out.size ?_;intro qa qc W6 hown6 hap6;have HO6:=Lib.hid hown6;have HB6:=Lib.hid (HB5.out.trans (((Below.refl W.heap.size W5).alloc HB5.out.size _).trans (hap6.below (HO5.out.alloc _) (by simp only [World.size_alloc];have:=HB5.out.size;omega))));have HN6:=Lib.hid ((HB6.out.block N (by have:=HSZ.out;omega)).trans HB1.out);have HM6:=Lib.hid ((HB6.out.block (N + 1 + 1) (by have:=HSZ.out;omega)).trans HB3.out);have n1:=cells_at HN6.out 1;have n2:=frozen_at HN6.out 1;have HS6:=Lib.hid (set1_of5 HN6.out (.slice qa (n + 1:Nat) qc));have HT6:=Lib.hid (heap_other (k:=N) (j:=1) HM6.out (by omega) (.slice qa (n + 1:Nat) qc));have m0:=cells_at HT6.out 0;have m1:=cells_at HT6.out 1;have m2:=cells_at HT6.out 2;have m3:=cells_at HT6.out 3;have m4:=cells_at HT6.out 4;have l0:=frozen_at HT6.out 0;have l1:=frozen_at HT6.out 1;have l2:=frozen_at HT6.out 2;have l3:=frozen_at HT6.out 3;have l4:=frozen_at HT6.out 4;clear hown6 hap6)
  | (with_reducible refine wpList_load_row rfl 155 _ rfl N rfl 155 _ (0,0) _ HS6.out Tryz.underlying155 rfl (by kernel_rfl) ?_)
  | (with_reducible refine wpList_load_row rfl 196 _ rfl (N + 1) rfl 196 _ (0,0) _ HC2.out Tryz.underlying196 rfl (by kernel_rfl) ?_)
  | (at_builtin;refine wpList_app rfl _ _ 153 153 rfl 196 i0 (.agg #[.int .i8 0,.int .u8 0,.bool false]) 3 3 Tryz.underlying153 hi hz0 hz1 hz2 rfl (by simp [Value.cells,Value.oneCell']) W.heap.size _ _ _ [] rfl (Own.nil _ _ _) _ n (entsV l) rfl (Src.ofCells Tryz.underlying153 _ _ _ _ (by rw [entsV_len,HLL.out]) HO.out.toCells (ents_one l) (by decide)) (by simp only [maxLen];omega) (by omega) (Nat.le_refl _) ?_;intro aa ca W5 hown5 hap5;have HO5:Hid (Own W5 W.heap.size 3 aa n ca (entsV l)):=Lib.hid ((hown5.eqN (by omega)).eqL (by simp));have HB5:=Lib.hid (hap5.below (Own.nil W W.heap.size 3) (Nat.le_refl _));have HC2:=Lib.hid ((HB5.out.block (N + 1) (by have:=HSZ.out;omega)).trans HB2.out);clear hown5 hap5))
 have hr:=set_all5 HT6.out (.int .i8 bi) (.slice qa (n + 1:Nat) qc) (.int .i64 is) (.int .i64 em) (.int .i64 va)
 have hp:∀ g,qa = some ⟨g,0,none⟩→g≠N + 1 + 1:=fun g hg => by have:=own_ge HO6.out hg;have:=HSZ.out;omega
 have hp0:∀ g,qa = some ⟨g,0,none⟩→g≠N:=fun g hg => by have:=own_ge HO6.out hg;have:=HSZ.out;omega
 have hNw:w.heap.size≤N:=by have:=HN.out;omega
 have hNw2:w.heap.size≤N + 1 + 1:=by omega
 have hB6:=HB.out.trans (HB6.out.mono HB.out.size)
 refine bodyPost_ret (results_cell_row (P:=Tryz.prog) rfl _ _ (N + 1 + 1) 155 _ (0,0) _ rfl hr Tryz.underlying155 rfl (by kernel_rfl)) rfl ⟨qa,qc,rfl,?_,?_⟩
 · rw [entsV_cons]
   exact ((((((HO6.out.stored_other ⟨N,1,none⟩ _ hp0).stored_other ⟨N + 1 + 1,0,none⟩ _ hp).stored_other ⟨N + 1 + 1,1,none⟩ _ hp).stored_other ⟨N + 1 + 1,2,none⟩ _ hp).stored_other ⟨N + 1 + 1,3,none⟩ _ hp).stored_other ⟨N + 1 + 1,4,none⟩ _ hp).mono HB.out.size
 · exact (((((hB6.setCell (p:=⟨N,1,none⟩) hNw _).setCell (p:=⟨N + 1 + 1,0,none⟩) hNw2 _).setCell (p:=⟨N + 1 + 1,1,none⟩) hNw2 _).setCell (p:=⟨N + 1 + 1,2,none⟩) hNw2 _).setCell (p:=⟨N + 1 + 1,3,none⟩) hNw2 _).setCell (p:=⟨N + 1 + 1,4,none⟩) hNw2 _
theorem res86 {B:Nat} (x0 x1 x2 x3 x4:Value) (e:Int):∀ (tmps:Array Value) (W':World),W'.heap[B]? = some (.cells #[x0,x1,x2,x3,x4] 155)→tmps.getD 2 undef = .pointer (some ⟨B,0,none⟩)→tmps.getD 3 undef = .int .i64 e→(results Tryz.f86 tmps).run Tryz.prog W' = .ok (.tuple #[.agg #[x0,x1,x2,x3,x4],.int .i64 e]) W':=by
 intro tmps W' h1 h2 h3
 rw [results_cell_tmp rfl]
 have hlv:=run_loadVar_row (P:=Tryz.prog) _ B 155 155 _ _ _ h1 Tryz.underlying155 rfl (by kernel_rfl)
 rw [h2,h3]
 simp [asAddr,hlv]
theorem own_new3 {w:World} {N B:Nat} {e:Ent} {t:TypeId} (h:w.heap[N]? = some (.cells #[.int .i8 e.level,.int .u8 e.over,.bool e.iso] t)) (hB:B≤N:=by omega):Own w B 3 (some ⟨N,0,none⟩) 1 1 (entsV [e]):=by
 refine ⟨rfl,Nat.le_refl _,by simp [maxLen],.inr ⟨N,rfl,hB,(Array.getElem?_eq_some_iff.1 h).1,fun j u hu => ?_,fun j hj => ?_⟩⟩
 · rw [cells_at h]
   have:entsV [e] = [.int .i8 e.level,.int .u8 e.over,.bool e.iso]:=rfl
   rw [this] at hu
   simpa using hu
 · rw [cells_at h,frozen_at h]
   refine ⟨?_,rfl⟩
   rw [Array.getElem?_eq_getElem (by simp;omega)]
   rfl
set_option maxRecDepth 20000 in
set_option maxHeartbeats 8000000 in
theorem rnew_any (w:World) (base:Nat) (hb:base = 0∨base = 1):
 Calls Tryz.prog 86 #[.int .i8 base] w fun x w' => ∃ g,x = .returned (.tuple #[.agg #[.int .i8 base,.slice (some ⟨g,0,none⟩) 1 1,.int .i64 0,.int .i64 0,.int .i64 0],.int .i64 0])∧Own w' w.heap.size 3 (some ⟨g,0,none⟩) 1 1 (entsV [⟨base,0,false⟩])∧Below w.heap.size w w':=by
 rcases hb with rfl | rfl
 · go_enter Tryz.func86,Tryz.ntmps86
   go_wp2
   obtain ⟨k1,k2⟩:=alloc2_at w (.cells #[.int .i8 0,.slice (some ⟨w.heap.size + 1,0,none⟩) 1 1,.int .i64 0,.int .i64 0,.int .i64 0] 155) (.cells #[.int .i8 0,.int .u8 0,.bool false] 196)
   exact bodyPost_ret (res86 _ _ _ _ _ _ _ _ k1 rfl rfl) rfl ⟨w.heap.size + 1,rfl,own_new3 (e:=⟨0,0,false⟩) k2,below_alloc2 w _ _⟩
 · go_enter Tryz.func86,Tryz.ntmps86
   go_wp2
   obtain ⟨k1,k2⟩:=alloc2_at w (.cells #[.int .i8 1,.slice (some ⟨w.heap.size + 1,0,none⟩) 1 1,.int .i64 0,.int .i64 0,.int .i64 0] 155) (.cells #[.int .i8 1,.int .u8 0,.bool false] 196)
   exact bodyPost_ret (res86 _ _ _ _ _ _ _ _ k1 rfl rfl) rfl ⟨w.heap.size + 1,rfl,own_new3 (e:=⟨1,0,false⟩) k2,below_alloc2 w _ _⟩
end Go.Proofs.YtjnidopbdjbbgaaGreat
