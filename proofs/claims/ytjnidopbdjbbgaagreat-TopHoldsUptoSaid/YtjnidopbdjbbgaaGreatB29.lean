/-
  Props made by hand: what they say of a character; walked.
-/
import Derived.Test.YtjnidopbdjbbgaaGreatB26
namespace Go.Proofs.YtjnidopbdjbbgaaGreat
open Go.RowKit
set_option linter.unusedVariables false
structure Ch where
 rune:Int
 cls:Nat
 other:Int
 side:Nat
 twin:Int
 mirror:Int
 turns:Bool
def Ch.cells (c:Ch):List Value:=[.int .i32 c.rune,.int .u8 c.cls,.int .i32 c.other,.int .u8 c.side,.int .i32 c.twin,.int .i32 c.mirror,.bool c.turns]
def Ch.val (c:Ch):Value:=.agg c.cells.toArray
def noCh:Ch:=⟨0,0,0,0,0,0,false⟩
def chV (C:List Ch):List Value:=C.flatMap Ch.cells
theorem ch_at (C:List Ch):∀ (k:Nat) (c:Ch),C[k]? = some c→(chV C)[k * 7]? = some (.int .i32 c.rune)∧(chV C)[k * 7 + 1]? = some (.int .u8 c.cls)∧(chV C)[k * 7 + 2]? = some (.int .i32 c.other)∧(chV C)[k * 7 + 3]? = some (.int .u8 c.side)∧(chV C)[k * 7 + 4]? = some (.int .i32 c.twin)∧(chV C)[k * 7 + 5]? = some (.int .i32 c.mirror)∧(chV C)[k * 7 + 6]? = some (.bool c.turns):=by
 induction C with
 | nil => intro k s h;simp at h
 | cons x C ih =>
  intro k s h
  cases k with
  | zero => simp at h;subst h;exact ⟨rfl,rfl,rfl,rfl,rfl,rfl,rfl⟩
  | succ k =>
   obtain ⟨h1,h2,h3,h4,h5,h6,h7⟩:=ih k s (by simpa using h)
   have hc:chV (x :: C) = .int .i32 x.rune :: .int .u8 x.cls :: .int .i32 x.other :: .int .u8 x.side :: .int .i32 x.twin :: .int .i32 x.mirror :: .bool x.turns :: chV C:=rfl
   rw [hc,show (k + 1) * 7 = k * 7 + 1 + 1 + 1 + 1 + 1 + 1 + 1 from by omega]
   exact ⟨h1,h2,h3,h4,h5,h6,h7⟩
theorem chs_at {w:World} {a:Option Addr} {C:List Ch} (h:Cells w a (chV C)) {k:Nat} {c:Ch} (hs:C[k]? = some c):
 ∃ b off,a = some ⟨b,off,none⟩∧w.cell? ⟨b,off + k * 7,none⟩ = some (.int .i32 c.rune)∧w.cell? ⟨b,off + k * 7 + 1,none⟩ = some (.int .u8 c.cls)∧w.cell? ⟨b,off + k * 7 + 2,none⟩ = some (.int .i32 c.other)∧w.cell? ⟨b,off + k * 7 + 3,none⟩ = some (.int .u8 c.side)∧w.cell? ⟨b,off + k * 7 + 4,none⟩ = some (.int .i32 c.twin)∧w.cell? ⟨b,off + k * 7 + 5,none⟩ = some (.int .i32 c.mirror)∧w.cell? ⟨b,off + k * 7 + 6,none⟩ = some (.bool c.turns):=by
 obtain ⟨h1,h2,h3,h4,h5,h6,h7⟩:=ch_at C k c hs
 obtain ⟨b,off,rfl,hc⟩:=h.getv h1
 obtain ⟨_,_,e,d1⟩:=h.getv h2;cases e
 obtain ⟨_,_,e,d2⟩:=h.getv h3;cases e
 obtain ⟨_,_,e,d3⟩:=h.getv h4;cases e
 obtain ⟨_,_,e,d4⟩:=h.getv h5;cases e
 obtain ⟨_,_,e,d5⟩:=h.getv h6;cases e
 obtain ⟨_,_,e,d6⟩:=h.getv h7;cases e
 exact ⟨b,off,rfl,hc,by rw [Nat.add_assoc];exact d1,by rw [Nat.add_assoc];exact d2,by rw [Nat.add_assoc];exact d3,by rw [Nat.add_assoc];exact d4,by rw [Nat.add_assoc];exact d5,by rw [Nat.add_assoc];exact d6⟩
/-- What is said of a character. -/
def chOf (C:List Ch) (r:Int):Option Ch:=C.find? fun c => c.rune == r
theorem heap_set7 {w:World} {N:Nat} {a b c d e f g:Value} {t:TypeId} {fr:Nat × Nat} (h:w.heap[N]? = some (.cells #[a,b,c,d,e,f,g] t fr)) (x y z u v p q:Value):
 (((((((w.setCell ⟨N,0,none⟩ x).setCell ⟨N,1,none⟩ y).setCell ⟨N,2,none⟩ z).setCell ⟨N,3,none⟩ u).setCell ⟨N,4,none⟩ v).setCell ⟨N,5,none⟩ p).setCell ⟨N,6,none⟩ q).heap[N]? = some (.cells #[x,y,z,u,v,p,q] t fr):=by
 have h1:(w.setCell ⟨N,0,none⟩ x).heap[N]? = some (.cells #[x,b,c,d,e,f,g] t fr):=heap_set h x
 have h2:((w.setCell ⟨N,0,none⟩ x).setCell ⟨N,1,none⟩ y).heap[N]? = some (.cells #[x,y,c,d,e,f,g] t fr):=heap_set h1 y
 have h3:=heap_set (j:=2) h2 z
 have h3:(((w.setCell ⟨N,0,none⟩ x).setCell ⟨N,1,none⟩ y).setCell ⟨N,2,none⟩ z).heap[N]? = some (.cells #[x,y,z,d,e,f,g] t fr):=h3
 generalize ((w.setCell ⟨N,0,none⟩ x).setCell ⟨N,1,none⟩ y).setCell ⟨N,2,none⟩ z = w3 at *
 have h4:(w3.setCell ⟨N,3,none⟩ u).heap[N]? = some (.cells #[x,y,z,u,e,f,g] t fr):=heap_set h3 u
 have h5:((w3.setCell ⟨N,3,none⟩ u).setCell ⟨N,4,none⟩ v).heap[N]? = some (.cells #[x,y,z,u,v,f,g] t fr):=heap_set h4 v
 generalize (w3.setCell ⟨N,3,none⟩ u).setCell ⟨N,4,none⟩ v = w5 at *
 have h6:(w5.setCell ⟨N,5,none⟩ p).heap[N]? = some (.cells #[x,y,z,u,v,p,g] t fr):=heap_set h5 p
 exact heap_set h6 q
theorem below_set7 {w w0:World} {B N:Nat} (h:Below B w0 w) (hN:B≤N) (x y z u v p q:Value):
 Below B w0 (((((((w.setCell ⟨N,0,none⟩ x).setCell ⟨N,1,none⟩ y).setCell ⟨N,2,none⟩ z).setCell ⟨N,3,none⟩ u).setCell ⟨N,4,none⟩ v).setCell ⟨N,5,none⟩ p).setCell ⟨N,6,none⟩ q):=
 ((((((h.setCell (p:=⟨N,0,none⟩) hN _).setCell (p:=⟨N,1,none⟩) hN _).setCell (p:=⟨N,2,none⟩) hN _).setCell (p:=⟨N,3,none⟩) hN _).setCell (p:=⟨N,4,none⟩) hN _).setCell (p:=⟨N,5,none⟩) hN _).setCell (p:=⟨N,6,none⟩) hN _
theorem res154 {B:Nat} (c:Ch) (b:Bool):∀ (tmps:Array Value) (W':World),W'.heap[B]? = some (.cells c.cells.toArray 80)→tmps.getD 4 undef = .pointer (some ⟨B,0,none⟩)→tmps.getD 5 undef = .bool b→(results Tryz.f154 tmps).run Tryz.prog W' = .ok (.tuple #[c.val,.bool b]) W':=by
 intro tmps W' h1 h2 h3
 rw [results_cell_tmp rfl]
 have hlv:=run_loadVar_row (P:=Tryz.prog) _ B 80 80 _ _ _ h1 Tryz.underlying80 rfl (by kernel_rfl)
 rw [h2,h3]
 simp [asAddr,hlv]
 rfl
set_option maxRecDepth 20000 in
set_option maxHeartbeats 4000000 in
theorem propsat_any (w:World) (C:List Ch) (a:Option Addr) (c:Nat) (rest:Nat) (r:Int) (hC:C.length≤1048576) (hc:Cells w a (chV C)):
 Calls Tryz.prog 154 #[.agg #[.int .u8 rest,.slice a C.length c],.int .i32 r] w fun e w' => e = .returned (.tuple #[((chOf C r).getD noCh).val,.bool (chOf C r).isSome])∧Below w.heap.size w w':=by
 have HC:=Lib.hid hc
 obtain ⟨n,hn⟩:∃ n,n = C.length:=⟨_,rfl⟩
 have HN:=Lib.hid hn
 rw [← hn] at hC ⊢
 have hn2:(n:Int)≤1048576:=by omega
 obtain ⟨W0,hW0⟩:∃ W0,W0 = (w.alloc (.cells #[.int .u8 rest,.slice a n c] 52)).alloc (.cells #[.int .i32 0,.int .u8 0,.int .i32 0,.int .u8 0,.int .i32 0,.int .i32 0,.bool false] 80):=⟨_,rfl⟩
 have h1:W0.heap[w.heap.size]? = some (.cells #[.int .u8 rest,.slice a n c] 52):=by rw [hW0];exact (Below.heap_alloc _ _ _ (by simp)).trans (heap_alloc_new w _)
 have h2:W0.heap[w.heap.size + 1]? = some (.cells #[.int .i32 0,.int .u8 0,.int .i32 0,.int .u8 0,.int .i32 0,.int .i32 0,.bool false] 80):=by
  rw [hW0]
  have:=heap_alloc_new (w.alloc (.cells #[.int .u8 rest,.slice a n c] 52)) (.cells #[.int .i32 0,.int .u8 0,.int .i32 0,.int .u8 0,.int .i32 0,.int .i32 0,.bool false] 80)
  rwa [World.size_alloc] at this
 have hb:Below w.heap.size w W0:=by rw [hW0];exact ((Below.refl _ _).alloc (Nat.le_refl _) _).alloc (by simp) _
 have H1:=Lib.hid h1
 have H2:=Lib.hid h2
 have HB:=Lib.hid hb
 have HW:=Lib.hid hW0
 clear hc hn h1 h2 hb hW0
 go_enter Tryz.func154,Tryz.ntmps154
 go_wp2
 rw [← HW.out]
 have b1:=cells_at H1.out 1
 have e0:=cells_at H2.out 0
 have e1:=cells_at H2.out 1
 have e2:=cells_at H2.out 2
 have e3:=cells_at H2.out 3
 have e4:=cells_at H2.out 4
 have e5:=cells_at H2.out 5
 have e6:=cells_at H2.out 6
 have f0:=frozen_at H2.out 0
 have f1:=frozen_at H2.out 1
 have f2:=frozen_at H2.out 2
 have f3:=frozen_at H2.out 3
 have f4:=frozen_at H2.out 4
 have f5:=frozen_at H2.out 5
 have f6:=frozen_at H2.out 6
 go_loopg [6] n (fun r' i wr => ∃ k:Nat,k + r' = n∧i = .int .i64 k∧W0 = wr∧(∀ x∈C.take k,(x.rune == r) = false))
 case atStart => exact ⟨0,by omega,rfl,rfl,by simp⟩
 case round =>
  obtain ⟨k,hk,rfl,rfl,hall⟩:=hrel
  have HALL:=Lib.hid hall
  clear hall
  by_cases hlt:k < n
  · obtain ⟨⟨rn,cl,ot,sd,tw,mi,tu⟩,hx⟩:∃ x,C[k]? = some x:=⟨_,List.getElem?_eq_getElem (by rw [← HN.out];exact hlt)⟩
    obtain ⟨ab,ao,rfl,q0,q1,q2,q3,q4,q5,q6⟩:=chs_at (HC.out.below HB.out) hx
    simp only at q0 q1 q2 q3 q4 q5 q6
    have HX:=Lib.hid hx
    have HK:=Lib.hid hk
    have hk0:(0:Int)≤(k:Int):=by omega
    have hk1:(k:Int) < (n:Int):=by omega
    clear hx hk
    by_cases hr:rn = r
    · subst hr
      have HF:=Lib.hid (show chOf C rn = some ⟨rn,cl,ot,sd,tw,mi,tu⟩ from by
       unfold chOf
       rw [← List.take_append_drop k C,List.find?_append,List.find?_eq_none.2 (fun x hx => by simp [HALL.out x hx])]
       have h1:=(List.getElem?_eq_some_iff.1 HX.out).1
       rw [List.drop_eq_getElem_cons h1,(List.getElem?_eq_some_iff.1 HX.out).2]
       simp)
      go_wp2
      exact bodyPost_ret (res154 ⟨rn,cl,ot,sd,tw,mi,tu⟩ true _ _ (heap_set7 H2.out _ _ _ _ _ _ _) rfl rfl) rfl ⟨by rw [HF.out];rfl,below_set7 HB.out (by omega) _ _ _ _ _ _ _⟩
    · have hne:(rn == r) = false:=by simpa using hr
      have HNE:=Lib.hid hne
      go_wp2
      go_roundg (gk - 1)
      case measure => have:=HK.out;omega
      case rel => exact ⟨k + 1,by have:=HK.out;omega,by go_num,rfl,fun x hx => by
       rw [List.take_add_one,HX.out] at hx
       rcases List.mem_append.1 hx with h | h
       · exact HALL.out x h
       · simp at h;subst h;exact HNE.out⟩
  · obtain rfl:n = k:=by omega
    have HF:=Lib.hid (show chOf C r = none from by
     unfold chOf
     rw [List.find?_eq_none]
     intro x hx
     simp [HALL.out x (by rw [List.take_of_length_le (by rw [← HN.out];exact Nat.le_refl _)];exact hx)])
    clear hk hlt
    go_wp2
    exact bodyPost_ret (res154 noCh false _ _ (heap_set7 H2.out _ _ _ _ _ _ _) rfl rfl) rfl ⟨by rw [HF.out];rfl,below_set7 HB.out (by omega) _ _ _ _ _ _ _⟩
set_option maxHeartbeats 2000000 in
theorem asked_ok (w:World) (r:Int) (h0:0≤r) (h1:r≤1114111):Calls Tryz.prog 62 #[.int .i32 r] w fun e w' => e = .returned (.int .i32 r)∧w = w':=by
 have e0:¬ r < 0:=by omega
 have e1:¬ r > 1114111:=by omega
 have e2:¬ 1114111 < r:=by omega
 go_enter Tryz.func62,Tryz.ntmps62
 go_wp2
 go_ret
 exact ⟨rfl,rfl⟩
set_option maxHeartbeats 2000000 in
theorem plain_ok (w:World) (r:Int) (h0:0≤r) (h1:r≤1114111):Calls Tryz.prog 103 #[.int .i32 r] w fun e w' => e = .returned (.int .i32 r)∧w = w':=by
 have e0:¬ r < 0:=by omega
 have e1:¬ r > 1114111:=by omega
 have e2:¬ 1114111 < r:=by omega
 go_enter Tryz.func103,Tryz.ntmps103
 go_wp2
 go_ret
 exact ⟨rfl,rfl⟩
set_option maxRecDepth 20000 in
set_option maxHeartbeats 4000000 in
theorem class_of (w:World) (C:List Ch) (a:Option Addr) (c:Nat) (rest:Nat) (r:Int) (hC:C.length≤1048576) (hc:Cells w a (chV C)) (x:Ch) (hx:chOf C r = some x):
 Calls Tryz.prog 175 #[.agg #[.int .u8 rest,.slice a C.length c],.int .i32 r] w fun e w' => e = .returned (.int .u8 x.cls)∧Below w.heap.size w w':=by
 have HAT:=Lib.hid (fun w h => propsat_any w C a c rest r hC h)
 rw [hx] at HAT
 have HC:=Lib.hid hc
 have HB0:=Lib.hid (show Below w.heap.size w (w.alloc (.cells #[.int .u8 rest,.slice a C.length c] 52)) from (Below.refl _ _).alloc (Nat.le_refl _) _)
 have HS0:=Lib.hid (show (w.alloc (.cells #[.int .u8 rest,.slice a C.length c] 52)).heap.size = w.heap.size + 1 by simp)
 obtain ⟨rn,cl,ot,sd,tw,mi,tu⟩:=x
 clear hx hc
 go_enter Tryz.func175,Tryz.ntmps175
 go_wp2_with (go_at_call 154;refine (HAT.out _ (HC.out.below HB0.out)).mono ?_;rintro e w2 ⟨rfl,hb2⟩;have HB2:=Lib.hid (HB0.out.trans (hb2.mono (by rw [HS0.out];omega)));clear hb2;unfold Ch.val Ch.cells)
 go_ret
 exact ⟨rfl,HB2.out.alloc HB2.out.size _⟩
set_option maxRecDepth 20000 in
set_option maxHeartbeats 4000000 in
theorem bracket_of (w:World) (C:List Ch) (a:Option Addr) (c:Nat) (rest:Nat) (r:Int) (hC:C.length≤1048576) (hc:Cells w a (chV C)) (x:Ch) (hx:chOf C r = some x) (hs:x.side = 1∨x.side = 2):
 Calls Tryz.prog 149 #[.agg #[.int .u8 rest,.slice a C.length c],.int .i32 r] w fun e w' => e = .returned (.tuple #[.int .i32 x.other,.int .u8 x.side])∧Below w.heap.size w w':=by
 have HAT:=Lib.hid (fun w h => propsat_any w C a c rest r hC h)
 rw [hx] at HAT
 have HC:=Lib.hid hc
 have HB0:=Lib.hid (show Below w.heap.size w (w.alloc (.cells #[.int .u8 rest,.slice a C.length c] 52)) from (Below.refl _ _).alloc (Nat.le_refl _) _)
 have HS0:=Lib.hid (show (w.alloc (.cells #[.int .u8 rest,.slice a C.length c] 52)).heap.size = w.heap.size + 1 by simp)
 obtain ⟨rn,cl,ot,sd,tw,mi,tu⟩:=x
 clear hx hc
 simp only at hs ⊢
 rcases hs with rfl | rfl
 all_goals
  go_enter Tryz.func149,Tryz.ntmps149
  go_wp2_with (go_at_call 154;refine (HAT.out _ (HC.out.below HB0.out)).mono ?_;rintro e w2 ⟨rfl,hb2⟩;have HB2:=Lib.hid (HB0.out.trans (hb2.mono (by rw [HS0.out];omega)));clear hb2;unfold Ch.val Ch.cells)
  go_wp2
  go_quiet (fail)
  go_wp2
  go_ret2
  exact ⟨rfl,below_drewN (HB2.out.alloc HB2.out.size _) _⟩
set_option maxRecDepth 20000 in
set_option maxHeartbeats 4000000 in
theorem twin_of (w:World) (C:List Ch) (a:Option Addr) (c:Nat) (rest:Nat) (r:Int) (hC:C.length≤1048576) (hc:Cells w a (chV C)) (x:Ch) (hx:chOf C r = some x) (ht:x.twin = 0):
 Calls Tryz.prog 150 #[.agg #[.int .u8 rest,.slice a C.length c],.int .i32 r] w fun e w' => e = .returned (.int .i32 r)∧Below w.heap.size w w':=by
 have HAT:=Lib.hid (fun w h => propsat_any w C a c rest r hC h)
 rw [hx] at HAT
 have HC:=Lib.hid hc
 have HB0:=Lib.hid (show Below w.heap.size w (w.alloc (.cells #[.int .u8 rest,.slice a C.length c] 52)) from (Below.refl _ _).alloc (Nat.le_refl _) _)
 have HS0:=Lib.hid (show (w.alloc (.cells #[.int .u8 rest,.slice a C.length c] 52)).heap.size = w.heap.size + 1 by simp)
 obtain ⟨rn,cl,ot,sd,tw,mi,tu⟩:=x
 clear hx hc
 simp only at ht
 subst ht
 go_enter Tryz.func150,Tryz.ntmps150
 go_wp2_with (go_at_call 154;refine (HAT.out _ (HC.out.below HB0.out)).mono ?_;rintro e w2 ⟨rfl,hb2⟩;have HB2:=Lib.hid (HB0.out.trans (hb2.mono (by rw [HS0.out];omega)));clear hb2;unfold Ch.val Ch.cells)
 go_ret
 exact ⟨rfl,HB2.out.alloc HB2.out.size _⟩
end Go.Proofs.YtjnidopbdjbbgaaGreat
