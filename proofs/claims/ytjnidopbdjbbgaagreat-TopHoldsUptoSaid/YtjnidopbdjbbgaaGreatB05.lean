/-
  The stack of levels: its small methods, walked.
-/
import Derived.Test.YtjnidopbdjbbgaaGreatB04
import Derived.StillTailTactics
import Derived.Deep.RegionHeld3
import Derived.Laws.Rows
import Derived.OwnWalk
import Derived.WalkMore
import Derived.Deep.LoopGhost
section
namespace Go.Proofs.YtjnidopbdjbbgaaGreat
open Go.RowKit
set_option linter.unusedVariables false
/-- All but some of the blocks that were there is as it was. -/
structure Kept (S:Nat→Prop) (w w':World):Prop where
 os:w'.os = w.os
 tape:w'.tape = w.tape
 output:w'.output = w.output
 size:w.heap.size≤w'.heap.size
 block:∀ k,k < w.heap.size→¬ S k→w'.heap[k]? = w.heap[k]?
theorem Kept.refl (S:Nat→Prop) (w:World):Kept S w w:=⟨rfl,rfl,rfl,Nat.le_refl _,fun _ _ _ => rfl⟩
theorem Kept.trans {S T:Nat→Prop} {a b c:World} (h:Kept S a b) (k:Kept T b c) (hT:∀ i,T i→S i∨a.heap.size≤i):Kept S a c:=
 ⟨k.os.trans h.os,k.tape.trans h.tape,k.output.trans h.output,Nat.le_trans h.size k.size,fun i hi hs => (k.block i (Nat.lt_of_lt_of_le hi h.size) (fun ht => by rcases hT i ht with h1 | h1;exact hs h1;omega)).trans (h.block i hi hs)⟩
theorem Kept.of_below {S:Nat→Prop} {w w':World} (h:Below w.heap.size w w'):Kept S w w':=⟨h.os,h.tape,h.output,h.size,fun k hk _ => h.block k hk⟩
theorem Kept.below {S:Nat→Prop} {B:Nat} {w0 w w':World} (h:Kept S w w') (hb:Below B w0 w) (hS:∀ k,S k→B≤k) (hB:B≤w.heap.size):Below B w0 w':=
 hb.trans ⟨h.os,h.tape,h.output,h.size,fun k hk => h.block k (Nat.lt_of_lt_of_le hk hB) (fun hs => by have:=hS k hs;omega)⟩
theorem Kept.own {S:Nat→Prop} {w w':World} (h:Kept S w w') {B size n c:Nat} {a:Option Addr} {xs:List Value} (ho:Own w B size a n c xs) (hS:∀ g,blockOf a = some g→¬ S g):Own w' B size a n c xs:=
 ho.same h.size fun g hg => by
  rcases ho.row with ⟨h0,_⟩ | ⟨g',ha,_,h2,_⟩
  · rw [h0] at hg;cases hg
  · rw [ha] at hg
    simp at hg
    subst hg
    exact h.block g' h2 (hS g' (blockOf_some ha))
theorem Kept.cell {S:Nat→Prop} {w w':World} (h:Kept S w w') {p:Addr} {v:Value} (hc:w.cell? p = some v) (hS:¬ S p.block):w'.cell? p = some v:=by
 rw [World.cell?_of_block (w:=w) (h.block p.block (World.block_lt_of_cell? w _ hc) hS)]
 exact hc
theorem heap_set {w:World} {N j:Nat} {arr:Array Value} {t:TypeId} {fr:Nat × Nat} (h1:w.heap[N]? = some (.cells arr t fr)) (v:Value):(w.setCell ⟨N,j,none⟩ v).heap[N]? = some (.cells (arr.setIfInBounds j v) t fr):=by
 show (w.heap.modify N _)[N]? = _
 rw [Array.getElem?_modify,if_pos rfl,h1]
 rfl
theorem heap_set3 {w:World} {N:Nat} {a b c:Value} {t:TypeId} {fr:Nat × Nat} (h:w.heap[N]? = some (.cells #[a,b,c] t fr)) (x y z:Value):
 (((w.setCell ⟨N,0,none⟩ x).setCell ⟨N,1,none⟩ y).setCell ⟨N,2,none⟩ z).heap[N]? = some (.cells #[x,y,z] t fr):=heap_set (heap_set (heap_set h x) y) z
theorem heap_set4 {w:World} {N:Nat} {a b c d:Value} {t:TypeId} {fr:Nat × Nat} (h:w.heap[N]? = some (.cells #[a,b,c,d] t fr)) (x y z u:Value):
 ((((w.setCell ⟨N,0,none⟩ x).setCell ⟨N,1,none⟩ y).setCell ⟨N,2,none⟩ z).setCell ⟨N,3,none⟩ u).heap[N]? = some (.cells #[x,y,z,u] t fr):=heap_set (heap_set (heap_set (heap_set h x) y) z) u
theorem heap_other {w:World} {N k j:Nat} {o:Obj} (h:w.heap[N]? = some o) (hne:N≠k) (v:Value):(w.setCell ⟨k,j,none⟩ v).heap[N]? = some o:=(Below.heap_setCell w ⟨k,j,none⟩ v N hne).trans h
def entV (e:Ent):List Value:=[.int .i8 e.level,.int .u8 e.over,.bool e.iso]
def entsV (l:List Ent):List Value:=l.reverse.flatMap entV
theorem entsV_cons (e:Ent) (l:List Ent):entsV (e :: l) = entsV l ++ entV e:=by simp [entsV]
theorem entsV_len (l:List Ent):(entsV l).length = l.length * 3:=by
 induction l with
 | nil => rfl
 | cons e l ih => rw [entsV_cons,List.length_append,ih];simp [entV];omega
theorem still_tail {P:Program} {id:Nat} {Q:Exit→Act→World→Prop} {a:Act} {w:World} {l:List Oper} (n:Nat) (hm:P.follows .mixedOrders = true) (hB:Region.lexTailB .any l.toArray n = true)
 (h:∀ V:World,V = w.drew→wpStill P l.toArray V (fun a' => wpList P l.toArray Q (l.drop n) a' V) (l.take n) a):(Code.region id l.toArray true).wp P Q a w:=
 wp_region_still_tail n hm hB (h _ rfl)
theorem cellV {V w:World} (hV:V = w.drew) {p:Addr} {x:Option Value} (h:w.cell? p = x):V.cell? p = x:=by subst hV;exact h
theorem frozenV {V w:World} (hV:V = w.drew) {p:Addr} {x:Bool} (h:w.frozen? p = x):V.frozen? p = x:=by subst hV;exact h
theorem belowV {V w w0:World} (hV:V = w.drew) {B:Nat} (h:Below B w0 w):Below B w0 V:=by subst hV;exact h.drew
theorem heapV {V w:World} (hV:V = w.drew):V.heap = w.heap:=by subst hV;rfl
theorem keptV {S:Nat→Prop} {V w w0:World} (hV:V = w.drew) (h:Kept S w0 w):Kept S w0 V:=by subst hV;exact ⟨h.os,h.tape,h.output,h.size,h.block⟩
/-- A stack that lies at a block. -/
structure StackAt (w:World) (B sb:Nat) (pa:Option Addr) (pc:Nat) (s:St):Prop where
 box:w.heap[sb]? = some (.cells #[.slice pa s.l.length pc,.int .i64 s.isos,.int .i64 s.embs,.int .i64 s.valid] 187)
 own:Own w B 3 pa s.l.length pc (entsV s.l)
 apart:blockOf pa≠some sb
 ge:B≤sb
theorem cells_at {w:World} {sb:Nat} {cs:Array Value} {t:TypeId} (h:w.heap[sb]? = some (.cells cs t)) (j:Nat):w.cell? ⟨sb,j,none⟩ = cs[j]?:=by
 simp [World.cell?,h]
theorem frozen_at {w:World} {sb:Nat} {cs:Array Value} {t:TypeId} (h:w.heap[sb]? = some (.cells cs t)) (j:Nat):w.frozen? ⟨sb,j,none⟩ = false:=by
 simp [World.frozen?,h]
theorem StackAt.cells {w:World} {B sb:Nat} {pa:Option Addr} {pc:Nat} {s:St} (h:StackAt w B sb pa pc s):
 w.cell? ⟨sb,0,none⟩ = some (.slice pa s.l.length pc)∧w.cell? ⟨sb,1,none⟩ = some (.int .i64 s.isos)∧w.cell? ⟨sb,2,none⟩ = some (.int .i64 s.embs)∧w.cell? ⟨sb,3,none⟩ = some (.int .i64 s.valid):=
 ⟨cells_at h.box 0,cells_at h.box 1,cells_at h.box 2,cells_at h.box 3⟩
/-- Its last entry. -/
theorem own_top {w:World} {B:Nat} {pa:Option Addr} {pc:Nat} {e:Ent} {r:List Ent} (h:Own w B 3 pa (r.length + 1) pc (entsV (e :: r))):
 ∃ g,pa = some ⟨g,0,none⟩∧w.cell? ⟨g,r.length * 3,none⟩ = some (.int .i8 e.level)∧w.cell? ⟨g,r.length * 3 + 1,none⟩ = some (.int .u8 e.over)∧w.cell? ⟨g,r.length * 3 + 2,none⟩ = some (.bool e.iso):=by
 obtain ⟨g,hg,_,_,h3,_⟩:=h.addr (by have:=h.le;omega)
 refine ⟨g,hg,h3 _ _ ?_,h3 _ _ ?_,h3 _ _ ?_⟩
 all_goals
  rw [entsV_cons,List.getElem?_append_right (by rw [entsV_len];omega),entsV_len]
 · rw [Nat.sub_self];rfl
 · rw [show r.length * 3 + 1 - r.length * 3 = 1 from by omega];rfl
 · rw [show r.length * 3 + 2 - r.length * 3 = 2 from by omega];rfl
set_option maxRecDepth 20000 in
set_option maxHeartbeats 4000000 in
theorem last_any (w:World) (B sb:Nat) (pa:Option Addr) (pc:Nat) (s:St) (e:Ent) (r:List Ent) (h:StackAt w B sb pa pc s) (hs:s.l = e :: r) (hl:r.length≤1099511627776):
 Calls Tryz.prog 144 #[.pointer (some ⟨sb,0,none⟩)] w fun x w' => x = .returned (.agg #[.int .i8 e.level,.int .u8 e.over,.bool e.iso])∧Below w.heap.size w w':=by
 obtain ⟨c0,_,_,_⟩:=h.cells
 have ho:=h.own
 rw [hs,List.length_cons] at ho c0
 obtain ⟨g,rfl,d0,d1,d2⟩:=own_top ho
 obtain ⟨n,hn⟩:∃ n,n = r.length:=⟨_,rfl⟩
 rw [← hn] at hl c0 d0 d1 d2
 clear h hs ho hn
 have h1:(0:Int)≤(n:Int):=by omega
 have h2:(n:Int) < (n:Int) + 1:=by omega
 have hwr:=IntWalk.i64_in (n:Int) (by omega)
 have hwr2:=IntWalk.i64_in ((n:Int) + 1) (by omega)
 go_enter Tryz.func144,Tryz.ntmps144
 go_wp2
 have hb:=(Below.refl w.heap.size w).alloc (Nat.le_refl _) (.cells #[.int .i8 0,.int .u8 0,.bool false] 184)
 have k0:(w.alloc (.cells #[.int .i8 0,.int .u8 0,.bool false] 184)).cell? ⟨w.heap.size,0,none⟩ = some (.int .i8 0):=by rw [World.cell?_alloc_new];rfl
 have k1:(w.alloc (.cells #[.int .i8 0,.int .u8 0,.bool false] 184)).cell? ⟨w.heap.size,1,none⟩ = some (.int .u8 0):=by rw [World.cell?_alloc_new];rfl
 have k2:(w.alloc (.cells #[.int .i8 0,.int .u8 0,.bool false] 184)).cell? ⟨w.heap.size,2,none⟩ = some (.bool false):=by rw [World.cell?_alloc_new];rfl
 have f0:∀ j,(w.alloc (.cells #[.int .i8 0,.int .u8 0,.bool false] 184)).frozen? ⟨w.heap.size,j,none⟩ = false:=fun j => World.frozen?_alloc_new _ _ _ _
 replace c0:=(hb.cell (World.block_lt_of_cell? w _ c0)).trans c0
 replace d0:=(hb.cell (World.block_lt_of_cell? w _ d0)).trans d0
 replace d1:=(hb.cell (World.block_lt_of_cell? w _ d1)).trans d1
 replace d2:=(hb.cell (World.block_lt_of_cell? w _ d2)).trans d2
 have HB:=Lib.hid hb
 have HH:=Lib.hid (heap_alloc_new w (.cells #[.int .i8 0,.int .u8 0,.bool false] 184))
 generalize w.alloc (.cells #[.int .i8 0,.int .u8 0,.bool false] 184) = W at *
 clear hb
 have f00:=f0 0
 have f01:=f0 1
 have f02:=f0 2
 clear f0
 refine still_tail 12 (by kernel_rfl) (by kernel_rfl) (fun V hV => ?_)
 replace c0:=cellV hV c0
 replace d0:=cellV hV d0
 replace d1:=cellV hV d1
 replace d2:=cellV hV d2
 replace k0:=cellV hV k0
 replace k1:=cellV hV k1
 replace k2:=cellV hV k2
 replace f00:=frozenV hV f00
 replace f01:=frozenV hV f01
 replace f02:=frozenV hV f02
 replace HB:=Lib.hid (belowV hV HB.out)
 replace HH:=Lib.hid ((congrArg (fun h => h[w.heap.size]?) (heapV hV)).trans HH.out)
 clear hV
 simp only [List.take_succ_cons,List.take_zero,List.drop_succ_cons,List.drop_zero]
 repeat still_step
 try refine wpStill_nil ?_
 go_wp2
 have hr:=heap_set3 (HH.out) (.int .i8 e.level) (.int .u8 e.over) (.bool e.iso)
 exact bodyPost_ret (results_cell_row (P:=Tryz.prog) rfl _ _ w.heap.size 184 _ (0,0) _ rfl hr Tryz.underlying184 rfl (by kernel_rfl)) rfl ⟨rfl,((HB.out.setCell (p:=⟨w.heap.size,0,none⟩) (Nat.le_refl _) _).setCell (p:=⟨w.heap.size,1,none⟩) (Nat.le_refl _) _).setCell (p:=⟨w.heap.size,2,none⟩) (Nat.le_refl _) _⟩
theorem StackAt.below {w w':World} {B sb:Nat} {pa:Option Addr} {pc:Nat} {s:St} (h:StackAt w B sb pa pc s) (hb:Below w.heap.size w w'):StackAt w' B sb pa pc s:=
 ⟨(hb.block sb (Array.getElem?_eq_some_iff.1 h.box).1).trans h.box,h.own.below hb,h.apart,h.ge⟩
theorem StackAt.lt {w:World} {B sb:Nat} {pa:Option Addr} {pc:Nat} {s:St} (h:StackAt w B sb pa pc s):sb < w.heap.size:=(Array.getElem?_eq_some_iff.1 h.box).1
theorem StackAt.frozen {w:World} {B sb:Nat} {pa:Option Addr} {pc:Nat} {s:St} (h:StackAt w B sb pa pc s) (j:Nat):w.frozen? ⟨sb,j,none⟩ = false:=frozen_at h.box j
/-- What a step on a stack leaves: all but the stack's own blocks; and where its entries lie now. -/
structure Moved (w w':World) (sb:Nat) (pa pa':Option Addr):Prop where
 kept:Kept (fun k => k = sb∨blockOf pa = some k) w w'
 place:blockOf pa' = blockOf pa∨∃ g,blockOf pa' = some g∧w.heap.size≤g
theorem Moved.of_below {w w':World} {sb:Nat} {pa:Option Addr} (h:Below w.heap.size w w'):Moved w w' sb pa pa:=⟨Kept.of_below h,.inl rfl⟩
theorem Moved.trans {a b c:World} {sb:Nat} {p q r:Option Addr} (h:Moved a b sb p q) (k:Moved b c sb q r):Moved a c sb p r:=by
 refine ⟨h.kept.trans k.kept fun i hi => ?_,?_⟩
 · rcases hi with h1 | h1
   · exact .inl (.inl h1)
   · rcases h.place with e | ⟨g,e,hg⟩
     · exact .inl (.inr (e ▸ h1))
     · rw [e] at h1;cases h1;exact .inr hg
 · rcases k.place with e | ⟨g,e,hg⟩
   · rw [e];exact h.place
   · exact .inr ⟨g,e,Nat.le_trans h.kept.size hg⟩
set_option maxHeartbeats 4000000 in
theorem none_any (w:World) (B sb:Nat) (pa:Option Addr) (pc:Nat) (s:St) (h:StackAt w B sb pa pc s) (h1:0 < s.l.length) (hl:s.l.length≤1099511627776):
 Calls Tryz.prog 139 #[.pointer (some ⟨sb,0,none⟩)] w fun x w' => x = .returned (.bool false)∧w = w':=by
 obtain ⟨c0,_,_,_⟩:=h.cells
 obtain ⟨n,hn⟩:∃ n,n = s.l.length:=⟨_,rfl⟩
 rw [← hn] at c0 h1 hl
 have hz:((n:Int) == 0) = false:=by simp;omega
 clear h hn
 go_enter Tryz.func139,Tryz.ntmps139
 go_wp2
 go_ret
 exact ⟨rfl,rfl⟩
theorem top_of {s:St} {e:Ent} {r:List Ent} (h:s.l = e :: r):s.top = e:=by unfold St.top;rw [h];rfl
set_option maxRecDepth 20000 in
set_option maxHeartbeats 4000000 in
theorem plain_any (w:World) (B sb:Nat) (pa:Option Addr) (pc:Nat) (s:St) (h:StackAt w B sb pa pc s) (h1:0 < s.l.length) (hl:s.l.length≤1099511627776) (c:Nat) (hc1:1≤c) (hc2:c≤23):
 Calls Tryz.prog 142 #[.pointer (some ⟨sb,0,none⟩),.int .u8 c] w fun x w' => x = .returned (.tuple #[.int .i8 s.top.level,.int .u8 (s.plain c),.bool true])∧Below w.heap.size w w':=by
 obtain ⟨e,r,hs⟩:∃ e r,s.l = e :: r:=by
  cases hq:s.l with
  | nil => rw [hq] at h1;simp at h1
  | cons e r => exact ⟨e,r,rfl⟩
 have HL:=Lib.hid (fun w h => last_any w B sb pa pc s e r h hs (by rw [hs] at hl;simp at hl;omega))
 have HA:=Lib.hid h
 have htop:=top_of hs
 have hpl:s.plain c = if e.over = 0 then c else e.over:=by unfold St.plain;rw [htop]
 rw [htop,hpl]
 have g1:(1:Int)≤(c:Int):=by omega
 have g2:(c:Int)≤23:=by omega
 by_cases ho:e.over = 0
 · have ho2:(((0:Nat):Int) != 0) = false:=rfl
   rw [if_pos ho]
   rw [ho] at HL
   clear h hs htop hpl ho h1 hl
   go_enter Tryz.func142,Tryz.ntmps142
   go_wp2_with (go_at_call 144;refine (HL.out _ HA.out).mono ?_;rintro x w1 ⟨rfl,hb1⟩;have HB1:=Lib.hid hb1;clear hb1)
   go_ret3
   exact ⟨rfl,HB1.out.alloc HB1.out.size _⟩
 · have ho2:((e.over:Int) != 0) = true:=by simp;omega
   rw [if_neg ho]
   clear h hs htop hpl ho h1 hl
   go_enter Tryz.func142,Tryz.ntmps142
   go_wp2_with (go_at_call 144;refine (HL.out _ HA.out).mono ?_;rintro x w1 ⟨rfl,hb1⟩;have HB1:=Lib.hid hb1;clear hb1)
   go_ret3
   exact ⟨rfl,HB1.out.alloc HB1.out.size _⟩
theorem field184_0 (a b c:Value) (w:World):(Instr.field 184 (.agg #[a,b,c]) 0).run Tryz.prog w = .ok a w:=by
 simp [Instr.field,run_underlying Tryz.underlying184,part,Tryz.isAgg26,asAgg]
theorem field184_2 (a b c:Value) (w:World):(Instr.field 184 (.agg #[a,b,c]) 2).run Tryz.prog w = .ok c w:=by
 simp [Instr.field,run_underlying Tryz.underlying184,part,Tryz.isAgg4,asAgg]
attribute [local go_sem] field184_0 field184_2
theorem info184:(Tryz.prog.info? 184).map (fun i => (i.zero,i.size,i.bytes)) = some (some (.agg #[.int .i8 0,.int .u8 0,.bool false]),3,3):=by kernel_rfl
set_option maxRecDepth 20000 in
set_option maxHeartbeats 4000000 in
theorem put_no (w:World) (B sb:Nat) (pa:Option Addr) (pc:Nat) (s:St) (h:StackAt w B sb pa pc s) (h1:0 < s.l.length) (hl:s.l.length≤1099511627776) (odd:Bool) (over:Nat) (iso:Bool) (hlv:s.top.level≤125) (hr:s.room odd = false):
 Calls Tryz.prog 140 #[.pointer (some ⟨sb,0,none⟩),.bool odd,.int .u8 over,.bool iso] w fun x w' => x = .returned (.bool false)∧Below w.heap.size w w':=by
 obtain ⟨e,r,hs⟩:∃ e r,s.l = e :: r:=by
  cases hq:s.l with
  | nil => rw [hq] at h1;simp at h1
  | cons e r => exact ⟨e,r,rfl⟩
 have HL:=Lib.hid (fun w h => last_any w B sb pa pc s e r h hs (by rw [hs] at hl;simp at hl;omega))
 have HA:=Lib.hid h
 have HF:Hid (∀ w',Below w.heap.size w w'→w'.cell? ⟨sb,1,none⟩ = some (.int .i64 s.isos)∧w'.cell? ⟨sb,2,none⟩ = some (.int .i64 s.embs)):=Lib.hid fun w' hb => ⟨(h.below hb).cells.2.1,(h.below hb).cells.2.2.1⟩
 have htop:=top_of hs
 rw [htop] at hlv
 simp only [St.room,htop] at hr
 unfold nextLevel at hr
 obtain ⟨L,hL⟩:∃ L,L = e.level:=⟨_,rfl⟩
 rw [← hL] at hlv hr HL
 obtain ⟨I,hI⟩:∃ I,I = s.isos:=⟨_,rfl⟩
 obtain ⟨E,hE⟩:∃ E,E = s.embs:=⟨_,rfl⟩
 rw [← hI,← hE] at HF
 rw [← hI,← hE] at hr
 have hL0:(0:Int)≤(L:Int):=by omega
 have hL1:(L:Int)≤125:=by omega
 clear h hs htop hL hI hE h1 hl
 rcases Nat.mod_two_eq_zero_or_one (L + 1) with hp | hp
 · have ht:((L:Int) + 1).tmod 2 = 0:=by rw [Int.tmod_eq_emod_of_nonneg (by omega)];omega
   cases odd
   · have hr2:¬ (L + 1≤125∧I = 0∧E = 0):=by
      intro hh
      rw [hp] at hr
      simp [hh] at hr
      try omega
     clear hr
     by_cases hn:L + 1≤125
     · have hn2:(L:Int) + 1≤125:=by omega
       by_cases hi:I = 0
       · have hE:0 < (E:Int):=by omega
         have hI:(I:Int)≤0:=by omega
         clear hr2 hi hn hp
         go_enter Tryz.func140,Tryz.ntmps140
         go_wp2_with (go_at_call 144;refine (HL.out _ HA.out).mono ?_;rintro x w1 ⟨rfl,hb1⟩;have HB1:=Lib.hid hb1;obtain ⟨k1,k2⟩:=HF.out _ hb1;clear hb1)
         go_ret
         exact ⟨rfl,HB1.out⟩
       · have hI:0 < (I:Int):=by omega
         clear hr2 hi hn hp
         go_enter Tryz.func140,Tryz.ntmps140
         go_wp2_with (go_at_call 144;refine (HL.out _ HA.out).mono ?_;rintro x w1 ⟨rfl,hb1⟩;have HB1:=Lib.hid hb1;obtain ⟨k1,k2⟩:=HF.out _ hb1;clear hb1)
         go_ret
         exact ⟨rfl,HB1.out⟩
     · have hn2:125 < (L:Int) + 1:=by omega
       clear hr2 hn hp
       go_enter Tryz.func140,Tryz.ntmps140
       go_wp2_with (go_at_call 144;refine (HL.out _ HA.out).mono ?_;rintro x w1 ⟨rfl,hb1⟩;have HB1:=Lib.hid hb1;obtain ⟨k1,k2⟩:=HF.out _ hb1;clear hb1)
       go_ret
       exact ⟨rfl,HB1.out⟩
   · have hr2:¬ (L + 2≤125∧I = 0∧E = 0):=by
      intro hh
      rw [hp] at hr
      simp [hh] at hr
      try omega
     clear hr
     by_cases hn:L + 2≤125
     · have hn2:(L:Int) + 1 + 1≤125:=by omega
       by_cases hi:I = 0
       · have hE:0 < (E:Int):=by omega
         have hI:(I:Int)≤0:=by omega
         clear hr2 hi hn hp
         go_enter Tryz.func140,Tryz.ntmps140
         go_wp2_with (go_at_call 144;refine (HL.out _ HA.out).mono ?_;rintro x w1 ⟨rfl,hb1⟩;have HB1:=Lib.hid hb1;obtain ⟨k1,k2⟩:=HF.out _ hb1;clear hb1)
         go_ret
         exact ⟨rfl,HB1.out⟩
       · have hI:0 < (I:Int):=by omega
         clear hr2 hi hn hp
         go_enter Tryz.func140,Tryz.ntmps140
         go_wp2_with (go_at_call 144;refine (HL.out _ HA.out).mono ?_;rintro x w1 ⟨rfl,hb1⟩;have HB1:=Lib.hid hb1;obtain ⟨k1,k2⟩:=HF.out _ hb1;clear hb1)
         go_ret
         exact ⟨rfl,HB1.out⟩
     · have hn2:125 < (L:Int) + 1 + 1:=by omega
       clear hr2 hn hp
       go_enter Tryz.func140,Tryz.ntmps140
       go_wp2_with (go_at_call 144;refine (HL.out _ HA.out).mono ?_;rintro x w1 ⟨rfl,hb1⟩;have HB1:=Lib.hid hb1;obtain ⟨k1,k2⟩:=HF.out _ hb1;clear hb1)
       go_ret
       exact ⟨rfl,HB1.out⟩
 · have ht:((L:Int) + 1).tmod 2 = 1:=by rw [Int.tmod_eq_emod_of_nonneg (by omega)];omega
   cases odd
   · have hr2:¬ (L + 2≤125∧I = 0∧E = 0):=by
      intro hh
      rw [hp] at hr
      simp [hh] at hr
      try omega
     clear hr
     by_cases hn:L + 2≤125
     · have hn2:(L:Int) + 1 + 1≤125:=by omega
       by_cases hi:I = 0
       · have hE:0 < (E:Int):=by omega
         have hI:(I:Int)≤0:=by omega
         clear hr2 hi hn hp
         go_enter Tryz.func140,Tryz.ntmps140
         go_wp2_with (go_at_call 144;refine (HL.out _ HA.out).mono ?_;rintro x w1 ⟨rfl,hb1⟩;have HB1:=Lib.hid hb1;obtain ⟨k1,k2⟩:=HF.out _ hb1;clear hb1)
         go_ret
         exact ⟨rfl,HB1.out⟩
       · have hI:0 < (I:Int):=by omega
         clear hr2 hi hn hp
         go_enter Tryz.func140,Tryz.ntmps140
         go_wp2_with (go_at_call 144;refine (HL.out _ HA.out).mono ?_;rintro x w1 ⟨rfl,hb1⟩;have HB1:=Lib.hid hb1;obtain ⟨k1,k2⟩:=HF.out _ hb1;clear hb1)
         go_ret
         exact ⟨rfl,HB1.out⟩
     · have hn2:125 < (L:Int) + 1 + 1:=by omega
       clear hr2 hn hp
       go_enter Tryz.func140,Tryz.ntmps140
       go_wp2_with (go_at_call 144;refine (HL.out _ HA.out).mono ?_;rintro x w1 ⟨rfl,hb1⟩;have HB1:=Lib.hid hb1;obtain ⟨k1,k2⟩:=HF.out _ hb1;clear hb1)
       go_ret
       exact ⟨rfl,HB1.out⟩
   · have hr2:¬ (L + 1≤125∧I = 0∧E = 0):=by
      intro hh
      rw [hp] at hr
      simp [hh] at hr
      try omega
     clear hr
     by_cases hn:L + 1≤125
     · have hn2:(L:Int) + 1≤125:=by omega
       by_cases hi:I = 0
       · have hE:0 < (E:Int):=by omega
         have hI:(I:Int)≤0:=by omega
         clear hr2 hi hn hp
         go_enter Tryz.func140,Tryz.ntmps140
         go_wp2_with (go_at_call 144;refine (HL.out _ HA.out).mono ?_;rintro x w1 ⟨rfl,hb1⟩;have HB1:=Lib.hid hb1;obtain ⟨k1,k2⟩:=HF.out _ hb1;clear hb1)
         go_ret
         exact ⟨rfl,HB1.out⟩
       · have hI:0 < (I:Int):=by omega
         clear hr2 hi hn hp
         go_enter Tryz.func140,Tryz.ntmps140
         go_wp2_with (go_at_call 144;refine (HL.out _ HA.out).mono ?_;rintro x w1 ⟨rfl,hb1⟩;have HB1:=Lib.hid hb1;obtain ⟨k1,k2⟩:=HF.out _ hb1;clear hb1)
         go_ret
         exact ⟨rfl,HB1.out⟩
     · have hn2:125 < (L:Int) + 1:=by omega
       clear hr2 hn hp
       go_enter Tryz.func140,Tryz.ntmps140
       go_wp2_with (go_at_call 144;refine (HL.out _ HA.out).mono ?_;rintro x w1 ⟨rfl,hb1⟩;have HB1:=Lib.hid hb1;obtain ⟨k1,k2⟩:=HF.out _ hb1;clear hb1)
       go_ret
       exact ⟨rfl,HB1.out⟩
end Go.Proofs.YtjnidopbdjbbgaaGreat
end
/-
  The stack of levels: an isolate's entry, and those above it, taken off; walked.
-/
section
namespace Go.Proofs.YtjnidopbdjbbgaaGreat
open Go.RowKit
set_option linter.unusedVariables false
attribute [local go_sem] field184_0 field184_2
theorem StackAt.pa_ne {w:World} {B sb:Nat} {pa:Option Addr} {pc:Nat} {s:St} (h:StackAt w B sb pa pc s) {g:Nat} (hg:pa = some ⟨g,0,none⟩):g≠sb:=fun e => h.apart (by rw [hg,e];rfl)
theorem StackAt.setOwn {w:World} {B sb:Nat} {pa:Option Addr} {pc:Nat} {s:St} (h:StackAt w B sb pa pc s) (j:Nat) (v:Value):Own (w.setCell ⟨sb,j,none⟩ v) B 3 pa s.l.length pc (entsV s.l):=
 h.own.stored_other _ _ fun g hg e => h.pa_ne hg e
theorem StackAt.isos {w:World} {B sb:Nat} {pa:Option Addr} {pc:Nat} {s:St} (h:StackAt w B sb pa pc s) (x:Nat):StackAt (w.setCell ⟨sb,1,none⟩ (.int .i64 x)) B sb pa pc { s with isos:=x }:=
 ⟨heap_set h.box _,h.setOwn _ _,h.apart,h.ge⟩
theorem StackAt.embs {w:World} {B sb:Nat} {pa:Option Addr} {pc:Nat} {s:St} (h:StackAt w B sb pa pc s) (x:Nat):StackAt (w.setCell ⟨sb,2,none⟩ (.int .i64 x)) B sb pa pc { s with embs:=x }:=
 ⟨heap_set h.box _,h.setOwn _ _,h.apart,h.ge⟩
theorem StackAt.valid {w:World} {B sb:Nat} {pa:Option Addr} {pc:Nat} {s:St} (h:StackAt w B sb pa pc s) (x:Nat):StackAt (w.setCell ⟨sb,3,none⟩ (.int .i64 x)) B sb pa pc { s with valid:=x }:=
 ⟨heap_set h.box _,h.setOwn _ _,h.apart,h.ge⟩
theorem StackAt.cut {w:World} {B sb:Nat} {pa:Option Addr} {pc:Nat} {s:St} {e:Ent} {r:List Ent} (h:StackAt w B sb pa pc s) (hs:s.l = e :: r):StackAt (w.setCell ⟨sb,0,none⟩ (.slice pa r.length pc)) B sb pa pc { s with l:=r }:=by
 refine ⟨heap_set h.box _,?_,h.apart,h.ge⟩
 have h1:=h.setOwn 0 (.slice pa r.length pc)
 rw [hs] at h1
 have h2:=h1.prefix r.length (by simp)
 refine h2.eqL ?_
 rw [entsV_cons,← entsV_len r,List.take_append_of_le_length (Nat.le_refl _),List.take_length]
theorem StackAt.drewV {V w:World} (hV:V = w.drew) {B sb:Nat} {pa:Option Addr} {pc:Nat} {s:St} (h:StackAt w B sb pa pc s):StackAt V B sb pa pc s:=by
 subst hV
 exact ⟨h.box,h.own.drew,h.apart,h.ge⟩
theorem Moved.set {w w':World} {sb:Nat} {pa pa':Option Addr} (h:Moved w w' sb pa pa') (j:Nat) (v:Value):Moved w (w'.setCell ⟨sb,j,none⟩ v) sb pa pa':=
 ⟨⟨h.kept.os,h.kept.tape,h.kept.output,by have:=h.kept.size;simpa using this,fun k hk hs => (Below.heap_setCell w' ⟨sb,j,none⟩ v k (fun e => hs (.inl e))).trans (h.kept.block k hk hs)⟩,h.place⟩
theorem Moved.drewV {V w w':World} (hV:V = w'.drew) {sb:Nat} {pa pa':Option Addr} (h:Moved w w' sb pa pa'):Moved w V sb pa pa':=⟨keptV hV h.kept,h.place⟩
theorem Moved.refl (w:World) (sb:Nat) (pa:Option Addr):Moved w w sb pa pa:=Moved.of_below (Below.refl _ _)
theorem not_iso {e:Ent} {r:List Ent} (h:e.iso = false):(e :: r).dropWhile (fun e => !e.iso) = r.dropWhile (fun e => !e.iso):=by simp [h]
set_option maxRecDepth 20000 in
set_option maxHeartbeats 4000000 in
/-- An isolate that waits is counted. -/
theorem pop_isos (w:World) (B sb:Nat) (pa:Option Addr) (pc:Nat) (s:St) (h:StackAt w B sb pa pc s) (hi:0 < s.isos) (hb:s.isos≤1099511627776):
 Calls Tryz.prog 143 #[.pointer (some ⟨sb,0,none⟩)] w fun x w' => x = .returned (.tuple #[])∧StackAt w' B sb pa pc s.pop∧Moved w w' sb pa pa:=by
 obtain ⟨c0,c1,c2,c3⟩:=h.cells
 have f1:=h.frozen 1
 have HA:=Lib.hid h
 have HP:Hid (s.pop = { s with isos:=s.isos - 1 }):=Lib.hid (by unfold St.pop;rw [if_pos hi])
 obtain ⟨I,hI⟩:∃ I,I = s.isos - 1:=⟨_,rfl⟩
 rw [show s.isos = I + 1 from by omega] at c1 hb
 rw [← hI] at HP
 clear h hi hI
 have hz:(0:Int) < (I:Int) + 1:=by omega
 have hI2:(I:Int)≤1099511627776:=by omega
 have hI3:(0:Int)≤(I:Int):=by omega
 go_enter Tryz.func143,Tryz.ntmps143
 go_wp2
 go_end0
 refine ⟨rfl,?_,?_⟩
 · rw [HP.out]
   exact HA.out.isos I
 · exact (Moved.refl w sb pa).set _ _
/-- None waits: nothing. -/
theorem pop_none (w:World) (B sb:Nat) (pa:Option Addr) (pc:Nat) (s:St) (h:StackAt w B sb pa pc s) (hi:s.isos = 0) (hv:s.valid = 0):
 Calls Tryz.prog 143 #[.pointer (some ⟨sb,0,none⟩)] w fun x w' => x = .returned (.tuple #[])∧StackAt w' B sb pa pc s.pop∧Moved w w' sb pa pa:=by
 obtain ⟨c0,c1,c2,c3⟩:=h.cells
 have HA:=Lib.hid h
 have HP:Hid (s.pop = s):=Lib.hid (by unfold St.pop;rw [if_neg (by omega),if_neg (by omega)])
 rw [hi] at c1
 rw [hv] at c3
 clear h hi hv
 go_enter Tryz.func143,Tryz.ntmps143
 go_wp2
 go_end0
 refine ⟨rfl,?_,Moved.refl w sb pa⟩
 rw [HP.out]
 exact HA.out
set_option maxRecDepth 20000 in
set_option maxHeartbeats 4000000 in
/-- An isolate's entry, and those above it. -/
theorem pop_valid (w:World) (B sb:Nat) (pa:Option Addr) (pc:Nat) (s:St) (h:StackAt w B sb pa pc s) (hi:s.isos = 0) (hv:0 < s.valid) (hv2:s.valid≤1099511627776) (hl:s.l.length≤1099511627776)
 (hd:∃ e r,s.l.dropWhile (fun e => !e.iso) = e :: r):
 Calls Tryz.prog 143 #[.pointer (some ⟨sb,0,none⟩)] w fun x w' => x = .returned (.tuple #[])∧StackAt w' B sb pa pc s.pop∧Moved w w' sb pa pa:=by
 obtain ⟨g,rfl⟩:∃ g,pa = some ⟨g,0,none⟩:=h.own.pos (by
  obtain ⟨e,r,he⟩:=hd
  cases hq:s.l with
  | nil => rw [hq] at he;simp at he
  | cons a b => simp)
 obtain ⟨c0,c1,c2,c3⟩:=h.cells
 have f2:=h.frozen 2
 have HA:=Lib.hid h
 have HP:Hid (s.pop = { l:=(s.l.dropWhile fun e => !e.iso).tail,isos:=0,embs:=0,valid:=s.valid - 1 }):=Lib.hid (by unfold St.pop;rw [if_neg (by omega),if_pos hv])
 obtain ⟨I,hI⟩:∃ I,I = s.valid - 1:=⟨_,rfl⟩
 rw [show s.valid = I + 1 from by omega] at c3 hv2
 rw [← hI] at HP
 rw [hi] at c1
 have HI:Hid (s.isos = 0):=Lib.hid hi
 have HV:Hid (s.valid = I + 1):=Lib.hid (by omega)
 have HD:=Lib.hid hd
 clear h hi hv hI hd
 have hz:(0:Int) < (I:Int) + 1:=by omega
 have hI2:(I:Int)≤1099511627776:=by omega
 have hI3:(0:Int)≤(I:Int):=by omega
 go_enter Tryz.func143,Tryz.ntmps143
 go_wp2
 go_loopg [] s.l.length (fun k wr => ∃ (l':List Ent),l'.length = k∧l'.length≤1099511627776∧s.l.dropWhile (fun e => !e.iso) = l'.dropWhile (fun e => !e.iso)∧StackAt wr B sb (some ⟨g,0,none⟩) pc { l:=l',isos:=0,embs:=0,valid:=I + 1 }∧Moved w wr sb (some ⟨g,0,none⟩) (some ⟨g,0,none⟩))
 case atStart =>
  refine ⟨s.l,rfl,hl,rfl,?_,(Moved.refl w sb (some ⟨g,0,none⟩)).set _ _⟩
  have:=HA.out.embs 0
  have e:s = { l:=s.l,isos:=0,embs:=s.embs,valid:=I + 1 }:=by
   have h1:=HI.out
   have h2:=HV.out
   cases s
   simp at h1 h2 ⊢
   exact ⟨h1,h2⟩
  rw [e] at this
  exact this
 case round =>
  obtain ⟨l',hk,hl2,hdr,hs,hm⟩:=hrel
  obtain ⟨e,r,he⟩:=HD.out
  cases l' with
  | nil => rw [hdr] at he;simp at he
  | cons x l' =>
   simp only [List.length_cons] at hl2 hk
   have HL:=Lib.hid (fun w h => last_any w B sb (some ⟨g,0,none⟩) pc { l:=x :: l',isos:=0,embs:=0,valid:=I + 1 } x l' h rfl (by omega))
   have HS:=Lib.hid hs
   have HM:=Lib.hid hm
   have HDR:=Lib.hid hdr
   have hle:=hs.own.le
   simp only [List.length_cons] at hle
   obtain ⟨n,hn⟩:∃ n,n = l'.length:=⟨_,rfl⟩
   rw [← hn] at hle hl2 hk
   have HN:=Lib.hid hn
   subst hk
   have h1:(0:Int)≤(n:Int):=by omega
   have h2:(n:Int)≤(pc:Int):=by omega
   have h3:(n:Int)≤1099511627776:=by omega
   have hwr:=IntWalk.i64_in (n:Int) (by omega)
   have hwr2:=IntWalk.i64_in ((n:Int) + 1) (by omega)
   have hwr3:=IntWalk.i64_in (I:Int) (by omega)
   clear hs hm hdr he hn hle
   by_cases hx:x.iso = true
   · rw [hx] at HL
     go_wp2_with (go_at_call 144;refine (HL.out _ HS.out).mono ?_;rintro y w1 ⟨rfl,hb1⟩;have HS1:=Lib.hid (HS.out.below hb1);have HM1:=Lib.hid (HM.out.trans (Moved.of_below hb1));clear hb1)
     obtain ⟨d0,_,_,d3⟩:=HS1.out.cells
     simp only [List.length_cons] at d0
     rw [← HN.out] at d0
     have e0:=HS1.out.frozen 0
     have e3:=HS1.out.frozen 3
     refine still_tail 14 (by kernel_rfl) (by kernel_rfl) (fun V hV => ?_)
     replace d0:=cellV hV d0
     replace d3:=cellV hV d3
     replace e0:=frozenV hV e0
     replace e3:=frozenV hV e3
     replace HS1:=Lib.hid (HS1.out.drewV hV)
     replace HM1:=Lib.hid (HM1.out.drewV hV)
     clear hV
     simp only [List.take_succ_cons,List.take_zero,List.drop_succ_cons,List.drop_zero]
     repeat still_step
     try refine wpStill_nil ?_
     go_wp2
     go_end0
     refine ⟨rfl,?_,(HM1.out.set 0 _).set 3 _⟩
     rw [HP.out,HDR.out,List.dropWhile_cons_of_neg (by simp [hx])]
     have:=(HS1.out.cut rfl).valid I
     rw [← HN.out] at this
     exact this
   · rw [show x.iso = false from by simpa using hx] at HL
     go_wp2_with (go_at_call 144;refine (HL.out _ HS.out).mono ?_;rintro y w1 ⟨rfl,hb1⟩;have HS1:=Lib.hid (HS.out.below hb1);have HM1:=Lib.hid (HM.out.trans (Moved.of_below hb1));clear hb1)
     obtain ⟨d0,_,_,_⟩:=HS1.out.cells
     simp only [List.length_cons] at d0
     rw [← HN.out] at d0
     have e0:=HS1.out.frozen 0
     refine still_tail 14 (by kernel_rfl) (by kernel_rfl) (fun V hV => ?_)
     replace d0:=cellV hV d0
     replace e0:=frozenV hV e0
     replace HS1:=Lib.hid (HS1.out.drewV hV)
     replace HM1:=Lib.hid (HM1.out.drewV hV)
     clear hV
     simp only [List.take_succ_cons,List.take_zero,List.drop_succ_cons,List.drop_zero]
     repeat still_step
     try refine wpStill_nil ?_
     go_wp2
     go_roundg n
     case measure => omega
     case rel =>
      refine ⟨l',HN.out.symm,by have:=HN.out;omega,?_,?_,HM1.out.set 0 _⟩
      · rw [HDR.out,not_iso (by simpa using hx)]
      · have:=HS1.out.cut rfl
        rw [← HN.out] at this
        exact this
end Go.Proofs.YtjnidopbdjbbgaaGreat
end
/-
  The stack of levels: an entry put on; entries taken off; walked.
-/
section
namespace Go.Proofs.YtjnidopbdjbbgaaGreat
open Go.RowKit
set_option linter.unusedVariables false
attribute [local go_sem] field184_0 field184_2
section
variable {P:Program} {w:World}
/-- append of one element of three cells, in the walk. -/
theorem wpList_push3 {ops:Array Oper} {rest:List Oper} {o:Oper} {act:Act} {Q:Exit→Act→World→Prop} (hgd:o.guard = none) (s x:Operand) (t:TypeId)
 (ho:o.op = .call { callee:=.builtin .append,args:=#[s,x],argTypes:=#[t,t] })
 (e:TypeId) (i:TypeInfo) (z:Value) (bytes:Nat) (ht:P.underlying t = some (.slice e)) (hi:P.info? e = some i) (hz:i.zero = some z) (hsize:i.size = 3) (hby:i.bytes = bytes) (hzs:z.cells.size = 3) (hz1:∀ u∈z.cells.toList,u.oneCell' = true)
 (B:Nat) (a:Option Addr) (n c:Nat) (xs:List Value) (hs:act.eval s = .slice a n c) (W:World) (v1 v2 v3:Value) (hw:w = W.alloc (.cells #[v1,v2,v3] e)) (hown:Own W B 3 a n c xs)
 (b:Nat) (hx:act.eval x = .slice (some ⟨b,0,none⟩) 1 1) (hb:b = W.heap.size) (hv:∀ u∈[v1,v2,v3],u.oneCell' = true)
 (h63:n≤1099511627776) (hby8:bytes≤64) (hB:B≤W.heap.size)
 (h:∀ a' c' w',Own w' B 3 a' (n + 1) c' (xs ++ [v1,v2,v3])→Apped (W.alloc (.cells #[v1,v2,v3] e)) w' a a'→wpList P ops Q rest (act.put o.dst (.slice a' (n + 1) c')) w'):wpList P ops Q (o :: rest) act w:=by
 subst hw
 subst hb
 refine wpList_app hgd s x t t ho e i z 3 bytes ht hi hz hsize hby hzs hz1 B a n c xs hs (hown.alloc _) _ 1 [v1,v2,v3] hx (Src.ofCells ht _ _ _ _ rfl (Cells.new W [v1,v2,v3] e) hv (by decide)) (by simp only [maxLen];omega) ?_ (by simp;omega) ?_
 · have:(n + 1) * bytes≤(1099511627776 + 1) * 64:=Nat.mul_le_mul (by omega) hby8
   omega
 · intro a' c' w' h1 h2
   exact h a' c' w' h1 h2
end
theorem StackAt.put {w w4:World} {B sb:Nat} {pa a4:Option Addr} {pc c4:Nat} {s:St} {e:Ent} {o:Obj} (h:StackAt w B sb pa pc s) (h4:Own w4 B 3 a4 (s.l.length + 1) c4 (entsV s.l ++ entV e)) (hap:Apped (w.alloc o) w4 pa a4):
 StackAt (w4.setCell ⟨sb,0,none⟩ (.slice a4 (s.l.length + 1) c4)) B sb a4 c4 { s with l:=e :: s.l }∧Moved w (w4.setCell ⟨sb,0,none⟩ (.slice a4 (s.l.length + 1) c4)) sb pa a4∧w4.heap[sb]? = w.heap[sb]?:=by
 have hl:=h.lt
 have hbl:∀ k,k < w.heap.size→blockOf pa≠some k→w4.heap[k]? = w.heap[k]?:=fun k hk hne => (hap.grown.block k (by simp;omega) (fun e => hne e.symm)).trans (Below.heap_alloc w o k hk)
 have hb4:=(hbl sb hl h.apart).trans h.box
 have hap4:blockOf a4≠some sb:=hap.apart h.apart (by simp;omega)
 have hsz:=hap.grown.size
 simp only [World.size_alloc] at hsz
 refine ⟨⟨by simpa using heap_set hb4 (.slice a4 (s.l.length + 1) c4) (j:=0),?_,hap4,h.ge⟩,⟨⟨hap.grown.os.trans rfl,hap.grown.tape.trans rfl,hap.grown.output.trans rfl,by simp;omega,fun k hk hs => ?_⟩,?_⟩,hbl sb hl h.apart⟩
 · have:=h4.stored_other ⟨sb,0,none⟩ (.slice a4 (s.l.length + 1) c4) (fun g hg e => hap4 (by rw [hg];show some g = some sb;rw [show g = sb from e]))
   rw [entsV_cons]
   exact this
 · exact (Below.heap_setCell w4 ⟨sb,0,none⟩ _ k (fun e => hs (.inl e))).trans (hbl k hk (fun e => hs (.inr e)))
 · rcases hap.place with e | ⟨g,e,hg⟩
   · exact .inl e
   · exact .inr ⟨g,e,by simp at hg;omega⟩
set_option maxRecDepth 20000 in
set_option maxHeartbeats 4000000 in
theorem put_yes (w:World) (B sb:Nat) (pa:Option Addr) (pc:Nat) (s:St) (h:StackAt w B sb pa pc s) (h1:0 < s.l.length) (hl:s.l.length≤1099511627776) (odd:Bool) (over:Nat) (iso:Bool) (hr:s.room odd = true):
 Calls Tryz.prog 140 #[.pointer (some ⟨sb,0,none⟩),.bool odd,.int .u8 over,.bool iso] w fun x w' => x = .returned (.bool true)∧∃ pa' pc',StackAt w' B sb pa' pc' (s.put odd over iso)∧Moved w w' sb pa pa':=by
 obtain ⟨i0,hi,hz0,hz1,hz2⟩:=info_parts info184
 obtain ⟨e,r,hs⟩:∃ e r,s.l = e :: r:=by
  cases hq:s.l with
  | nil => rw [hq] at h1;simp at h1
  | cons e r => exact ⟨e,r,rfl⟩
 have HL:=Lib.hid (fun w h => last_any w B sb pa pc s e r h hs (by rw [hs] at hl;simp at hl;omega))
 have HA:=Lib.hid h
 have HF:Hid (∀ w',Below w.heap.size w w'→w'.cell? ⟨sb,0,none⟩ = some (.slice pa s.l.length pc)∧w'.cell? ⟨sb,1,none⟩ = some (.int .i64 s.isos)∧w'.cell? ⟨sb,2,none⟩ = some (.int .i64 s.embs)):=Lib.hid fun w' hb => ⟨(h.below hb).cells.1,(h.below hb).cells.2.1,(h.below hb).cells.2.2.1⟩
 have htop:=top_of hs
 simp only [St.room,htop,Bool.and_eq_true,decide_eq_true_eq,beq_iff_eq] at hr
 obtain ⟨⟨hr1,hr2⟩,hr3⟩:=hr
 have hput:s.put odd over iso = { s with l:=⟨nextLevel e.level odd,over,iso⟩ :: s.l }:=by unfold St.put;rw [htop]
 rw [hput]
 obtain ⟨n,hn⟩:∃ n,n = s.l.length:=⟨_,rfl⟩
 rw [hr2,hr3,← hn] at HF
 rw [← hn] at hl
 have HN:=Lib.hid hn
 have hge:=h.ge
 have hlt:=h.lt
 clear h hs htop h1 hr2 hr3 hput hn
 obtain ⟨L,hL⟩:∃ L,L = e.level:=⟨_,rfl⟩
 rw [← hL] at hr1 HL ⊢
 have hlv:L≤124:=by unfold nextLevel at hr1;split at hr1 <;> omega
 have hL0:(0:Int)≤(L:Int):=by omega
 have hL1:(L:Int)≤124:=by omega
 clear hL
 have key:∀ (m:Nat),m = nextLevel L odd→∀ (w1 w4:World) (a4:Option Addr) (c4:Nat) (o:Obj),Below w.heap.size w w1→Own w4 B 3 a4 (n + 1) c4 (entsV s.l ++ [.int .i8 m,.int .u8 over,.bool iso])→Apped (w1.alloc o) w4 pa a4 →
  ∃ pa' pc',StackAt (w4.setCell ⟨sb,0,none⟩ (.slice a4 (n + 1) c4)) B sb pa' pc' { s with l:=⟨nextLevel L odd,over,iso⟩ :: s.l }∧Moved w (w4.setCell ⟨sb,0,none⟩ (.slice a4 (n + 1) c4)) sb pa pa':=by
  intro m hm w1 w4 a4 c4 o hb1 h4 hap
  rw [HN.out] at h4 ⊢
  obtain ⟨k1,k2,_⟩:=(HA.out.below hb1).put (e:=⟨m,over,iso⟩) h4 hap
  rw [← hm]
  exact ⟨a4,c4,k1,(Moved.of_below hb1).trans k2⟩
 have kbox:∀ (w1 w4:World) (a4:Option Addr) (o:Obj),Below w.heap.size w w1→Apped (w1.alloc o) w4 pa a4→w4.cell? ⟨sb,0,none⟩ = some (.slice pa n pc)∧w4.frozen? ⟨sb,0,none⟩ = false:=by
  intro w1 w4 a4 o hb1 hap
  have hbx:=(HA.out.below hb1).box
  have hb4:w4.heap[sb]? = w1.heap[sb]?:=(hap.grown.block sb (by have:=(HA.out.below hb1).lt;simp;omega) (fun e => HA.out.apart e.symm)).trans (Below.heap_alloc w1 o sb (HA.out.below hb1).lt)
  rw [HN.out]
  exact ⟨cells_at (hb4.trans hbx) 0,frozen_at (hb4.trans hbx) 0⟩
 have KEY:=Lib.hid key
 have KBOX:=Lib.hid kbox
 clear key kbox
 rcases Nat.mod_two_eq_zero_or_one (L + 1) with hp | hp
 · have ht:((L:Int) + 1).tmod 2 = 0:=by rw [Int.tmod_eq_emod_of_nonneg (by omega)];omega
   cases odd
   · have hm:L + 1 = nextLevel L false:=by unfold nextLevel;rw [hp];rfl
     have hn2:(L:Int) + 1≤125:=by rw [← hm] at hr1;omega
     have HM:=Lib.hid hm
     clear hm hr1 hp
     go_enter Tryz.func140,Tryz.ntmps140
     go_wp2_with (first | (go_at_call 144;refine (HL.out _ HA.out).mono ?_;rintro x w1 ⟨rfl,hb1⟩;have HB1:=Lib.hid hb1;obtain ⟨k0,k1,k2⟩:=HF.out _ hb1;clear hb1) | (at_builtin;refine wpList_push3 rfl _ _ 185 rfl 184 i0 _ 3 Tryz.underlying185 hi hz0 hz1 hz2 rfl (by simp [Value.cells,Value.oneCell']) B pa n pc (entsV s.l) rfl w1 _ _ _ rfl (by have:=(HA.out.below HB1.out).own;rw [← HN.out] at this;exact this) _ rfl rfl (by simp [Value.oneCell']) (by omega) (by decide) (by have:=HB1.out.size;have:=HA.out.lt;omega) ?_;intro a4 c4 w4 hown4 hap4;obtain ⟨kc,kf⟩:=KBOX.out _ _ _ _ HB1.out hap4;have HO4:=Lib.hid hown4;have HP4:=Lib.hid hap4;clear hown4 hap4))
     go_ret
     exact ⟨rfl,KEY.out (L + 1) HM.out _ _ _ _ _ HB1.out (HO4.out.eqL (by simp;try omega)) HP4.out⟩
   · have hm:L + 2 = nextLevel L true:=by unfold nextLevel;rw [hp];rfl
     have hn2:(L:Int) + 1 + 1≤125:=by rw [← hm] at hr1;omega
     have HM:=Lib.hid hm
     clear hm hr1 hp
     go_enter Tryz.func140,Tryz.ntmps140
     go_wp2_with (first | (go_at_call 144;refine (HL.out _ HA.out).mono ?_;rintro x w1 ⟨rfl,hb1⟩;have HB1:=Lib.hid hb1;obtain ⟨k0,k1,k2⟩:=HF.out _ hb1;clear hb1) | (at_builtin;refine wpList_push3 rfl _ _ 185 rfl 184 i0 _ 3 Tryz.underlying185 hi hz0 hz1 hz2 rfl (by simp [Value.cells,Value.oneCell']) B pa n pc (entsV s.l) rfl w1 _ _ _ rfl (by have:=(HA.out.below HB1.out).own;rw [← HN.out] at this;exact this) _ rfl rfl (by simp [Value.oneCell']) (by omega) (by decide) (by have:=HB1.out.size;have:=HA.out.lt;omega) ?_;intro a4 c4 w4 hown4 hap4;obtain ⟨kc,kf⟩:=KBOX.out _ _ _ _ HB1.out hap4;have HO4:=Lib.hid hown4;have HP4:=Lib.hid hap4;clear hown4 hap4))
     go_ret
     exact ⟨rfl,KEY.out (L + 2) HM.out _ _ _ _ _ HB1.out (HO4.out.eqL (by simp;try omega)) HP4.out⟩
 · have ht:((L:Int) + 1).tmod 2 = 1:=by rw [Int.tmod_eq_emod_of_nonneg (by omega)];omega
   cases odd
   · have hm:L + 2 = nextLevel L false:=by unfold nextLevel;rw [hp];rfl
     have hn2:(L:Int) + 1 + 1≤125:=by rw [← hm] at hr1;omega
     have HM:=Lib.hid hm
     clear hm hr1 hp
     go_enter Tryz.func140,Tryz.ntmps140
     go_wp2_with (first | (go_at_call 144;refine (HL.out _ HA.out).mono ?_;rintro x w1 ⟨rfl,hb1⟩;have HB1:=Lib.hid hb1;obtain ⟨k0,k1,k2⟩:=HF.out _ hb1;clear hb1) | (at_builtin;refine wpList_push3 rfl _ _ 185 rfl 184 i0 _ 3 Tryz.underlying185 hi hz0 hz1 hz2 rfl (by simp [Value.cells,Value.oneCell']) B pa n pc (entsV s.l) rfl w1 _ _ _ rfl (by have:=(HA.out.below HB1.out).own;rw [← HN.out] at this;exact this) _ rfl rfl (by simp [Value.oneCell']) (by omega) (by decide) (by have:=HB1.out.size;have:=HA.out.lt;omega) ?_;intro a4 c4 w4 hown4 hap4;obtain ⟨kc,kf⟩:=KBOX.out _ _ _ _ HB1.out hap4;have HO4:=Lib.hid hown4;have HP4:=Lib.hid hap4;clear hown4 hap4))
     go_ret
     exact ⟨rfl,KEY.out (L + 2) HM.out _ _ _ _ _ HB1.out (HO4.out.eqL (by simp;try omega)) HP4.out⟩
   · have hm:L + 1 = nextLevel L true:=by unfold nextLevel;rw [hp];rfl
     have hn2:(L:Int) + 1≤125:=by rw [← hm] at hr1;omega
     have HM:=Lib.hid hm
     clear hm hr1 hp
     go_enter Tryz.func140,Tryz.ntmps140
     go_wp2_with (first | (go_at_call 144;refine (HL.out _ HA.out).mono ?_;rintro x w1 ⟨rfl,hb1⟩;have HB1:=Lib.hid hb1;obtain ⟨k0,k1,k2⟩:=HF.out _ hb1;clear hb1) | (at_builtin;refine wpList_push3 rfl _ _ 185 rfl 184 i0 _ 3 Tryz.underlying185 hi hz0 hz1 hz2 rfl (by simp [Value.cells,Value.oneCell']) B pa n pc (entsV s.l) rfl w1 _ _ _ rfl (by have:=(HA.out.below HB1.out).own;rw [← HN.out] at this;exact this) _ rfl rfl (by simp [Value.oneCell']) (by omega) (by decide) (by have:=HB1.out.size;have:=HA.out.lt;omega) ?_;intro a4 c4 w4 hown4 hap4;obtain ⟨kc,kf⟩:=KBOX.out _ _ _ _ HB1.out hap4;have HO4:=Lib.hid hown4;have HP4:=Lib.hid hap4;clear hown4 hap4))
     go_ret
     exact ⟨rfl,KEY.out (L + 1) HM.out _ _ _ _ _ HB1.out (HO4.out.eqL (by simp;try omega)) HP4.out⟩
end Go.Proofs.YtjnidopbdjbbgaaGreat
end
/-
  A step of the stack of levels: walked.
-/
section
namespace Go.Proofs.YtjnidopbdjbbgaaGreat
open Go.RowKit
set_option linter.unusedVariables false
attribute [local go_sem] field184_0 field184_2
/-- A level as the program has it: -1 of what is removed. -/
def lvI:Option Nat→Int
 | none => -1
 | some n => n
/-- What a step leaves. -/
def StepP (w:World) (B sb:Nat) (pa:Option Addr) (s:St) (c auto:Nat) (x:Ending) (w':World):Prop:=
 (∃ b,x = .returned (.tuple #[.int .i8 (lvI (s.answer c auto).1),.int .u8 (s.answer c auto).2,.bool b]))∧∃ pa' pc',StackAt w' B sb pa' pc' (s.next c auto)∧Moved w w' sb pa pa'
/-- A stack of levels that may be, not too great. -/
structure Fit (s:St) (N:Nat):Prop where
 l:0 < s.l.length
 ll:s.l.length≤N
 isos:s.isos≤N
 embs:s.embs≤N
 valid:s.valid≤N
 le:N≤1099511627770
 top:s.top.level≤125
 pop:0 < s.valid→∃ e f r,s.l.dropWhile (fun e => !e.iso) = e :: f :: r
theorem Fit.pops {s:St} {N:Nat} (h:Fit s N):0 < s.pop.l.length:=by
 unfold St.pop
 split
 · exact h.l
 · split
   · rename_i hv
     obtain ⟨e,f,r,he⟩:=h.pop hv
     simp [he]
   · exact h.l
set_option maxRecDepth 20000
set_option maxHeartbeats 4000000
theorem turned_any (w:World) (c:Nat) (h:c = 15∨c = 16∨c = 17∨c = 18):Calls Tryz.prog 141 #[.int .u8 c] w fun x w' => x = .returned (.int .u8 ((if c = 18 then 2 else if c = 16 then 1 else 0:Nat):Nat))∧w = w':=by
 rcases h with rfl | rfl | rfl | rfl
 all_goals
  go_enter Tryz.func141,Tryz.ntmps141
  go_wp2
  go_ret
  exact ⟨rfl,rfl⟩
theorem step_bn (w:World) (B sb:Nat) (pa:Option Addr) (pc:Nat) (s:St) (N:Nat) (h:StackAt w B sb pa pc s) (hf:Fit s N) (auto:Nat):
 Calls Tryz.prog 112 #[.pointer (some ⟨sb,0,none⟩),.int .u8 10,.int .i8 auto] w (StepP w B sb pa s 10 auto):=by
 have HA:=Lib.hid h
 have HN:=Lib.hid (fun w h => none_any w B sb pa pc s h hf.l (by have:=hf.ll;have:=hf.le;omega))
 have HE:Hid (s.answer 10 auto = (none,10)∧s.next 10 auto = s):=Lib.hid ⟨rfl,rfl⟩
 clear h hf
 go_enter Tryz.func112,Tryz.ntmps112
 go_wp2_with (go_at_call 139;refine (HN.out _ HA.out).mono ?_;rintro x w1 ⟨rfl,rfl⟩)
 go_ret3
 exact ⟨⟨false,by rw [HE.out.1];rfl⟩,pa,pc,by rw [HE.out.2];exact HA.out,Moved.refl _ _ _⟩
theorem step_other (w:World) (B sb:Nat) (pa:Option Addr) (pc:Nat) (s:St) (N:Nat) (h:StackAt w B sb pa pc s) (hf:Fit s N) (c:Nat) (hc:1≤c∧c≤9∨12≤c∧c≤14) (auto:Nat):
 Calls Tryz.prog 112 #[.pointer (some ⟨sb,0,none⟩),.int .u8 c,.int .i8 auto] w (StepP w B sb pa s c auto):=by
 have HA:=Lib.hid h
 have hll:s.l.length≤1099511627776:=by have:=hf.ll;have:=hf.le;omega
 have HN:=Lib.hid (fun w h => none_any w B sb pa pc s h hf.l hll)
 have HP:=Lib.hid (fun w h => plain_any w B sb pa pc s h hf.l hll c (by omega) (by omega))
 have HE:Hid (s.answer c auto = (some s.top.level,s.plain c)∧s.next c auto = s):=Lib.hid (by
  constructor
  · unfold St.answer
    rw [if_neg (by simp [removedB];omega),if_neg (by omega),if_neg (by omega)]
  · unfold St.next
    rw [if_neg (by omega),if_neg (by simp [begins];omega),if_neg (by omega),if_neg (by omega),if_neg (by omega)])
 have e17:((c:Int) == 17) = false:=by simp;omega
 have e18:((c:Int) == 18) = false:=by simp;omega
 have e15:((c:Int) == 15) = false:=by simp;omega
 have e16:((c:Int) == 16) = false:=by simp;omega
 have e21:((c:Int) == 21) = false:=by simp;omega
 have e20:((c:Int) == 20) = false:=by simp;omega
 have e22:((c:Int) == 22) = false:=by simp;omega
 have e23:((c:Int) == 23) = false:=by simp;omega
 have e19:((c:Int) == 19) = false:=by simp;omega
 have e10:((c:Int) == 10) = false:=by simp;omega
 have e11:((c:Int) == 11) = false:=by simp;omega
 clear h hf hll hc
 go_enter Tryz.func112,Tryz.ntmps112
 go_wp2_with (first | (go_at_call 139;refine (HN.out _ HA.out).mono ?_;rintro x w1 ⟨rfl,rfl⟩) | (go_at_call 142;refine (HP.out _ HA.out).mono ?_;rintro x w1 ⟨rfl,hb1⟩;have HB1:=Lib.hid hb1;clear hb1))
 go_ret3
 exact ⟨⟨true,by rw [HE.out.1];rfl⟩,pa,pc,by rw [HE.out.2];exact HA.out.below HB1.out,Moved.of_below HB1.out⟩
theorem step_pdi (w:World) (B sb:Nat) (pa:Option Addr) (pc:Nat) (s:St) (N:Nat) (h:StackAt w B sb pa pc s) (hf:Fit s N) (auto:Nat):
 Calls Tryz.prog 112 #[.pointer (some ⟨sb,0,none⟩),.int .u8 23,.int .i8 auto] w (StepP w B sb pa s 23 auto):=by
 have HA:=Lib.hid h
 have hle:=hf.le
 have hll:s.l.length≤1099511627776:=by have:=hf.ll;omega
 have HN:=Lib.hid (fun w h => none_any w B sb pa pc s h hf.l hll)
 have HP:Hid (Calls Tryz.prog 143 #[.pointer (some ⟨sb,0,none⟩)] w fun x w' => x = .returned (.tuple #[])∧StackAt w' B sb pa pc s.pop∧Moved w w' sb pa pa):=Lib.hid (by
  by_cases hi:0 < s.isos
  · exact pop_isos w B sb pa pc s h hi (by have:=hf.isos;omega)
  · by_cases hv:0 < s.valid
    · obtain ⟨e,f,r,he⟩:=hf.pop hv
      exact pop_valid w B sb pa pc s h (by omega) hv (by have:=hf.valid;omega) hll ⟨e,_,he⟩
    · exact pop_none w B sb pa pc s h (by omega) (by omega))
 have hlp:s.pop.l.length≤s.l.length:=by
  unfold St.pop
  split
  · exact Nat.le_refl _
  · split
    · rw [List.length_tail]
      have:=(List.dropWhile_sublist (fun e:Ent => !e.iso) (l:=s.l)).length_le
      omega
    · exact Nat.le_refl _
 have HQ:=Lib.hid (fun w h => plain_any w B sb pa pc s.pop h hf.pops (by omega) 23 (by omega) (by omega))
 have hn:s.next 23 auto = s.pop:=by simp [St.next,begins]
 have HE:Hid (s.answer 23 auto = (some s.pop.top.level,s.pop.plain 23)∧s.next 23 auto = s.pop):=Lib.hid ⟨by
  unfold St.answer
  rw [if_neg (by decide),if_pos rfl,hn],hn⟩
 clear h hf hll hn hlp hle
 go_enter Tryz.func112,Tryz.ntmps112
 go_wp2_with (first | (go_at_call 139;refine (HN.out _ HA.out).mono ?_;rintro x w1 ⟨rfl,rfl⟩) | (go_at_call 143;refine HP.out.mono ?_;rintro x w1 ⟨rfl,hs1,hm1⟩;have HS1:=Lib.hid hs1;have HM1:=Lib.hid hm1;clear hs1 hm1) | (go_at_call 142;refine (HQ.out _ HS1.out).mono ?_;rintro x w2 ⟨rfl,hb2⟩;have HB2:=Lib.hid hb2;clear hb2))
 go_ret3
 exact ⟨⟨true,by rw [HE.out.1];rfl⟩,pa,pc,by rw [HE.out.2];exact HS1.out.below HB2.out,HM1.out.trans (Moved.of_below HB2.out)⟩
theorem step_emb (w:World) (B sb:Nat) (pa:Option Addr) (pc:Nat) (s:St) (N:Nat) (h:StackAt w B sb pa pc s) (hf:Fit s N) (c:Nat) (hc:c = 15∨c = 16∨c = 17∨c = 18) (auto:Nat):
 Calls Tryz.prog 112 #[.pointer (some ⟨sb,0,none⟩),.int .u8 c,.int .i8 auto] w (StepP w B sb pa s c auto):=by
 have HA:=Lib.hid h
 have hle:=hf.le
 have hll:s.l.length≤1099511627776:=by have:=hf.ll;omega
 have HN:=Lib.hid (fun w h => none_any w B sb pa pc s h hf.l hll)
 have HT:=Lib.hid (fun w => turned_any w c hc)
 obtain ⟨odd,hodd⟩:∃ odd,odd = (c == 17 || c == 18):=⟨_,rfl⟩
 obtain ⟨ov,hov⟩:∃ ov:Nat,ov = (if c = 18 then 2 else if c = 16 then 1 else 0):=⟨_,rfl⟩
 rw [← hov] at HT
 have hans:s.answer c auto = (none,c):=by
  unfold St.answer
  rw [if_pos (by rcases hc with rfl | rfl | rfl | rfl <;> rfl)]
 have hnext:s.next c auto = if s.room odd then s.put odd ov false else if s.isos = 0 then { s with embs:=s.embs + 1 } else s:=by
  unfold St.next
  rw [if_pos hc,← hodd,← hov]
 have HANS:=Lib.hid hans
 by_cases hr:s.room odd = true
 · rw [hr,if_pos rfl] at hnext
   have HNX:=Lib.hid hnext
   have HPUT:=Lib.hid (fun w h => put_yes w B sb pa pc s h hf.l hll odd ov false hr)
   clear h hf hll hle hans hnext hr hov
   rcases hc with rfl | rfl | rfl | rfl
   all_goals
    simp at hodd
    subst hodd
    go_enter Tryz.func112,Tryz.ntmps112
    go_wp2_with (first | (go_at_call 139;refine (HN.out _ HA.out).mono ?_;rintro x w1 ⟨rfl,rfl⟩) | (go_at_call 141;refine (HT.out _).mono ?_;rintro x w1 ⟨rfl,rfl⟩) | (go_at_call 140;refine (HPUT.out _ HA.out).mono ?_;rintro x w1 ⟨rfl,pa1,pc1,hs1,hm1⟩;have HS1:=Lib.hid hs1;have HM1:=Lib.hid hm1;clear hs1 hm1))
    go_ret3
    exact ⟨⟨false,by rw [HANS.out];rfl⟩,pa1,pc1,by rw [HNX.out];exact HS1.out,HM1.out⟩
 · have hr':s.room odd = false:=by simpa using hr
   rw [hr',if_neg (by simp)] at hnext
   have HPUT:=Lib.hid (fun w h => put_no w B sb pa pc s h hf.l hll odd ov false hf.top hr')
   have HC:Hid (∀ w',Below w.heap.size w w'→w'.cell? ⟨sb,1,none⟩ = some (.int .i64 s.isos)∧w'.cell? ⟨sb,2,none⟩ = some (.int .i64 s.embs)∧w'.frozen? ⟨sb,2,none⟩ = false):=Lib.hid fun w' hb => ⟨(h.below hb).cells.2.1,(h.below hb).cells.2.2.1,(h.below hb).frozen 2⟩
   have hem:(s.embs:Int)≤1099511627770:=by have:=hf.embs;omega
   by_cases hi:s.isos = 0
   · rw [if_pos hi] at hnext
     have HNX:=Lib.hid hnext
     have hz:((s.isos:Int) == 0) = true:=by simp [hi]
     clear h hf hll hle hans hnext hr hr' hov hi
     obtain ⟨E,hE⟩:∃ E,E = s.embs:=⟨_,rfl⟩
     obtain ⟨I,hI⟩:∃ I,I = s.isos:=⟨_,rfl⟩
     rw [← hE] at HC hem
     rw [← hI] at HC hz
     have HEE:=Lib.hid hE
     clear hE hI
     rcases hc with rfl | rfl | rfl | rfl
     all_goals
      simp at hodd
      subst hodd
      go_enter Tryz.func112,Tryz.ntmps112
      go_wp2_with (first | (go_at_call 139;refine (HN.out _ HA.out).mono ?_;rintro x w1 ⟨rfl,rfl⟩) | (go_at_call 141;refine (HT.out _).mono ?_;rintro x w1 ⟨rfl,rfl⟩) | (go_at_call 140;refine (HPUT.out _ HA.out).mono ?_;rintro x w1 ⟨rfl,hb1⟩;obtain ⟨k1,k2,k3⟩:=HC.out _ hb1;have HB1:=Lib.hid hb1;clear hb1))
      go_ret3
      exact ⟨⟨false,by rw [HANS.out];rfl⟩,pa,pc,by rw [HNX.out,← HEE.out];exact (HA.out.below HB1.out).embs (E + 1),(Moved.of_below HB1.out).set 2 _⟩
   · rw [if_neg hi] at hnext
     have HNX:=Lib.hid hnext
     have hz:((s.isos:Int) == 0) = false:=by simp [hi]
     clear h hf hll hle hans hnext hr hr' hov hi hem
     obtain ⟨I,hI⟩:∃ I,I = s.isos:=⟨_,rfl⟩
     rw [← hI] at HC hz
     clear hI
     rcases hc with rfl | rfl | rfl | rfl
     all_goals
      simp at hodd
      subst hodd
      go_enter Tryz.func112,Tryz.ntmps112
      go_wp2_with (first | (go_at_call 139;refine (HN.out _ HA.out).mono ?_;rintro x w1 ⟨rfl,rfl⟩) | (go_at_call 141;refine (HT.out _).mono ?_;rintro x w1 ⟨rfl,rfl⟩) | (go_at_call 140;refine (HPUT.out _ HA.out).mono ?_;rintro x w1 ⟨rfl,hb1⟩;obtain ⟨k1,_,_⟩:=HC.out _ hb1;have HB1:=Lib.hid hb1;clear hb1))
      go_ret3
      exact ⟨⟨false,by rw [HANS.out];rfl⟩,pa,pc,by rw [HNX.out];exact HA.out.below HB1.out,Moved.of_below HB1.out⟩
theorem step_begin (w:World) (B sb:Nat) (pa:Option Addr) (pc:Nat) (s:St) (N:Nat) (h:StackAt w B sb pa pc s) (hf:Fit s N) (c:Nat) (hc:c = 20∨c = 21∨c = 22) (auto:Nat) (ha:auto≤1):
 Calls Tryz.prog 112 #[.pointer (some ⟨sb,0,none⟩),.int .u8 c,.int .i8 auto] w (StepP w B sb pa s c auto):=by
 have HA:=Lib.hid h
 have hle:=hf.le
 have hll:s.l.length≤1099511627776:=by have:=hf.ll;omega
 have HN:=Lib.hid (fun w h => none_any w B sb pa pc s h hf.l hll)
 have HP:=Lib.hid (fun w h => plain_any w B sb pa pc s h hf.l hll c (by omega) (by omega))
 obtain ⟨odd,hodd⟩:∃ odd,odd = (c == 21 || c == 22 && auto == 1):=⟨_,rfl⟩
 have hans:s.answer c auto = (some s.top.level,s.plain c):=by
  unfold St.answer
  rw [if_neg (by simp [removedB];omega),if_neg (by omega),if_neg (by omega)]
 have hnext:s.next c auto = if s.room odd then { s.put odd 0 true with valid:=s.valid + 1 } else { s with isos:=s.isos + 1 }:=by
  unfold St.next
  rw [if_neg (by omega),if_pos (by rcases hc with rfl | rfl | rfl <;> rfl),← hodd]
 have HANS:=Lib.hid hans
 have hau:((auto:Int) == 1) = (auto == 1):=by rcases (show auto = 0∨auto = 1 by omega) with rfl | rfl <;> rfl
 by_cases hr:s.room odd = true
 · rw [hr,if_pos rfl] at hnext
   have HNX:=Lib.hid hnext
   have HPUT:=Lib.hid (fun w h => put_yes w B sb pa pc s h hf.l hll odd 0 true hr)
   have hva:(s.valid:Int)≤1099511627770:=by have:=hf.valid;omega
   clear h hf hll hle hans hnext hr
   obtain ⟨V,hV⟩:∃ V,V = s.valid:=⟨_,rfl⟩
   rw [← hV] at hva
   have HC:Hid (∀ w' pa' pc',StackAt w' B sb pa' pc' (s.put odd 0 true)→w'.cell? ⟨sb,3,none⟩ = some (.int .i64 V)∧w'.frozen? ⟨sb,3,none⟩ = false):=Lib.hid fun w' pa' pc' hs => ⟨by rw [hV];exact hs.cells.2.2.2,hs.frozen 3⟩
   have HV:=Lib.hid hV
   clear hV
   rcases hc with rfl | rfl | rfl
   · simp at hodd
     subst hodd
     go_enter Tryz.func112,Tryz.ntmps112
     go_wp2_with (first | (go_at_call 139;refine (HN.out _ HA.out).mono ?_;rintro x w1 ⟨rfl,rfl⟩) | (go_at_call 142;refine (HP.out _ HA.out).mono ?_;rintro x w1 ⟨rfl,hb1⟩;have HB1:=Lib.hid hb1;clear hb1) | (go_at_call 140;refine (HPUT.out _ (HA.out.below HB1.out)).mono ?_;rintro x w2 ⟨rfl,pa1,pc1,hs1,hm1⟩;obtain ⟨k1,k2⟩:=HC.out _ _ _ hs1;have HS1:=Lib.hid hs1;have HM1:=Lib.hid ((Moved.of_below HB1.out).trans hm1);clear hs1 hm1))
     go_ret3
     exact ⟨⟨true,by rw [HANS.out];rfl⟩,pa1,pc1,by rw [HNX.out,← HV.out];exact HS1.out.valid (V + 1),HM1.out.set 3 _⟩
   · simp at hodd
     subst hodd
     go_enter Tryz.func112,Tryz.ntmps112
     go_wp2_with (first | (go_at_call 139;refine (HN.out _ HA.out).mono ?_;rintro x w1 ⟨rfl,rfl⟩) | (go_at_call 142;refine (HP.out _ HA.out).mono ?_;rintro x w1 ⟨rfl,hb1⟩;have HB1:=Lib.hid hb1;clear hb1) | (go_at_call 140;refine (HPUT.out _ (HA.out.below HB1.out)).mono ?_;rintro x w2 ⟨rfl,pa1,pc1,hs1,hm1⟩;obtain ⟨k1,k2⟩:=HC.out _ _ _ hs1;have HS1:=Lib.hid hs1;have HM1:=Lib.hid ((Moved.of_below HB1.out).trans hm1);clear hs1 hm1))
     go_ret3
     exact ⟨⟨true,by rw [HANS.out];rfl⟩,pa1,pc1,by rw [HNX.out,← HV.out];exact HS1.out.valid (V + 1),HM1.out.set 3 _⟩
   · simp at hodd
     have HO:Hid (odd = (auto == 1)):=Lib.hid hodd
     rw [← HO.out] at hau
     clear hodd
     go_enter Tryz.func112,Tryz.ntmps112
     go_wp2_with (first | (go_at_call 139;refine (HN.out _ HA.out).mono ?_;rintro x w1 ⟨rfl,rfl⟩) | (go_at_call 142;refine (HP.out _ HA.out).mono ?_;rintro x w1 ⟨rfl,hb1⟩;have HB1:=Lib.hid hb1;clear hb1) | (go_at_call 140;refine (HPUT.out _ (HA.out.below HB1.out)).mono ?_;rintro x w2 ⟨rfl,pa1,pc1,hs1,hm1⟩;obtain ⟨k1,k2⟩:=HC.out _ _ _ hs1;have HS1:=Lib.hid hs1;have HM1:=Lib.hid ((Moved.of_below HB1.out).trans hm1);clear hs1 hm1))
     go_ret3
     exact ⟨⟨true,by rw [HANS.out];rfl⟩,pa1,pc1,by rw [HNX.out,← HV.out];exact HS1.out.valid (V + 1),HM1.out.set 3 _⟩
 · have hr':s.room odd = false:=by simpa using hr
   rw [hr',if_neg (by simp)] at hnext
   have HNX:=Lib.hid hnext
   have HPUT:=Lib.hid (fun w h => put_no w B sb pa pc s h hf.l hll odd 0 true hf.top hr')
   have hva:(s.isos:Int)≤1099511627770:=by have:=hf.isos;omega
   clear h hf hll hle hans hnext hr hr'
   obtain ⟨V,hV⟩:∃ V,V = s.isos:=⟨_,rfl⟩
   rw [← hV] at hva
   have HC:Hid (∀ w' pa' pc',StackAt w' B sb pa' pc' s→w'.cell? ⟨sb,1,none⟩ = some (.int .i64 V)∧w'.frozen? ⟨sb,1,none⟩ = false):=Lib.hid fun w' pa' pc' hs => ⟨by rw [hV];exact hs.cells.2.1,hs.frozen 1⟩
   have HV:=Lib.hid hV
   clear hV
   rcases hc with rfl | rfl | rfl
   · simp at hodd
     subst hodd
     go_enter Tryz.func112,Tryz.ntmps112
     go_wp2_with (first | (go_at_call 139;refine (HN.out _ HA.out).mono ?_;rintro x w1 ⟨rfl,rfl⟩) | (go_at_call 142;refine (HP.out _ HA.out).mono ?_;rintro x w1 ⟨rfl,hb1⟩;have HB1:=Lib.hid hb1;clear hb1) | (go_at_call 140;refine (HPUT.out _ (HA.out.below HB1.out)).mono ?_;rintro x w2 ⟨rfl,hb2⟩;have HB2:=Lib.hid (after HB1.out hb2);obtain ⟨k1,k2⟩:=HC.out _ _ _ (HA.out.below HB2.out);clear hb2))
     go_ret3
     exact ⟨⟨true,by rw [HANS.out];rfl⟩,pa,pc,by rw [HNX.out,← HV.out];exact (HA.out.below HB2.out).isos (V + 1),(Moved.of_below HB2.out).set 1 _⟩
   · simp at hodd
     subst hodd
     go_enter Tryz.func112,Tryz.ntmps112
     go_wp2_with (first | (go_at_call 139;refine (HN.out _ HA.out).mono ?_;rintro x w1 ⟨rfl,rfl⟩) | (go_at_call 142;refine (HP.out _ HA.out).mono ?_;rintro x w1 ⟨rfl,hb1⟩;have HB1:=Lib.hid hb1;clear hb1) | (go_at_call 140;refine (HPUT.out _ (HA.out.below HB1.out)).mono ?_;rintro x w2 ⟨rfl,hb2⟩;have HB2:=Lib.hid (after HB1.out hb2);obtain ⟨k1,k2⟩:=HC.out _ _ _ (HA.out.below HB2.out);clear hb2))
     go_ret3
     exact ⟨⟨true,by rw [HANS.out];rfl⟩,pa,pc,by rw [HNX.out,← HV.out];exact (HA.out.below HB2.out).isos (V + 1),(Moved.of_below HB2.out).set 1 _⟩
   · simp at hodd
     have HO:Hid (odd = (auto == 1)):=Lib.hid hodd
     rw [← HO.out] at hau
     clear hodd
     go_enter Tryz.func112,Tryz.ntmps112
     go_wp2_with (first | (go_at_call 139;refine (HN.out _ HA.out).mono ?_;rintro x w1 ⟨rfl,rfl⟩) | (go_at_call 142;refine (HP.out _ HA.out).mono ?_;rintro x w1 ⟨rfl,hb1⟩;have HB1:=Lib.hid hb1;clear hb1) | (go_at_call 140;refine (HPUT.out _ (HA.out.below HB1.out)).mono ?_;rintro x w2 ⟨rfl,hb2⟩;have HB2:=Lib.hid (after HB1.out hb2);obtain ⟨k1,k2⟩:=HC.out _ _ _ (HA.out.below HB2.out);clear hb2))
     go_ret3
     exact ⟨⟨true,by rw [HANS.out];rfl⟩,pa,pc,by rw [HNX.out,← HV.out];exact (HA.out.below HB2.out).isos (V + 1),(Moved.of_below HB2.out).set 1 _⟩
theorem step_pdf (w:World) (B sb:Nat) (pa:Option Addr) (pc:Nat) (s:St) (N:Nat) (h:StackAt w B sb pa pc s) (hf:Fit s N) (auto:Nat):
 Calls Tryz.prog 112 #[.pointer (some ⟨sb,0,none⟩),.int .u8 19,.int .i8 auto] w (StepP w B sb pa s 19 auto):=by
 have HA:=Lib.hid h
 have hle:=hf.le
 have hl0:=hf.l
 have hll:s.l.length≤1099511627776:=by have:=hf.ll;omega
 have HN:=Lib.hid (fun w h => none_any w B sb pa pc s h hf.l hll)
 have hans:s.answer 19 auto = (none,19):=rfl
 have hnext:s.next 19 auto = if 0 < s.isos then s else if 0 < s.embs then { s with embs:=s.embs - 1 } else if 1 < s.l.length∧s.top.iso = false then { s with l:=s.l.tail } else s:=rfl
 obtain ⟨c0,c1,c2,c3⟩:=h.cells
 have HANS:=Lib.hid hans
 by_cases hi:0 < s.isos
 · rw [if_pos hi] at hnext
   have HNX:=Lib.hid hnext
   have hi2:(0:Int) < (s.isos:Int):=by omega
   clear hf hans hnext hi hle hl0 hll h
   go_enter Tryz.func112,Tryz.ntmps112
   go_wp2_with (first | (go_at_call 139;refine (HN.out _ HA.out).mono ?_;rintro x w1 ⟨rfl,rfl⟩))
   go_ret3
   exact ⟨⟨false,by rw [HANS.out];rfl⟩,pa,pc,by rw [HNX.out];exact HA.out,Moved.refl _ _ _⟩
 · have hi0:s.isos = 0:=by omega
   rw [hi0] at c1
   rw [if_neg hi] at hnext
   by_cases he:0 < s.embs
   · rw [if_pos he] at hnext
     have HNX:=Lib.hid hnext
     have f2:=h.frozen 2
     obtain ⟨E,hE⟩:∃ E,s.embs = E + 1:=⟨s.embs - 1,by omega⟩
     have hem:=hf.embs
     rw [hE] at c2 hem
     have HE:=Lib.hid hE
     have hE1:(E:Int)≤1099511627770:=by omega
     have hE2:(0:Int) < (E:Int) + 1:=by omega
     have hwr:=IntWalk.i64_in (E:Int) (by omega)
     clear hf hans hnext hi hle hl0 hll h hi0 he hE hem
     go_enter Tryz.func112,Tryz.ntmps112
     go_wp2_with (first | (go_at_call 139;refine (HN.out _ HA.out).mono ?_;rintro x w1 ⟨rfl,rfl⟩))
     go_ret3
     exact ⟨⟨false,by rw [HANS.out];rfl⟩,pa,pc,by rw [HNX.out,HE.out,Nat.add_sub_cancel];exact HA.out.embs E,(Moved.refl _ _ _).set 2 _⟩
   · rw [if_neg he] at hnext
     have he0:s.embs = 0:=by omega
     rw [he0] at c2
     by_cases h1:1 < s.l.length
     · obtain ⟨e,r,hs⟩:∃ e r,s.l = e :: r:=by
        cases hq:s.l with
        | nil => rw [hq] at hl0;simp at hl0
        | cons e r => exact ⟨e,r,rfl⟩
       have htop:=top_of hs
       have HL:=Lib.hid (fun w h => last_any w B sb pa pc s e r h hs (by rw [hs] at hll;simp at hll;omega))
       have h12:(1:Int) < (s.l.length:Int):=by omega
       by_cases hx:e.iso = true
       · rw [if_neg (by rw [htop,hx];simp)] at hnext
         have HNX:=Lib.hid hnext
         rw [hx] at HL
         obtain ⟨n,hn⟩:∃ n,n = s.l.length:=⟨_,rfl⟩
         rw [← hn] at c0 h12
         clear hf hans hnext hi hle hl0 hll h hi0 he he0 htop hs h1 hn
         go_enter Tryz.func112,Tryz.ntmps112
         go_wp2_with (first | (go_at_call 139;refine (HN.out _ HA.out).mono ?_;rintro x w1 ⟨rfl,rfl⟩) | (go_at_call 144;refine (HL.out _ HA.out).mono ?_;rintro x w1 ⟨rfl,hb1⟩;have HB1:=Lib.hid hb1;clear hb1))
         go_ret3
         exact ⟨⟨false,by rw [HANS.out];rfl⟩,pa,pc,by rw [HNX.out];exact HA.out.below HB1.out,Moved.of_below HB1.out⟩
       · have hx2:e.iso = false:=by simpa using hx
         rw [if_pos ⟨h1,by rw [htop];exact hx2⟩] at hnext
         rw [hs,List.tail_cons] at hnext
         have HNX:=Lib.hid hnext
         rw [hx2] at HL
         obtain ⟨g,rfl⟩:=h.own.pos hl0
         have hple:=h.own.le
         obtain ⟨n,hn⟩:∃ n,s.l.length = n + 1:=⟨s.l.length - 1,by omega⟩
         rw [hn] at c0 h12 hple hll
         have HS:=Lib.hid hs
         have hrn:r.length = n:=by rw [hs] at hn;simpa using hn
         have HRN:=Lib.hid hrn
         have HNN:=Lib.hid hn
         have hn1:(0:Int)≤(n:Int):=by omega
         have hn2:(n:Int)≤1099511627776:=by omega
         have hn3:(n:Int)≤(pc:Int):=by omega
         have hn4:(1:Int) < (n:Int) + 1:=by omega
         have hwr:=IntWalk.i64_in (n:Int) (by omega)
         have hwr2:=IntWalk.i64_in ((n:Int) + 1) (by omega)
         clear hf hans hnext hi hle hl0 hll h hi0 he he0 htop hs h1 hn hrn hple hx hx2
         go_enter Tryz.func112,Tryz.ntmps112
         go_wp2_with (first | (go_at_call 139;refine (HN.out _ HA.out).mono ?_;rintro x w1 ⟨rfl,rfl⟩) | (go_at_call 144;refine (HL.out _ HA.out).mono ?_;rintro x w1 ⟨rfl,hb1⟩;have HB1:=Lib.hid hb1;clear hb1))
         have HS1:=Lib.hid (HA.out.below HB1.out)
         have HM1:=Lib.hid (Moved.of_below (sb:=sb) (pa:=some ⟨g,0,none⟩) HB1.out)
         obtain ⟨d0,_,_,_⟩:=HS1.out.cells
         rw [HNN.out] at d0
         have e0:=HS1.out.frozen 0
         refine still_tail 14 (by kernel_rfl) (by kernel_rfl) (fun V hV => ?_)
         replace d0:=cellV hV d0
         replace e0:=frozenV hV e0
         replace HS1:=Lib.hid (HS1.out.drewV hV)
         replace HM1:=Lib.hid (HM1.out.drewV hV)
         clear hV
         simp only [List.take_succ_cons,List.take_zero,List.drop_succ_cons,List.drop_zero]
         repeat still_step
         try refine wpStill_nil ?_
         go_wp2
         go_ret3
         refine ⟨⟨false,by rw [HANS.out];rfl⟩,some ⟨g,0,none⟩,pc,?_,HM1.out.set 0 _⟩
         rw [HNX.out]
         have:=HS1.out.cut HS.out
         rw [HRN.out] at this
         exact this
     · rw [if_neg (by omega)] at hnext
       have HNX:=Lib.hid hnext
       have h12:(s.l.length:Int)≤1:=by omega
       obtain ⟨n,hn⟩:∃ n,n = s.l.length:=⟨_,rfl⟩
       rw [← hn] at c0 h12
       clear hf hans hnext hi hle hl0 hll h hi0 he he0 h1 hn
       go_enter Tryz.func112,Tryz.ntmps112
       go_wp2_with (first | (go_at_call 139;refine (HN.out _ HA.out).mono ?_;rintro x w1 ⟨rfl,rfl⟩))
       go_ret3
       exact ⟨⟨false,by rw [HANS.out];rfl⟩,pa,pc,by rw [HNX.out];exact HA.out,Moved.refl _ _ _⟩
theorem drop_last {l:List Ent} {r:List Ent} {b:Ent} (h:l = r ++ [b]):l.drop (l.length - 1) = [b]:=by subst h;simp
theorem step_b (w:World) (B sb:Nat) (pa:Option Addr) (pc:Nat) (s:St) (N:Nat) (h:StackAt w B sb pa pc s) (hf:Fit s N) (auto:Nat):
 Calls Tryz.prog 112 #[.pointer (some ⟨sb,0,none⟩),.int .u8 11,.int .i8 auto] w (StepP w B sb pa s 11 auto):=by
 have HA:=Lib.hid h
 have hle:=hf.le
 have hl0:=hf.l
 have hll:s.l.length≤1099511627776:=by have:=hf.ll;omega
 have HN:=Lib.hid (fun w h => none_any w B sb pa pc s h hf.l hll)
 obtain ⟨r,b,hs⟩:∃ r b,s.l = r ++ [b]:=⟨s.l.dropLast,s.l.getLast (by intro e;rw [e] at hl0;simp at hl0),(List.dropLast_concat_getLast _).symm⟩
 have hnext:s.next 11 auto = { l:=[b],isos:=0,embs:=0,valid:=0 }:=by
  rw [← drop_last hs];rfl
 have hans:s.answer 11 auto = (some b.level,11):=by
  show (some (s.next 11 auto).top.level,11) = _
  rw [hnext];rfl
 have HNX:=Lib.hid hnext
 have HANS:=Lib.hid hans
 obtain ⟨g,rfl⟩:=h.own.pos hl0
 obtain ⟨c0,c1,c2,c3⟩:=h.cells
 have f0:=h.frozen 0
 have f1:=h.frozen 1
 have f2:=h.frozen 2
 have f3:=h.frozen 3
 have hgne:=h.pa_ne rfl
 have hev:entsV s.l = entV b ++ r.reverse.flatMap entV:=by rw [hs];simp [entsV]
 have hlv:w.cell? ⟨g,0,none⟩ = some (.int .i8 b.level):=by
  obtain ⟨g',hg',_,_,h3,_⟩:=h.own.addr (by have:=h.own.le;omega)
  cases hg'
  refine h3 0 _ ?_
  rw [hev];rfl
 have hple:=h.own.le
 have HFIN:Hid (StackAt ((((w.setCell ⟨sb,0,none⟩ (.slice (some ⟨g,0,none⟩) 1 pc)).setCell ⟨sb,1,none⟩ (.int .i64 0)).setCell ⟨sb,2,none⟩ (.int .i64 0)).setCell ⟨sb,3,none⟩ (.int .i64 0)) B sb (some ⟨g,0,none⟩) pc { l:=[b],isos:=0,embs:=0,valid:=0 }):=Lib.hid (by
  refine ⟨heap_set4 h.box _ _ _ _,?_,h.apart,h.ge⟩
  have ne:∀ g',some (⟨g,0,none⟩:Addr) = some ⟨g',0,none⟩→g'≠sb:=fun g' hg e => hgne (by cases hg;exact e)
  have h1:=(((h.own.stored_other ⟨sb,0,none⟩ (.slice (some ⟨g,0,none⟩) 1 pc) ne).stored_other ⟨sb,1,none⟩ (.int .i64 0) ne).stored_other ⟨sb,2,none⟩ (.int .i64 0) ne).stored_other ⟨sb,3,none⟩ (.int .i64 0) ne
  have h2:=h1.prefix 1 (by omega)
  refine h2.eqL ?_
  rw [hev]
  rfl)
 have HM:=Lib.hid ((((Moved.refl w sb (some ⟨g,0,none⟩)).set 0 (.slice (some ⟨g,0,none⟩) 1 pc)).set 1 (.int .i64 0)).set 2 (.int .i64 0) |>.set 3 (.int .i64 0))
 obtain ⟨n,hn⟩:∃ n,n = s.l.length:=⟨_,rfl⟩
 rw [← hn] at c0 hple hl0
 have hn1:(1:Int)≤(n:Int):=by omega
 have hn2:(1:Int)≤(pc:Int):=by omega
 clear h hf hle hll hs hnext hans hev hn hple hl0
 go_enter Tryz.func112,Tryz.ntmps112
 go_wp2_with (first | (go_at_call 139;refine (HN.out _ HA.out).mono ?_;rintro x w1 ⟨rfl,rfl⟩))
 go_ret3
 exact ⟨⟨true,by rw [HANS.out];rfl⟩,_,pc,by rw [HNX.out];exact HFIN.out,HM.out⟩
/-- **A step of the stack: what the plain one answers, and the stack behind it.** -/
theorem step_any (w:World) (B sb:Nat) (pa:Option Addr) (pc:Nat) (s:St) (N:Nat) (h:StackAt w B sb pa pc s) (hf:Fit s N) (c:Nat) (hc:1≤c∧c≤23) (auto:Nat) (ha:auto≤1):
 Calls Tryz.prog 112 #[.pointer (some ⟨sb,0,none⟩),.int .u8 c,.int .i8 auto] w (StepP w B sb pa s c auto):=by
 rcases (show (1≤c∧c≤9∨12≤c∧c≤14)∨c = 10∨c = 11∨(c = 15∨c = 16∨c = 17∨c = 18)∨c = 19∨(c = 20∨c = 21∨c = 22)∨c = 23 by omega) with h1 | rfl | rfl | h1 | rfl | h1 | rfl
 · exact step_other w B sb pa pc s N h hf c h1 auto
 · exact step_bn w B sb pa pc s N h hf auto
 · exact step_b w B sb pa pc s N h hf auto
 · exact step_emb w B sb pa pc s N h hf c h1 auto
 · exact step_pdf w B sb pa pc s N h hf auto
 · exact step_begin w B sb pa pc s N h hf c h1 auto ha
 · exact step_pdi w B sb pa pc s N h hf auto
end Go.Proofs.YtjnidopbdjbbgaaGreat
end
