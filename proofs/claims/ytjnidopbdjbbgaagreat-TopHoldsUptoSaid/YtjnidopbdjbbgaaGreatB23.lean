/-
  The places where runs begin, as a map; which run follows, which is led; the sequences gathered, and where they lie. No walk.
-/
import Derived.Test.YtjnidopbdjbbgaaGreatB19
import Derived.Test.YtjnidopbdjbbgaaGreatB22
import Derived.Test.YtjnidopbdjbbgaaGreatB18
import Derived.Test.YtjnidopbdjbbgaaGreatB00
import Derived.Maps.OwnSet
import Derived.Shelf.Abstract
section
namespace Go.Proofs.YtjnidopbdjbbgaaGreat
open Go.RowKit Go.Shelf
set_option linter.unusedVariables false
attribute [local go_sem] Oper.semAt_some
theorem mk33 (w:World) (n:Nat) (hn:n≤1048576):(Instr.makeSlice 33 (.int .i64 (n:Int)) (.int .i64 (n:Int))).run Tryz.prog w = .ok (.slice (some ⟨w.heap.size,0,none⟩) n n) (w.alloc (.cells (madeCells #[.int .i64 0] n) 3)):=by
 obtain ⟨i0,hi,hz0,hz1,hz2⟩:=info_parts info3
 have hr:=run_make (P:=Tryz.prog) w 33 3 i0 (.int .i64 0) Tryz.underlying33 hi hz0 .i64 .i64 (n:Int) (n:Int) (by omega) (Int.le_refl _) (by rw [hz2];omega) (by omega)
 simp only [Int.toNat_natCast,hz1,Nat.mul_one] at hr
 exact hr
theorem own33 (w:World) (n:Nat) (hn:n≤1048576):Own (w.alloc (.cells (madeCells #[.int .i64 0] n) 3)) w.heap.size 1 (some ⟨w.heap.size,0,none⟩) n n ((List.replicate n 0).map natV):=by
 rw [List.map_replicate]
 have hcell:∀ j,j < n→(w.alloc (.cells (madeCells #[.int .i64 0] n) 3)).cell? ⟨w.heap.size,j,none⟩ = some (.int .i64 0):=by
  intro j hj
  rw [World.cell?_alloc_new,← Array.getElem?_toList,toList_madeCells_one,List.getElem?_replicate,if_pos hj]
 refine ⟨by simp,Nat.le_refl _,by simp [maxLen];omega,.inr ⟨_,rfl,Nat.le_refl _,by simp,fun j u hu => ?_,fun j hj => ⟨?_,World.frozen?_alloc_new _ _ _ _⟩⟩⟩
 · rw [List.getElem?_replicate] at hu
   split at hu
   · rename_i hj
     rw [hcell j hj]
     exact hu
   · cases hu
 · rw [hcell j (by omega)];rfl
/-- What Sequences has made ahead of its loops. -/
structure Made (w:World) (ca na la:Option Addr) (cc nc lc n base:Nat) (K:List Nat) (M:List Int) (X:List Nat) (tb:Nat) (ka:Option Addr) (kc xg mg:Nat) (V:World):Prop where
 box:V.heap[tb]? = some (.cells #[.slice ca n cc,.slice na n nc,.slice la n lc,.int .i8 base,.slice ka K.length kc,.slice (some ⟨xg,0,none⟩) n n,.slice (some ⟨mg,0,none⟩) n n] 134)
 ks:Own V w.heap.size 1 ka K.length kc (K.map natV)
 ix:Own V w.heap.size 1 (some ⟨xg,0,none⟩) n n (X.map natV)
 mt:Own V w.heap.size 1 (some ⟨mg,0,none⟩) n n (M.map i64V)
 xk:xg ∉ blk ka
 xm:xg≠mg
 xt:xg≠tb
 below:Below w.heap.size w V
 ge:w.heap.size≤tb
theorem made_a {w w0 w1 w2:World} {ca na la:Option Addr} {cc nc lc n base:Nat} {K:List Nat} {M:List Int} {ka:Option Addr} {kc mg:Nat} (hn:n≤1048576) (h0:Below w.heap.size w w0) (k1:Own w1 w0.heap.size 1 ka K.length kc (K.map natV)) (b1:Below w0.heap.size w0 w1)
 (k2:Own w2 (w1.alloc (.cells (madeCells #[.int .i64 0] n) 3)).heap.size 1 (some ⟨mg,0,none⟩) n n (M.map i64V)) (b2:Below (w1.alloc (.cells (madeCells #[.int .i64 0] n) 3)).heap.size (w1.alloc (.cells (madeCells #[.int .i64 0] n) 3)) w2) (bx:Array Value)
 (hbx:bx = #[.slice ca n cc,.slice na n nc,.slice la n lc,.int .i8 base,.slice ka K.length kc,.slice (some ⟨w1.heap.size,0,none⟩) n n,.slice (some ⟨mg,0,none⟩) n n]):
 Made w ca na la cc nc lc n base K M (List.replicate n 0) w2.heap.size ka kc w1.heap.size mg (w2.alloc (.cells bx 134)):=by
 subst hbx
 have s0:=h0.size
 have s1:=b1.size
 have s2:=b2.size
 have l2:=k2.lt
 simp only [World.size_alloc] at s2 l2
 have hb1:Below w.heap.size w w1:=h0.trans (b1.mono s0)
 have hb2:Below w.heap.size w w2:=(hb1.alloc hb1.size _).trans (b2.mono (by simp;omega))
 exact ⟨heap_alloc_new _ _,(((k1.alloc _).below b2).alloc _).mono s0,(((own33 w1 n hn).below b2).alloc _).mono (by omega),(k2.alloc _).mono (by simp;omega),fun h => by have:=(k1.blk_lt _ h).2;omega,by omega,by omega,hb2.alloc hb2.size _,by omega⟩
theorem made_b {w w0 w1 w2:World} {ca na la:Option Addr} {cc nc lc n base:Nat} {K:List Nat} {M:List Int} {ka:Option Addr} {kc mg:Nat} (hn:n≤1048576) (h0:Below w.heap.size w w0) (k1:Own w1 w0.heap.size 1 ka K.length kc (K.map natV)) (b1:Below w0.heap.size w0 w1)
 (k2:Own w2 w1.heap.size 1 (some ⟨mg,0,none⟩) n n (M.map i64V)) (b2:Below w1.heap.size w1 w2) (bx:Array Value)
 (hbx:bx = #[.slice ca n cc,.slice na n nc,.slice la n lc,.int .i8 base,.slice ka K.length kc,.slice (some ⟨w2.heap.size,0,none⟩) n n,.slice (some ⟨mg,0,none⟩) n n]):
 Made w ca na la cc nc lc n base K M (List.replicate n 0) (w2.heap.size + 1) ka kc w2.heap.size mg ((w2.alloc (.cells (madeCells #[.int .i64 0] n) 3)).alloc (.cells bx 134)):=by
 subst hbx
 have s0:=h0.size
 have s1:=b1.size
 have s2:=b2.size
 have l2:=k2.lt
 have hb1:Below w.heap.size w w1:=h0.trans (b1.mono s0)
 have hb2:Below w.heap.size w w2:=hb1.trans (b2.mono hb1.size)
 refine ⟨?_,(((k1.below b2).alloc _).alloc _).mono s0,((own33 w2 n hn).alloc _).mono (by omega),((k2.alloc _).alloc _).mono (by omega),fun h => by have:=(k1.blk_lt _ h).2;omega,by omega,by omega,(hb2.alloc hb2.size _).alloc (by simp;omega) _,by omega⟩
 have:=heap_alloc_new (w2.alloc (.cells (madeCells #[.int .i64 0] n) 3)) (.cells #[.slice ca n cc,.slice na n nc,.slice la n lc,.int .i8 base,.slice ka K.length kc,.slice (some ⟨w2.heap.size,0,none⟩) n n,.slice (some ⟨mg,0,none⟩) n n] 134)
 rwa [World.size_alloc] at this
theorem made_c {w w0 w1 w2:World} {ca na la:Option Addr} {cc nc lc n base:Nat} {K:List Nat} {M:List Int} {ka:Option Addr} {kc mg:Nat} (hn:n≤1048576) (h0:Below w.heap.size w w0) (k1:Own w1 (w0.alloc (.cells (madeCells #[.int .i64 0] n) 3)).heap.size 1 ka K.length kc (K.map natV)) (b1:Below (w0.alloc (.cells (madeCells #[.int .i64 0] n) 3)).heap.size (w0.alloc (.cells (madeCells #[.int .i64 0] n) 3)) w1)
 (k2:Own w2 w1.heap.size 1 (some ⟨mg,0,none⟩) n n (M.map i64V)) (b2:Below w1.heap.size w1 w2) (bx:Array Value)
 (hbx:bx = #[.slice ca n cc,.slice na n nc,.slice la n lc,.int .i8 base,.slice ka K.length kc,.slice (some ⟨w0.heap.size,0,none⟩) n n,.slice (some ⟨mg,0,none⟩) n n]):
 Made w ca na la cc nc lc n base K M (List.replicate n 0) w2.heap.size ka kc w0.heap.size mg (w2.alloc (.cells bx 134)):=by
 subst hbx
 have s0:=h0.size
 have s1:=b1.size
 simp only [World.size_alloc] at s1
 have s2:=b2.size
 have l2:=k2.lt
 have hb1:Below w.heap.size w w1:=(h0.alloc s0 _).trans (b1.mono (by simp;omega))
 have hb2:Below w.heap.size w w2:=hb1.trans (b2.mono hb1.size)
 exact ⟨heap_alloc_new _ _,((k1.below b2).alloc _).mono (by simp;omega),((((own33 w0 n hn).below b1).below b2).alloc _).mono s0,(k2.alloc _).mono (by omega),fun h => by have:=(k1.blk_lt _ h).1;simp at this;omega,by omega,by omega,hb2.alloc hb2.size _,by omega⟩
theorem Made.store {w V:World} {ca na la:Option Addr} {cc nc lc n base:Nat} {K:List Nat} {M:List Int} {X:List Nat} {tb:Nat} {ka:Option Addr} {kc xg mg:Nat} (h:Made w ca na la cc nc lc n base K M X tb ka kc xg mg V) {p:Nat} (hp:p < n) (v:Nat):
 Made w ca na la cc nc lc n base K M (X.set p v) tb ka kc xg mg (V.setCell ⟨xg,p,none⟩ (natV v)):=
 ⟨heap_other h.box (fun e => h.xt e.symm) _,h.ks.stored_other _ _ (fun g hg e => h.xk (by rw [blk_mem,hg];show some g = some xg;rw [show g = xg from e])),(h.ix.stored p hp (natV v)).eqL (by rw [List.map_set]),h.mt.stored_other _ _ (fun g hg e => by cases hg;exact h.xm e.symm),h.xk,h.xm,h.xt,h.ix.storeBelow h.below p _,h.ge⟩
/-- The number of kept places ahead of each, as far as they have been laid. -/
def ixTo (K:List Nat) (n k:Nat):List Nat:=(List.range k).foldl (fun X j => X.set (K.getD j 0) j) (List.replicate n 0)
theorem ixTo_succ (K:List Nat) (n k:Nat):ixTo K n (k + 1) = (ixTo K n k).set (K.getD k 0) k:=by
 unfold ixTo
 rw [List.range_succ,List.foldl_append]
 rfl
theorem info140:(Tryz.prog.info? 140).map (fun i => (i.zero,i.size,i.bytes)) = some (some (.agg #[.int .i64 0,.int .i64 0,.int .i8 0]),3,24):=by kernel_rfl
/-- Where the first runs begin, as a map. -/
def stM (R:List Rn) (k:Nat):DataW Unit:=(List.range k).foldl (fun D j => D.put (.int .i64 ((R.getD j ⟨0,0,0⟩).f:Int)) (.lit (.int .i64 (j:Int)))) (.map [])
theorem stM_succ (R:List Rn) (k:Nat):stM R (k + 1) = (stM R k).put (.int .i64 ((R.getD k ⟨0,0,0⟩).f:Int)) (.lit (.int .i64 (k:Int))):=by
 unfold stM
 rw [List.range_succ,List.foldl_append]
 rfl
theorem stM_map (R:List Rn) (k:Nat):Maps.IsMap (stM R k):=by
 induction k with
 | zero => exact Maps.isMap_empty
 | succ k ih => rw [stM_succ];exact ih.put _ _
theorem key_ne {a b:Int} (h:a≠b):(Lit.int .i64 a)≠(Lit.int .i64 b):=fun e => h (by cases e;rfl)
theorem stM_none {R:List Rn} {k:Nat} {p:Int} (h:∀ j,j < k→((R.getD j ⟨0,0,0⟩).f:Int)≠p):Maps.has (stM R k) (.int .i64 p) = false:=by
 induction k with
 | zero => rfl
 | succ k ih =>
  rw [stM_succ,Maps.has_put_other (key_ne (fun e => h k (by omega) e.symm))]
  exact ih fun j hj => h j (by omega)
theorem stM_some {R:List Rn} {k q:Nat} {p:Int} (hq:q < k) (hp:((R.getD q ⟨0,0,0⟩).f:Int) = p) (h:∀ j,q < j→j < k→((R.getD j ⟨0,0,0⟩).f:Int)≠p):Maps.has (stM R k) (.int .i64 p) = true∧∀ z,(stM R k).atKey (.int .i64 p) z = .lit (.int .i64 (q:Int)):=by
 induction k with
 | zero => omega
 | succ k ih =>
  rw [stM_succ]
  by_cases e:q = k
  · subst e
    rw [hp]
    exact ⟨Maps.has_put_same (stM_map R q) (by simp [WideAt.IsKeyLit]) _,fun z => Maps.atKey_put_same (stM_map R q) (by simp [WideAt.IsKeyLit]) _ z⟩
  · have hne:=key_ne (fun e => h k (by omega) (by omega) e.symm)
    obtain ⟨h1,h2⟩:=ih (by omega) (fun j hj hk => h j hj (by omega))
    exact ⟨by rw [Maps.has_put_other hne];exact h1,fun z => by rw [Maps.atKey_put_other hne];exact h2 z⟩
theorem getD_get {R:List Rn} {j:Nat} {r:Rn} (h:R[j]? = some r):R.getD j ⟨0,0,0⟩ = r:=by rw [List.getD_eq_getElem?_getD,h];rfl
/-- The map tells which run begins at a place. -/
theorem st_tells {R:List Rn} (hR:R.Pairwise fun a b => a.t≤b.f) (hf:∀ r∈R,r.f < r.t) (p:Int):
 (startOf R p = none∧Maps.has (stM R R.length) (.int .i64 p) = false∧∀ z,(stM R R.length).atKey (.int .i64 p) z = z) ∨
 (∃ q,q < R.length∧startOf R p = some q∧Maps.has (stM R R.length) (.int .i64 p) = true∧∀ z,(stM R R.length).atKey (.int .i64 p) z = .lit (.int .i64 (q:Int))):=by
 cases h:startOf R p with
 | none =>
  left
  have hn:Maps.has (stM R R.length) (.int .i64 p) = false:=by
   refine stM_none fun j hj e => ?_
   unfold startOf at h
   rw [List.findIdx?_eq_none_iff] at h
   have:=h R[j] (List.getElem_mem hj)
   rw [getD_get (List.getElem?_eq_getElem hj)] at e
   simp [e] at this
  exact ⟨rfl,hn,fun z => Maps.atKey_of_not_has hn z⟩
 | some q =>
  right
  obtain ⟨r,hr,hp⟩:=startOf_some h
  have hq:=(List.getElem?_eq_some_iff.1 hr).1
  refine ⟨q,hq,rfl,stM_some hq (by rw [getD_get hr];exact hp) fun j hj hk e => ?_⟩
  rw [getD_get (List.getElem?_eq_getElem hk)] at e
  obtain ⟨_,rfl⟩:=List.getElem?_eq_some_iff.1 hr
  have h1:=List.pairwise_iff_getElem.1 hR q j hq hk hj
  have h2:=hf _ (List.getElem_mem hq)
  omega
/-- Each run's last place, as far as they have been laid. -/
def lastTo (R:List Rn) (k:Nat):List Nat:=(List.range k).foldl (fun X j => X.set j ((R.getD j ⟨0,0,0⟩).t - 1)) (List.replicate R.length 0)
theorem lastTo_succ (R:List Rn) (k:Nat):lastTo R (k + 1) = (lastTo R k).set k ((R.getD k ⟨0,0,0⟩).t - 1):=by
 unfold lastTo
 rw [List.range_succ,List.foldl_append]
 rfl
theorem lastTo_len (R:List Rn) (k:Nat):(lastTo R k).length = R.length:=by
 induction k with
 | zero => simp [lastTo]
 | succ k ih => rw [lastTo_succ,List.length_set,ih]
theorem lastTo_get (R:List Rn) {k:Nat} (hk:k≤R.length) {j:Nat} (hj:j < k):(lastTo R k)[j]? = some ((R.getD j ⟨0,0,0⟩).t - 1):=by
 induction k with
 | zero => omega
 | succ k ih =>
  rw [lastTo_succ,List.getElem?_set]
  by_cases e:k = j
  · subst e
    rw [if_pos rfl,if_pos (by rw [lastTo_len];omega)]
  · rw [if_neg e]
    exact ih (by omega) (by omega)
def nxI:Option Nat→Int
 | none => -1
 | some k => k
def nextTo (nx:Nat→Option Nat) (m k:Nat):List Int:=(List.range k).foldl (fun X j => X.set j (nxI (nx j))) (List.replicate m 0)
theorem nextTo_succ (nx:Nat→Option Nat) (m k:Nat):nextTo nx m (k + 1) = (nextTo nx m k).set k (nxI (nx k)):=by
 unfold nextTo
 rw [List.range_succ,List.foldl_append]
 rfl
theorem nextTo_len (nx:Nat→Option Nat) (m k:Nat):(nextTo nx m k).length = m:=by
 induction k with
 | zero => simp [nextTo]
 | succ k ih => rw [nextTo_succ,List.length_set,ih]
theorem nextTo_get (nx:Nat→Option Nat) {m k:Nat} (hk:k≤m) {j:Nat} (hj:j < k):(nextTo nx m k)[j]? = some (nxI (nx j)):=by
 induction k with
 | zero => omega
 | succ k ih =>
  rw [nextTo_succ,List.getElem?_set]
  by_cases e:k = j
  · subst e
    rw [if_pos rfl,if_pos (by rw [nextTo_len];omega)]
  · rw [if_neg e]
    exact ih (by omega) (by omega)
/-- Is a run led by another one, of the first k? -/
def ledB (nx:Nat→Option Nat) (k j:Nat):Bool:=(List.range k).any fun i => nx i == some j
def ledTo (nx:Nat→Option Nat) (m k:Nat):List Bool:=(List.range m).map (ledB nx k)
theorem ledB_succ (nx:Nat→Option Nat) (k j:Nat):ledB nx (k + 1) j = (ledB nx k j || nx k == some j):=by
 unfold ledB
 rw [List.range_succ,List.any_append]
 simp
theorem ledTo_none {nx:Nat→Option Nat} {m k:Nat} (h:nx k = none):ledTo nx m (k + 1) = ledTo nx m k:=by
 unfold ledTo
 congr 1
 funext j
 rw [ledB_succ,h]
 simp
theorem ledTo_some {nx:Nat→Option Nat} {m k q:Nat} (h:nx k = some q):ledTo nx m (k + 1) = (ledTo nx m k).set q true:=by
 refine List.ext_getElem? fun j => ?_
 unfold ledTo
 rw [List.getElem?_set,List.getElem?_map,List.getElem?_map]
 by_cases hj:j < m
 · rw [List.getElem?_range hj]
   simp only [Option.map_some,ledB_succ,h,List.length_map,List.length_range]
   by_cases e:q = j
   · subst e
     simp [hj]
   · simp [e]
 · rw [List.getElem?_eq_none (by simp;omega)]
   by_cases e:q = j
   · subst e
     simp [hj]
   · simp [e]
theorem ledTo_len (nx:Nat→Option Nat) (m k:Nat):(ledTo nx m k).length = m:=by simp [ledTo]
theorem ledTo_zero (nx:Nat→Option Nat) (m:Nat):ledTo nx m 0 = List.replicate m false:=by
 refine List.ext_getElem? fun j => ?_
 unfold ledTo
 rw [List.getElem?_map,List.getElem?_replicate]
 by_cases hj:j < m
 · rw [List.getElem?_range hj,if_pos hj];rfl
 · rw [List.getElem?_eq_none (by simp;omega),if_neg hj];rfl
theorem ledTo_get (nx:Nat→Option Nat) (m k:Nat) {j:Nat} (hj:j < m):(ledTo nx m k)[j]? = some (ledB nx k j):=by
 unfold ledTo
 rw [List.getElem?_map,List.getElem?_range hj]
 rfl
/-- A sequence, and where its slices lie. -/
structure Sv where
 q:Sq
 pa:Option Addr
 pc:Nat
 ca:Option Addr
 cc:Nat
def Sv.cells (s:Sv):List Value:=[.slice s.pa s.q.ps.length s.pc,.slice s.ca s.q.ps.length s.cc,.int .i8 s.q.lv,.int .u8 s.q.sos,.int .u8 s.q.eos]
def svV (S:List Sv):List Value:=S.flatMap Sv.cells
theorem svV_snoc (S:List Sv) (s:Sv):svV (S ++ [s]) = svV S ++ s.cells:=by simp [svV]
/-- The sequences that lie in a slice of the call's own. -/
structure Outs (w:World) (B:Nat) (oa:Option Addr) (oc:Nat) (S:List Sv):Prop where
 own:Own w B 5 oa S.length oc (svV S)
 ps:∀ s∈S,Own w B 1 s.pa s.q.ps.length s.pc (s.q.ps.map natV)∧∀ g∈blk s.pa,g ∉ blk oa
 cs:∀ s∈S,Own w B 1 s.ca s.q.ps.length s.cc (s.q.cs.map u8V)∧∀ g∈blk s.ca,g ∉ blk oa
theorem Outs.nil (w:World) (B:Nat):Outs w B none 0 []:=⟨Own.nil _ _ _,by simp,by simp⟩
theorem Outs.below {w w':World} {B:Nat} {oa:Option Addr} {oc:Nat} {S:List Sv} (h:Outs w B oa oc S) (hb:Below w.heap.size w w'):Outs w' B oa oc S:=
 ⟨h.own.below hb,fun s hs => ⟨(h.ps s hs).1.below hb,(h.ps s hs).2⟩,fun s hs => ⟨(h.cs s hs).1.below hb,(h.cs s hs).2⟩⟩
theorem Own.apped {W w4:World} {o:Obj} {B sz n c:Nat} {a oa oa':Option Addr} {xs:List Value} (h:Own W B sz a n c xs) (hap:Apped (W.alloc o) w4 oa oa') (hd:∀ g∈blk a,g ∉ blk oa):Own w4 B sz a n c xs∧∀ g∈blk a,g ∉ blk oa':=by
 have hsz:=hap.grown.size
 simp only [World.size_alloc] at hsz
 refine ⟨h.same (by omega) fun g hg => ?_,fun g hg hm => ?_⟩
 · have hm:g∈blk a:=blk_mem.2 (blockOf_some hg)
   exact hap.heap (h.blk_lt g hm).2 (hd g hm)
 · rcases hap.blk hm with h1 | h1
   · exact hd g hg h1
   · have:=(h.blk_lt g hg).2
     simp at h1
     omega
theorem Outs.push {W w4:World} {o:Obj} {B:Nat} {oa oa':Option Addr} {oc oc':Nat} {S:List Sv} (h:Outs W B oa oc S) (s:Sv) (hp:Own W B 1 s.pa s.q.ps.length s.pc (s.q.ps.map natV)) (hc:Own W B 1 s.ca s.q.ps.length s.cc (s.q.cs.map u8V))
 (hdp:∀ g∈blk s.pa,g ∉ blk oa) (hdc:∀ g∈blk s.ca,g ∉ blk oa) (h4:Own w4 B 5 oa' (S.length + 1) oc' (svV S ++ s.cells)) (hap:Apped (W.alloc o) w4 oa oa'):Outs w4 B oa' oc' (S ++ [s]):=by
 refine ⟨by rw [svV_snoc,List.length_append];exact h4,fun x hx => ?_,fun x hx => ?_⟩
 · rcases List.mem_append.1 hx with hx | hx
   · exact (h.ps x hx).1.apped hap (h.ps x hx).2
   · simp at hx
     subst hx
     exact hp.apped hap hdp
 · rcases List.mem_append.1 hx with hx | hx
   · exact (h.cs x hx).1.apped hap (h.cs x hx).2
   · simp at hx
     subst hx
     exact hc.apped hap hdc
theorem Made.later {w V W:World} {ca na la:Option Addr} {cc nc lc n base:Nat} {K:List Nat} {M:List Int} {X:List Nat} {tb:Nat} {ka:Option Addr} {kc xg mg:Nat} (h:Made w ca na la cc nc lc n base K M X tb ka kc xg mg V) (hb:Below V.heap.size V W) (hV:w.heap.size≤V.heap.size):
 Made w ca na la cc nc lc n base K M X tb ka kc xg mg W:=
 ⟨(hb.block tb (Array.getElem?_eq_some_iff.1 h.box).1).trans h.box,h.ks.below hb,h.ix.below hb,h.mt.below hb,h.xk,h.xm,h.xt,h.below.trans (hb.mono hV),h.ge⟩
theorem ixTo_len (K:List Nat) (n k:Nat):(ixTo K n k).length = n:=by
 induction k with
 | zero => simp [ixTo]
 | succ k ih => rw [ixTo_succ,List.length_set,ih]
theorem ixTo_le (K:List Nat) (n k:Nat):∀ v∈ixTo K n k,v≤k:=by
 induction k with
 | zero => intro v hv;simp [ixTo] at hv;omega
 | succ k ih =>
  intro v hv
  rw [ixTo_succ] at hv
  rcases List.mem_or_eq_of_mem_set hv with h | h
  · have:=ih v h;omega
  · omega
/-- What the sequences are made of. -/
def seqT (l nw:List Nat) (lv:List Int) (base:Nat):Tx:=⟨l,nw,lv,base,keptOf l,ixTo (keptOf l) l.length (keptOf l).length,matchOf l⟩
theorem seqT_ok {l nw:List Nat} {lv:List Int} {base:Nat} (hb:base≤1) (hn:l.length≤1048576) (hnw:nw.length = l.length) (hlv:lv.length = l.length) (h23:∀ x∈l,1≤x∧x≤23)
 (hlk:∀ x∈keptOf l,∃ v:Nat,lv[x]? = some (v:Int)∧v≤126):(seqT l nw lv base).Ok:=by
 have hkl:(keptOf l).length≤l.length:=keptTo_le l l.length
 refine ⟨hnw,hlv,ixTo_len _ _ _,matchOf_len l,hb,hn,h23,fun k hk => (mem_keptOf.1 hk).1,hkl,fun k hk => ?_,fun v hv => ?_⟩
 · obtain ⟨v,h1,h2⟩:=hlk k hk
   exact ⟨v,by show lv.getD k 0 = _;rw [List.getD_eq_getElem?_getD,h1];rfl,h2⟩
 · have:=ixTo_le _ _ _ v hv
   omega
theorem Made.text {w V:World} {ca na la:Option Addr} {cc nc lc base:Nat} {l nw:List Nat} {lv:List Int} {tb:Nat} {ka:Option Addr} {kc xg mg:Nat}
 (h:Made w ca na la cc nc lc l.length base (keptOf l) (matchOf l) (ixTo (keptOf l) l.length (keptOf l).length) tb ka kc xg mg V) (hc:Cells V ca (l.map u8V)) (hcn:Cells V na (nw.map u8V)) (hcl:Cells V la (lv.map i8V)):
 TextAt (seqT l nw lv base) ⟨ca,cc,na,nc,la,lc,ka,kc,some ⟨xg,0,none⟩,l.length,some ⟨mg,0,none⟩,l.length⟩ tb V:=
 ⟨h.box,hc,hcn,hcl,h.ks.toCells,h.ix.toCells,h.mt.toCells⟩
theorem grownBy_setCell (w:World) (g j:Nat) (v:Value):w.grownBy (w.setCell ⟨g,j,none⟩ v) (some g):=
 ⟨rfl,rfl,rfl,by simp,fun k _ hne => Below.heap_setCell w ⟨g,j,none⟩ v k (fun e => hne (by rw [e]))⟩
theorem ownsMap_below {H:Type} {w w':World} {P:Program} {k:TypeId} {Rd:Value→Option (DataW H × List MemPlace)} {b n:Nat} {D:DataW H} (h:w.ownsMap P k Rd b n D) (hb:Below w.heap.size w w'):w'.ownsMap P k Rd b n D:=by
 obtain ⟨es,c,h1,h2⟩:=h
 exact ⟨es,c,(hb.block b (Array.getElem?_eq_some_iff.1 h1).1).trans h1,h2⟩
theorem ownsMap_obj {H:Type} {w:World} {P:Program} {k:TypeId} {Rd:Value→Option (DataW H × List MemPlace)} {b n:Nat} {D:DataW H} (h:w.ownsMap P k Rd b n D):∀ r,some b = some r→∃ o:Obj,w.heap[r]? = some o∧o.isCells = false:=by
 intro r e
 cases e
 obtain ⟨es,c,h1,h2⟩:=h
 exact ⟨_,h1,rfl⟩
theorem info4:(Tryz.prog.info? 4).map (fun i => (i.zero,i.size,i.bytes)) = some (some (.bool false),1,1):=by kernel_rfl
theorem info75:(Tryz.prog.info? 75).map (fun i => (i.zero,i.size,i.bytes)) = some (some (.agg #[.slice none 0 0,.slice none 0 0,.int .i8 0,.int .u8 0,.int .u8 0]),5,56):=by kernel_rfl
theorem law3:Maps.Keyed Tryz.prog 3:=Maps.int_keyed Tryz.underlying3
theorem zero3 (w:World):(zeroValue 3).run Tryz.prog w = .ok (.int .i64 0) w:=by kernel_rfl
/-- What the loop of the starts holds. -/
structure StI (W:World) (B lg m:Nat) (R:List Rn) (k:Nat) (wq:World):Prop where
 mp:wq.ownsMap Tryz.prog 3 (plainElem (H:=Unit) Tryz.prog 3) B k (stM R k)
 ls:Own wq B 1 (some ⟨lg,0,none⟩) m m ((lastTo R k).map natV)
 below:Below B W wq
theorem StI.store {W wq w1:World} {B lg m k:Nat} {R:List Rn} {cs:Array Value} {ty:TypeId} (h:StI W B lg m R k wq) (hlB:B < lg) (hm:m = R.length) (hk:k < m) (hBW:B≤W.heap.size)
 (hg:(wq.alloc (.cells cs ty)).grownBy w1 (some B)):w1.heap[wq.heap.size]? = some (.cells cs ty)∧Own w1 B 1 (some ⟨lg,0,none⟩) m m ((lastTo R k).map natV)∧(∃ v,w1.cell? ⟨lg,k,none⟩ = some v∧v.oneCell' = true)∧w1.frozen? ⟨lg,k,none⟩ = false∧Below B W w1:=by
 have hlt:=h.ls.lt.2
 have hx:=(hg.block wq.heap.size (by simp) (by simp;omega)).trans (heap_alloc_new wq (.cells cs ty))
 have ho:=(h.ls.alloc (.cells cs ty)).others hg (ownsMap_obj (h.mp.alloc _))
 obtain ⟨c1,c2⟩:=ho.get (k:=k) (u:=natV ((lastTo R k).getD k 0)) (by
  rw [List.getElem?_map,List.getD_eq_getElem?_getD,List.getElem?_eq_getElem (by rw [lastTo_len];omega)]
  rfl)
 exact ⟨hx,ho,⟨_,c1,rfl⟩,c2,(h.below.alloc (Nat.le_trans hBW h.below.size) _).grown hg (by simp;omega) (fun k e => by cases e;exact Nat.le_refl _)⟩
theorem StI.next {W w1:World} {B lg m k f u:Nat} {lv:Int} {R:List Rn} (hlB:B < lg) (hk:k < m) (hr:R[k]? = some ⟨f,u + 1,lv⟩)
 (hown:w1.ownsMap Tryz.prog 3 (plainElem (H:=Unit) Tryz.prog 3) B (k + 1) ((stM R k).put (.int .i64 (f:Int)) (.lit (.int .i64 (k:Int))))) (hl:Own w1 B 1 (some ⟨lg,0,none⟩) m m ((lastTo R k).map natV)) (hb:Below B W w1):
 StI W B lg m R (k + 1) (w1.setCell ⟨lg,k,none⟩ (.int .i64 u)):=by
 refine ⟨?_,?_,hl.storeBelow hb k _⟩
 · rw [stM_succ,getD_get hr]
   exact hown.kept (grownBy_setCell w1 lg k _) (by simp;omega)
 · refine (hl.stored k hk (natV u)).eqL ?_
   rw [lastTo_succ,getD_get hr,List.map_set]
   rfl
theorem StI.start {W w5:World} {B lg m:Nat} {R:List Rn} (hm:m = R.length) (hBW:W.heap.size = B) (hmp:(W.alloc (.map #[] 0)).ownsMap Tryz.prog 3 (plainElem (H:=Unit) Tryz.prog 3) B 0 (stM R 0))
 (ho:Own w5 (W.alloc (.map #[] 0)).heap.size 1 (some ⟨lg,0,none⟩) m m (List.replicate m (.int .i64 0))) (hb:Below (W.alloc (.map #[] 0)).heap.size (W.alloc (.map #[] 0)) w5):StI W B lg m R 0 w5∧B < lg:=by
 subst hBW
 have h1:=ho.lt.1
 simp only [World.size_alloc] at h1
 refine ⟨⟨ownsMap_below hmp hb,(ho.mono (by simp)).eqL ?_,((Below.refl _ _).alloc (Nat.le_refl _) _).trans (hb.mono (by simp))⟩,by omega⟩
 rw [hm]
 show _ = (List.replicate R.length 0).map natV
 rw [List.map_replicate]
 rfl
/-- Which run follows. -/
def nxOf (l:List Nat) (lv:List Int) (i:Nat):Option Nat:=nextOf l (matchOf l) (runsOf lv (keptOf l)) i
def seqAt (l nw:List Nat) (lv:List Int) (base i:Nat):Sq:=
 sqOf (seqT l nw lv base) ((runsOf lv (keptOf l)).getD i ⟨0,0,0⟩).lv.toNat (placesOf l (chainOf (nxOf l lv) (runsOf lv (keptOf l)) ((runsOf lv (keptOf l)).length + 1) i))
/-- The sequences whose first run is one of the first k. -/
def seqsTo (l nw:List Nat) (lv:List Int) (base k:Nat):List Sq:=((List.range k).filter fun i => !ledB (nxOf l lv) (runsOf lv (keptOf l)).length i).map (seqAt l nw lv base)
/-- The sequences. -/
def seqsOf (l nw:List Nat) (lv:List Int) (base:Nat):List Sq:=seqsTo l nw lv base (runsOf lv (keptOf l)).length
theorem seqsTo_led {l nw:List Nat} {lv:List Int} {base k:Nat} (h:ledB (nxOf l lv) (runsOf lv (keptOf l)).length k = true):seqsTo l nw lv base (k + 1) = seqsTo l nw lv base k:=by
 unfold seqsTo
 rw [List.range_succ,List.filter_append,List.map_append]
 simp [h]
theorem seqsTo_not {l nw:List Nat} {lv:List Int} {base k:Nat} (h:ledB (nxOf l lv) (runsOf lv (keptOf l)).length k = false):seqsTo l nw lv base (k + 1) = seqsTo l nw lv base k ++ [seqAt l nw lv base k]:=by
 unfold seqsTo
 rw [List.range_succ,List.filter_append,List.map_append]
 simp [h]
theorem match_up2 (l:List Nat) (j:Nat) (h:([20,21,22]:List Nat).contains (l.getD j 0) = true):(j:Int) < (matchOf l).getD j 0∧(matchOf l).getD j 0≤l.length:=by
 have hb:begins (l.getD j 0) = true:=by rw [contains_begins] at h;exact h
 have hj:j < l.length:=by
  rcases Nat.lt_or_ge j l.length with h1 | h1
  · exact h1
  · rw [List.getD_eq_getElem?_getD,List.getElem?_eq_none h1] at h
    simp at h
 have e:l = l.take j ++ l[j] :: l.drop (j + 1):=by rw [← List.drop_eq_getElem_cons hj,List.take_append_drop]
 have hb2:begins l[j] = true:=by rw [List.getD_eq_getElem?_getD,List.getElem?_eq_getElem hj] at hb;exact hb
 have hm:=match_begin (l.take j) l[j] (l.drop (j + 1)) hb2
 rw [← e,List.length_take,Nat.min_eq_left (by omega)] at hm
 have hd:(l.drop (j + 1)).length = l.length - (j + 1):=List.length_drop
 rw [List.getD_eq_getElem?_getD,hm]
 cases hcl:closeAt 0 (l.drop (j + 1)) with
 | none => simp;omega
 | some k =>
  obtain ⟨a,b,h1,h2,_⟩:=close_whole (l.drop (j + 1)) 0 0 k hcl
  have:(l.drop (j + 1)).length = a.length + (b.length + 1):=by rw [h1];simp
  simp
  omega
theorem match_up (l:List Nat) (j:Nat) (h:([20,21,22]:List Nat).contains (l.getD j 0) = true):(j:Int) < (matchOf l).getD j 0:=(match_up2 l j h).1
/-- What the loop of the followers holds: which follows (ng), which is led (dg). -/
structure NxI (W:World) (ng dg m:Nat) (nx:Nat→Option Nat) (k:Nat) (wq:World):Prop where
 fo:Own wq W.heap.size 1 (some ⟨ng,0,none⟩) m m ((nextTo nx m k).map i64V)
 ld:Own wq W.heap.size 1 (some ⟨dg,0,none⟩) m m ((ledTo nx m k).map Value.bool)
 below:Below W.heap.size W wq
theorem i64V_get {X:List Int} {k:Nat} (hk:k < X.length):(X.map i64V)[k]? = some (i64V (X.getD k 0)):=by
 rw [List.getElem?_map,List.getD_eq_getElem?_getD,List.getElem?_eq_getElem hk];rfl
/-- The first store: nothing follows. -/
theorem NxI.first {W wq:World} {ng dg m k:Nat} {nx:Nat→Option Nat} (h:NxI W ng dg m nx k wq) (hne:ng≠dg) (hk:k < m):
 (∃ v,wq.cell? ⟨ng,k,none⟩ = some v∧v.oneCell' = true)∧wq.frozen? ⟨ng,k,none⟩ = false∧Own (wq.setCell ⟨ng,k,none⟩ (.int .i64 (-1))) W.heap.size 1 (some ⟨ng,0,none⟩) m m (((nextTo nx m k).set k (-1)).map i64V) ∧
  Own (wq.setCell ⟨ng,k,none⟩ (.int .i64 (-1))) W.heap.size 1 (some ⟨dg,0,none⟩) m m ((ledTo nx m k).map Value.bool)∧Below W.heap.size W (wq.setCell ⟨ng,k,none⟩ (.int .i64 (-1))):=by
 obtain ⟨c1,c2⟩:=h.fo.get (i64V_get (by rw [nextTo_len];exact hk))
 exact ⟨⟨_,c1,rfl⟩,c2,(h.fo.stored k hk _).eqL (by rw [List.map_set];rfl),h.ld.stored_other _ _ (fun g hg e => by cases hg;exact hne (Eq.symm e)),h.fo.storeBelow h.below k _⟩
theorem NxI.nobody {W wq:World} {ng dg m k:Nat} {nx:Nat→Option Nat} (h:NxI W ng dg m nx k wq) (hne:ng≠dg) (hk:k < m) (hn:nx k = none):NxI W ng dg m nx (k + 1) (wq.setCell ⟨ng,k,none⟩ (.int .i64 (-1))):=by
 obtain ⟨_,_,h1,h2,h3⟩:=h.first hne hk
 exact ⟨by rw [nextTo_succ,hn];exact h1,by rw [ledTo_none hn];exact h2,h3⟩
theorem NxI.led {W w1:World} {ng dg m k q:Nat} {nx:Nat→Option Nat} {X:List Int} (hX:∀ y,X.set k y = (nextTo nx m k).set k y) (hXl:X.length = m) (h1:Own w1 W.heap.size 1 (some ⟨ng,0,none⟩) m m (X.map i64V))
 (h2:Own w1 W.heap.size 1 (some ⟨dg,0,none⟩) m m ((ledTo nx m k).map Value.bool)) (h3:Below W.heap.size W w1) (hne:ng≠dg) (hk:k < m) (hq:q < m) (hn:nx k = some q):
 (∃ v,w1.cell? ⟨ng,k,none⟩ = some v∧v.oneCell' = true)∧w1.frozen? ⟨ng,k,none⟩ = false ∧
  (∃ v,(w1.setCell ⟨ng,k,none⟩ (.int .i64 q)).cell? ⟨dg,q,none⟩ = some v∧v.oneCell' = true)∧(w1.setCell ⟨ng,k,none⟩ (.int .i64 q)).frozen? ⟨dg,q,none⟩ = false ∧
  NxI W ng dg m nx (k + 1) ((w1.setCell ⟨ng,k,none⟩ (.int .i64 q)).setCell ⟨dg,q,none⟩ (.bool true)):=by
 obtain ⟨c1,c2⟩:=h1.get (i64V_get (k:=k) (by omega))
 have n2:=(h1.stored k hk (i64V q)).eqL (ys:=(X.set k (q:Int)).map i64V) (by rw [List.map_set])
 have l2:=h2.stored_other ⟨ng,k,none⟩ (i64V q) (fun g hg e => by cases hg;exact hne (Eq.symm e))
 obtain ⟨d1,d2⟩:=l2.get (k:=q) (u:=Value.bool ((ledTo nx m k).getD q false)) (by
  rw [List.getElem?_map,List.getD_eq_getElem?_getD,List.getElem?_eq_getElem (by rw [ledTo_len];exact hq)];rfl)
 refine ⟨⟨_,c1,rfl⟩,c2,⟨_,d1,rfl⟩,d2,?_,?_,?_⟩
 · refine (n2.stored_other ⟨dg,q,none⟩ (.bool true) (fun g hg e => by cases hg;exact hne e)).eqL ?_
   rw [nextTo_succ,hn,hX]
   rfl
 · refine (l2.stored q hq (.bool true)).eqL ?_
   rw [ledTo_some hn,List.map_set]
 · exact l2.storeBelow (h1.storeBelow h3 k _) q _
theorem NxI.start {W w6 w7:World} {ng dg m:Nat} (nx:Nat→Option Nat) (h1:Own w6 W.heap.size 1 (some ⟨ng,0,none⟩) m m (List.replicate m (.int .i64 0))) (b1:Below W.heap.size W w6) (h2:Own w7 w6.heap.size 1 (some ⟨dg,0,none⟩) m m (List.replicate m (.bool false))) (b2:Below w6.heap.size w6 w7):
 NxI W ng dg m nx 0 w7∧ng≠dg:=by
 have hs:=b1.size
 refine ⟨⟨(h1.below b2).eqL ?_,(h2.mono hs).eqL ?_,b1.trans (b2.mono hs)⟩,by have:=h1.lt;have:=h2.lt;omega⟩
 · show _ = (List.replicate m (0:Int)).map i64V
   rw [List.map_replicate]
   rfl
 · rw [ledTo_zero,List.map_replicate]
theorem nxOf_at {l:List Nat} {lv:List Int} {R:List Rn} (hR:R = runsOf lv (keptOf l)) {k f u:Nat} {rl:Int} (hr:R[k]? = some ⟨f,u + 1,rl⟩):
 nxOf l lv k = if ([20,21,22]:List Nat).contains (l.getD u 0) = true then startOf R ((matchOf l).getD u 0) else none:=by
 unfold nxOf nextOf
 rw [← hR,hr]
 rfl
theorem nxOf_up (l:List Nat) (lv:List Int) {i k:Nat} (h:nxOf l lv i = some k):i < k∧k < (runsOf lv (keptOf l)).length:=by
 obtain ⟨c1,c2,c3⟩:=runs_cover l lv _ (tail_all l)
 refine ⟨next_up (runs_up l lv _ _ (Nat.le_refl _) (tail_all l)) (fun r hr => (c2 r hr).1) (fun j hj => match_up l j hj) h,?_⟩
 unfold nxOf nextOf at h
 cases hr:(runsOf lv (keptOf l))[i]? with
 | none => rw [hr] at h;cases h
 | some r =>
  rw [hr] at h
  simp only at h
  split at h
  · obtain ⟨s,hs,_⟩:=startOf_some h
    exact (List.getElem?_eq_some_iff.1 hs).1
  · cases h
theorem seqAt_eq {l nw:List Nat} {lv:List Int} {base k v:Nat} {r:Rn} (hr:(runsOf lv (keptOf l))[k]? = some r) (hv:r.lv = v):
 seqAt l nw lv base k = sqOf (seqT l nw lv base) v (placesOf l (chainOf (nxOf l lv) (runsOf lv (keptOf l)) ((runsOf lv (keptOf l)).length + 1) k)):=by
 unfold seqAt
 rw [getD_get hr,hv,Int.toNat_natCast]
theorem seqsTo_le (l nw:List Nat) (lv:List Int) (base k:Nat):(seqsTo l nw lv base k).length≤k:=by
 unfold seqsTo
 rw [List.length_map]
 have:=List.length_filter_le (fun i => !ledB (nxOf l lv) (runsOf lv (keptOf l)).length i) (List.range k)
 rw [List.length_range] at this
 exact this
theorem Outs.others {w w':World} {row:Option Nat} {B:Nat} {oa:Option Addr} {oc:Nat} {S:List Sv} (h:Outs w B oa oc S) (hg:w.grownBy w' row) (hr:∀ r,row = some r→∃ o:Obj,w.heap[r]? = some o∧o.isCells = false):Outs w' B oa oc S:=
 ⟨h.own.others hg hr,fun s hs => ⟨(h.ps s hs).1.others hg hr,(h.ps s hs).2⟩,fun s hs => ⟨(h.cs s hs).1.others hg hr,(h.cs s hs).2⟩⟩
theorem Outs.mono {w:World} {B B':Nat} {oa:Option Addr} {oc:Nat} {S:List Sv} (h:Outs w B oa oc S) (hB:B'≤B):Outs w B' oa oc S:=
 ⟨h.own.mono hB,fun s hs => ⟨(h.ps s hs).1.mono hB,(h.ps s hs).2⟩,fun s hs => ⟨(h.cs s hs).1.mono hB,(h.cs s hs).2⟩⟩
/-- One chain: what is asked, and what the walk gives. -/
theorem chain_seq {l nw:List Nat} {lv:List Int} {base j:Nat} {R:List Rn} (hR:R = runsOf lv (keptOf l)) (hb:base≤1) (hn:l.length≤1048576) (hnw:nw.length = l.length) (hlv:lv.length = l.length) (h23:∀ x∈l,1≤x∧x≤23)
 (hlk:∀ x∈keptOf l,∃ v:Nat,lv[x]? = some (v:Int)∧v≤126) (hj:j < R.length) (p:Tp) (tb:Nat) (w:World) (h:TextAt (seqT l nw lv base) p tb w) (ra:Option Addr) (rc:Nat) (hC:Cells w ra (runsV (chainOf (nxOf l lv) R (R.length + 1) j))):
 Calls Tryz.prog 73 #[.pointer (some ⟨tb,0,none⟩),.slice ra (chainOf (nxOf l lv) R (R.length + 1) j).length rc] w fun e w' => ∃ pa pc ca cc,
  e = .returned (.agg #[.slice pa (seqAt l nw lv base j).ps.length pc,.slice ca (seqAt l nw lv base j).ps.length cc,.int .i8 (seqAt l nw lv base j).lv,.int .u8 (seqAt l nw lv base j).sos,.int .u8 (seqAt l nw lv base j).eos]) ∧
  Own w' w.heap.size 1 pa (seqAt l nw lv base j).ps.length pc ((seqAt l nw lv base j).ps.map natV)∧Own w' w.heap.size 1 ca (seqAt l nw lv base j).ps.length cc ((seqAt l nw lv base j).cs.map u8V)∧(∀ g∈blk pa,g ∉ blk ca)∧Below w.heap.size w w':=by
 subst hR
 obtain ⟨r,hr⟩:∃ r,(runsOf lv (keptOf l))[j]? = some r:=⟨_,List.getElem?_eq_getElem hj⟩
 obtain ⟨c1,c2,c3,c4,c5,c6,c7⟩:=chain_ok (nx:=nxOf l lv) (l:=l) (lv:=lv) (fun i k h => (nxOf_up l lv h).1) (runsOf lv (keptOf l)).length j hr
 obtain ⟨v,hv,hv2⟩:=hlk r.f c5
 have hvr:r.lv = v:=by rw [c6,List.getD_eq_getElem?_getD,hv];rfl
 rw [seqAt_eq hr hvr]
 exact seq_any w (seqT l nw lv base) (seqT_ok hb hn hnw hlv h23 hlk) p tb h _ ra rc hC r (chain_first hr) v hvr hv2 c1 (by omega) c3 c4
section
variable {P:Program} {w:World}
/-- append of one element of some cells, in the walk. -/
theorem wpList_pushN {ops:Array Oper} {rest:List Oper} {o:Oper} {act:Act} {Q:Exit→Act→World→Prop} (hgd:o.guard = none) (s x:Operand) (t:TypeId)
 (ho:o.op = .call { callee:=.builtin .append,args:=#[s,x],argTypes:=#[t,t] })
 (e:TypeId) (i:TypeInfo) (z:Value) (size bytes:Nat) (ht:P.underlying t = some (.slice e)) (hi:P.info? e = some i) (hz:i.zero = some z) (hsize:i.size = size) (hs0:0 < size) (hby:i.bytes = bytes) (hzs:z.cells.size = size) (hz1:∀ u∈z.cells.toList,u.oneCell' = true)
 (B:Nat) (a:Option Addr) (n c:Nat) (xs:List Value) (hs:act.eval s = .slice a n c) (W:World) (vs:List Value) (hvl:vs.length = size) (hw:w = W.alloc (.cells vs.toArray e)) (hown:Own W B size a n c xs)
 (b:Nat) (hx:act.eval x = .slice (some ⟨b,0,none⟩) 1 1) (hb:b = W.heap.size) (hv:∀ u∈vs,u.oneCell' = true)
 (h63:n≤1099511627776) (hby8:bytes≤64) (hB:B≤W.heap.size)
 (h:∀ a' c' w',Own w' B size a' (n + 1) c' (xs ++ vs)→Apped (W.alloc (.cells vs.toArray e)) w' a a'→Below B W w'→wpList P ops Q rest (act.put o.dst (.slice a' (n + 1) c')) w'):wpList P ops Q (o :: rest) act w:=by
 subst hw
 subst hb
 refine wpList_app hgd s x t t ho e i z size bytes ht hi hz hsize hby hzs hz1 B a n c xs hs (hown.alloc _) _ 1 vs hx (Src.ofCells ht _ _ _ _ (by rw [hvl,Nat.one_mul]) (Cells.new W vs e) hv hs0) (by simp only [maxLen];omega) ?_ (by simp;omega) ?_
 · have:(n + 1) * bytes≤(1099511627776 + 1) * 64:=Nat.mul_le_mul (by omega) hby8
   omega
 · intro a' c' w' h1 h2
   exact h a' c' w' h1 h2 (((Below.refl B W).alloc hB _).trans (h2.below (hown.alloc _) (by simp;omega)))
/-- A look-up, with ok, whose answer is known. -/
theorem wpList_look {H:Type} {ops:Array Oper} {rest:List Oper} {o:Oper} {a:Act} {Q:Exit→Act→World→Prop} (hg:o.guard = none) (m x:Operand) (t:TypeId) (hop:o.op = Op.lookup t m x true)
 (k e:TypeId) (q:IntKind) (K:Maps.Keyed P k) (ht:P.underlying t = some (.map k e)) (he:P.underlying e = some (.int q)) (hz:(zeroValue e).run P w = .ok (.int q 0) w) (b n:Nat) (D:DataW H)
 (hm:a.eval m = .map (some b)) (hown:w.ownsMap P k (plainElem P e) b n D) (key:Value) (kl:Lit) (hx:a.eval x = key) (hkey:keyOf P k key = some kl)
 (c:Int) (h:Bool) (hat:D.atKey kl (.lit (.int q 0)) = .lit (.int q c)) (hh:Maps.has D kl = h)
 (hK:wpList P ops Q rest (a.put o.dst (.tuple #[.int q c,.bool h])) w):wpList P ops Q (o :: rest) a w:=
 wpList_lookup_own_ok_int w hg m x t hop k e q K ht he hz b n D hm hown key kl hx hkey fun c' hat' _ => by
  rw [hat] at hat'
  cases hat'
  rw [hh]
  exact hK
end
end Go.Proofs.YtjnidopbdjbbgaaGreat
end
/-
  What the explicit rules leave, as the sequences ask it; sequences that may be; each kept place stands in one. Plain laws: no walk.
-/
section
namespace Go.Proofs.YtjnidopbdjbbgaaGreat
open Go.RowKit
set_option linter.unusedVariables false
theorem rem_removed (c:Nat):rem c = removedB c:=by
 unfold rem removedB
 rw [Bool.eq_iff_iff]
 simp
 omega
theorem answers_get {base:Nat} (hb:base≤125) (ov:Bool):∀ (L:List (Nat × Nat)) (s:St),Ok base s→Over ov s→(∀ x∈L,ov = true∨x.1≠16∧x.1≠18)→∀ (i:Nat) (x:Nat × Nat),L[i]? = some x →
 ∃ a,(answers s L)[i]? = some a∧((removedB x.1 = true∧a = (none,x.1))∨(removedB x.1 = false∧∃ lv k,a = (some lv,k)∧base≤lv∧lv≤125∧(k = x.1∨ov = true∧(k = 1∨k = 2)))):=by
 intro L
 induction L with
 | nil => intro s _ _ _ i x h;simp at h
 | cons y L ih =>
  intro s hk ho hL i x h
  cases i with
  | zero =>
   simp at h
   subst h
   exact ⟨_,rfl,answer_ok hk hb ho _ _ (hL y (by simp))⟩
  | succ i => exact ih _ (hk.next hb _ _) (over_next ho _ _ (hL y (by simp))) (fun z hz => hL z (List.mem_cons_of_mem _ hz)) i x (by simpa using h)
theorem withFsi_get {l:List Nat} {i c:Nat} (h:l[i]? = some c):∃ a,(withFsi l)[i]? = some (c,a):=by
 have hi:=(List.getElem?_eq_some_iff.1 h).1
 have hi2:i < (withFsi l).length:=by rw [withFsi_len];exact hi
 have hm:=withFsi_map l
 have:((withFsi l).map (·.1))[i]? = some c:=by rw [hm];exact h
 rw [List.getElem?_map,List.getElem?_eq_getElem hi2] at this
 simp at this
 exact ⟨(withFsi l)[i].2,by rw [List.getElem?_eq_getElem hi2,← this]⟩
/-- Is an override begun? -/
def ovOf (l:List Nat):Bool:=l.any fun c => c == 16 || c == 18
theorem expl_get {base:Nat} (hb:base≤1) {l:List Nat} {i c:Nat} (h:l[i]? = some c):
 ∃ a,(explicitOf base l)[i]? = some a∧((rem c = true∧a = (none,c))∨(rem c = false∧∃ lv k,a = (some lv,k)∧base≤lv∧lv≤125∧(k = c∨ovOf l = true∧(k = 1∨k = 2)))):=by
 obtain ⟨a,ha⟩:=withFsi_get h
 have:=answers_get (base:=base) (by omega) (ovOf l) (withFsi l) (St.first base) (first_ok base) (first_over _ base) (fun x hx => by
  cases ho:ovOf l with
  | true => exact .inl rfl
  | false =>
   right
   have hx1:x.1∈l:=by rw [← withFsi_map l];exact List.mem_map_of_mem hx
   unfold ovOf at ho
   rw [List.any_eq_false] at ho
   have:=ho _ hx1
   simpa using this) i (c,a) ha
 simp only [rem_removed]
 exact this
def lvsOf (base:Nat) (l:List Nat):List Int:=(explicitOf base l).map fun x => lvI x.1
def nwsOf (base:Nat) (l:List Nat):List Nat:=(explicitOf base l).map fun x => x.2
theorem expl_len (base:Nat) (l:List Nat):(explicitOf base l).length = l.length:=by unfold explicitOf;rw [answers_len,withFsi_len]
theorem lvs_len (base:Nat) (l:List Nat):(lvsOf base l).length = l.length:=by unfold lvsOf;rw [List.length_map,expl_len]
theorem nws_len (base:Nat) (l:List Nat):(nwsOf base l).length = l.length:=by unfold nwsOf;rw [List.length_map,expl_len]
theorem kept_get {l:List Nat} {x:Nat} (h:x∈keptOf l):∃ c,l[x]? = some c∧rem c = false:=by
 obtain ⟨h1,h2⟩:=mem_keptOf.1 h
 refine ⟨l[x],List.getElem?_eq_getElem h1,?_⟩
 rw [List.getD_eq_getElem?_getD,List.getElem?_eq_getElem h1] at h2
 exact h2
theorem lvs_kept {base:Nat} (hb:base≤1) {l:List Nat} {x:Nat} (h:x∈keptOf l):∃ v:Nat,(lvsOf base l)[x]? = some (v:Int)∧base≤v∧v≤125:=by
 obtain ⟨c,hc,hr⟩:=kept_get h
 obtain ⟨a,ha,h1 | ⟨_,lv,k,h1,h2,h3,_⟩⟩:=expl_get hb hc
 · rw [hr] at h1;cases h1.1
 · exact ⟨lv,by unfold lvsOf;rw [List.getElem?_map,ha,h1];rfl,h2,h3⟩
theorem cl_of {c:Nat} (h:1≤c∧c≤23) (hr:rem c = false):Cl c:=by
 rw [rem_removed] at hr
 unfold removedB at hr
 unfold Cl
 simp at hr
 omega
theorem nws_kept {base:Nat} (hb:base≤1) {l:List Nat} (h23:∀ x∈l,1≤x∧x≤23) {x:Nat} (h:x∈keptOf l):∃ c k,l[x]? = some c∧(nwsOf base l)[x]? = some k∧Cl k∧(k = c∨ovOf l = true):=by
 obtain ⟨c,hc,hr⟩:=kept_get h
 obtain ⟨a,ha,h1 | ⟨_,lv,k,h1,h2,h3,h4⟩⟩:=expl_get hb hc
 · rw [hr] at h1;cases h1.1
 · refine ⟨c,k,hc,by unfold nwsOf;rw [List.getElem?_map,ha,h1];rfl,?_,?_⟩
   · rcases h4 with rfl | ⟨_,rfl | rfl⟩
     · exact cl_of (h23 _ (List.mem_of_getElem? hc)) hr
     · unfold Cl;omega
     · unfold Cl;omega
   · rcases h4 with h4 | h4
     · exact .inl h4
     · exact .inr h4.1
theorem cl_rem {c:Nat} (h:Cl c):1≤c∧c≤23∧rem c = false:=by
 rw [rem_removed]
 unfold Cl at h
 unfold removedB
 simp
 omega
theorem way_one (n:Nat):wayOf n = 1∨wayOf n = 2:=by unfold wayOf;split <;> simp
/-- What is said of one sequence of a paragraph. -/
structure SeqGood (l:List Nat) (base:Nat) (s:Sq):Prop where
 ok:s.Ok
 lv:s.lv≤125
 ge:base≤s.lv
 kept:∀ p∈s.ps,p∈keptOf l
 cs:∀ (i p:Nat),s.ps[i]? = some p→s.cs[i]? = some ((nwsOf base l).getD p 0)
theorem seqAt_good {base:Nat} (hb:base≤1) {l:List Nat} (hn:l.length≤1048576) (h23:∀ x∈l,1≤x∧x≤23) {i:Nat} (hi:i < (runsOf (lvsOf base l) (keptOf l)).length):SeqGood l base (seqAt l (nwsOf base l) (lvsOf base l) base i):=by
 obtain ⟨r,hr⟩:∃ r,(runsOf (lvsOf base l) (keptOf l))[i]? = some r:=⟨_,List.getElem?_eq_getElem hi⟩
 obtain ⟨c1,c2,c3,c4,c5,c6,c7⟩:=chain_ok (nx:=nxOf l (lvsOf base l)) (l:=l) (lv:=lvsOf base l) (fun i k h => (nxOf_up l _ h).1) (runsOf (lvsOf base l) (keptOf l)).length i hr
 obtain ⟨v,hv,hv1,hv2⟩:=lvs_kept hb c5
 have hvr:r.lv = v:=by rw [c6,List.getD_eq_getElem?_getD,hv];rfl
 have hsub:=chain_places (l:=l) (lv:=lvsOf base l) (nx:=nxOf l (lvsOf base l)) (fun i k h => (nxOf_up l _ h).1) ((runsOf (lvsOf base l) (keptOf l)).length + 1) i
 rw [seqAt_eq hr hvr]
 have hcs:∀ p∈placesOf l (chainOf (nxOf l (lvsOf base l)) (runsOf (lvsOf base l) (keptOf l)) ((runsOf (lvsOf base l) (keptOf l)).length + 1) i),Cl ((nwsOf base l).getD p 0)∧knownOf ((nwsOf base l).getD p 0) = (nwsOf base l).getD p 0:=by
  intro p hp
  obtain ⟨c,k,_,hk,hcl,_⟩:=nws_kept hb h23 (hsub.subset hp)
  rw [List.getD_eq_getElem?_getD,hk]
  exact ⟨hcl,(cl_known hcl).2.2.1⟩
 have hkl:(keptOf l).length≤l.length:=keptTo_le l l.length
 refine ⟨⟨c3,sqCs_len _ _,by have:=hsub.length_le;show (placesOf _ _).length≤_;omega,c7,fun p hp => by have:=c4 p hp;omega,fun c hc => ?_,by show v≤126;omega,way_one _,way_one _⟩,hv2,hv1,fun p hp => hsub.subset hp,fun j p hp => ?_⟩
 · have hc:c∈sqCs (seqT l (nwsOf base l) (lvsOf base l) base) _:=hc
   unfold sqCs at hc
   obtain ⟨p,hp,rfl⟩:=List.mem_map.1 hc
   have:=hcs p hp
   show Cl (knownOf ((nwsOf base l).getD p 0))
   rw [this.2]
   exact this.1
 · show (sqCs (seqT l (nwsOf base l) (lvsOf base l) base) _)[j]? = _
   unfold sqCs
   have hp2:(placesOf l (chainOf (nxOf l (lvsOf base l)) (runsOf (lvsOf base l) (keptOf l)) ((runsOf (lvsOf base l) (keptOf l)).length + 1) i))[j]? = some p:=hp
   rw [List.getElem?_map,hp2]
   show some (knownOf ((nwsOf base l).getD p 0)) = _
   rw [(hcs p (List.mem_of_getElem? hp2)).2]
/-- **All sequences of a paragraph may be.** -/
theorem seqs_good {base:Nat} (hb:base≤1) {l:List Nat} (hn:l.length≤1048576) (h23:∀ x∈l,1≤x∧x≤23):∀ s∈seqsOf l (nwsOf base l) (lvsOf base l) base,SeqGood l base s:=by
 intro s hs
 unfold seqsOf seqsTo at hs
 obtain ⟨i,hi,rfl⟩:=List.mem_map.1 hs
 rw [List.mem_filter,List.mem_range] at hi
 exact seqAt_good hb hn h23 hi.1
end Go.Proofs.YtjnidopbdjbbgaaGreat
end
/-
  Which kept place follows which in a sequence; each kept place stands in one sequence, and in one alone. Plain laws: no walk.
-/
section
namespace Go.Proofs.YtjnidopbdjbbgaaGreat
open Go.RowKit
set_option linter.unusedVariables false
/-- The next kept place. -/
def Nk (l:List Nat) (p q:Nat):Prop:=p∈keptOf l∧q∈keptOf l∧p < q∧∀ r∈keptOf l,p < r→r < q→False
theorem Nk.right {l:List Nat} {p q r:Nat} (h:Nk l p q) (k:Nk l p r):q = r:=by
 rcases Nat.lt_trichotomy q r with h1 | h1 | h1
 · exact (k.2.2.2 q h.2.1 h.2.2.1 h1).elim
 · exact h1
 · exact (h.2.2.2 r k.2.1 k.2.2.1 h1).elim
theorem Nk.left {l:List Nat} {p q r:Nat} (h:Nk l p q) (k:Nk l r q):p = r:=by
 rcases Nat.lt_trichotomy p r with h1 | h1 | h1
 · exact (h.2.2.2 r k.1 h1 k.2.2.1).elim
 · exact h1
 · exact (k.2.2.2 p h.1 h1 h.2.2.1).elim
theorem nk_ix {l:List Nat} {j p q:Nat} (hp:(keptOf l)[j]? = some p) (hq:(keptOf l)[j + 1]? = some q):Nk l p q:=by
 refine ⟨List.mem_of_getElem? hp,List.mem_of_getElem? hq,up_get (keptOf_up l) hp hq (by omega),fun r hr h1 h2 => ?_⟩
 obtain ⟨i,hi⟩:=List.mem_iff_getElem?.1 hr
 rcases Nat.lt_trichotomy i j with h | h | h
 · have:=up_get (keptOf_up l) hi hp h;omega
 · subst h;rw [hp] at hi;cases hi;omega
 · rcases Nat.lt_trichotomy i (j + 1) with h' | h' | h'
   · omega
   · subst h';rw [hq] at hi;cases hi;omega
   · have:=up_get (keptOf_up l) hq hi h';omega
theorem nk_prev {l:List Nat} {p q:Nat} (hp:p∈keptOf l) (hq:q∈keptOf l) (h:p < q):∃ r,Nk l r q:=by
 obtain ⟨j,hj⟩:=List.mem_iff_getElem?.1 hq
 obtain ⟨i,hi⟩:=List.mem_iff_getElem?.1 hp
 have hij:i < j:=by
  rcases Nat.lt_trichotomy i j with h1 | h1 | h1
  · exact h1
  · subst h1;rw [hj] at hi;cases hi;omega
  · have:=up_get (keptOf_up l) hj hi h1;omega
 have hjl:=(List.getElem?_eq_some_iff.1 hj).1
 refine ⟨(keptOf l)[j - 1],nk_ix (j:=j - 1) (List.getElem?_eq_getElem (by omega)) ?_⟩
 rw [show j - 1 + 1 = j from by omega]
 exact hj
theorem nk_next {l:List Nat} {p q:Nat} (hp:p∈keptOf l) (hq:q∈keptOf l) (h:p < q):∃ r,Nk l p r:=by
 obtain ⟨j,hj⟩:=List.mem_iff_getElem?.1 hp
 obtain ⟨i,hi⟩:=List.mem_iff_getElem?.1 hq
 have hij:j < i:=by
  rcases Nat.lt_trichotomy j i with h1 | h1 | h1
  · exact h1
  · subst h1;rw [hj] at hi;cases hi;omega
  · have:=up_get (keptOf_up l) hi hj h1;omega
 have hil:=(List.getElem?_eq_some_iff.1 hi).1
 exact ⟨(keptOf l)[j + 1],nk_ix hj (List.getElem?_eq_getElem (by omega))⟩
/-- Its run ends there; its run begins there. -/
def Ends (l:List Nat) (lv:List Int) (p:Nat):Prop:=∀ r,Nk l p r→lv.getD r 0≠lv.getD p 0
def Starts (l:List Nat) (lv:List Int) (q:Nat):Prop:=∀ r,Nk l r q→lv.getD r 0≠lv.getD q 0
/-- q follows p in a sequence. -/
def Link (l:List Nat) (lv:List Int) (p q:Nat):Prop:=
 p∈keptOf l∧q∈keptOf l∧((Nk l p q∧lv.getD q 0 = lv.getD p 0)∨(begins (l.getD p 0) = true∧(matchOf l).getD p 0 = (q:Int)∧Ends l lv p∧Starts l lv q))
theorem begins_lt {l:List Nat} {p:Nat} (h:begins (l.getD p 0) = true):p < l.length:=by
 rcases Nat.lt_or_ge p l.length with h1 | h1
 · exact h1
 · rw [List.getD_eq_getElem?_getD,List.getElem?_eq_none h1] at h
   simp [begins] at h
theorem split_at {l:List Nat} {p:Nat} (h:p < l.length):l = l.take p ++ l.getD p 0 :: l.drop (p + 1)∧(l.take p).length = p:=by
 have e:l.getD p 0 = l[p]:=by rw [List.getD_eq_getElem?_getD,List.getElem?_eq_getElem h];rfl
 rw [e,← List.drop_eq_getElem_cons h,List.take_append_drop,List.length_take]
 exact ⟨rfl,by omega⟩
/-- The match of an isolate's beginning. -/
theorem match_close {l:List Nat} {p:Nat} (h:begins (l.getD p 0) = true):(matchOf l).getD p 0 = match closeAt 0 (l.drop (p + 1)) with | some k => ((p + 1 + k:Nat):Int) | none => (l.length:Int):=by
 have hp:=begins_lt h
 obtain ⟨e,hl⟩:=split_at hp
 have:=match_begin (l.take p) (l.getD p 0) (l.drop (p + 1)) h
 rw [← e,hl] at this
 rw [List.getD_eq_getElem?_getD,this]
 cases closeAt 0 (l.drop (p + 1)) with
 | some k => rfl
 | none =>
  show ((p + 1 + (l.drop (p + 1)).length:Nat):Int) = _
  rw [List.length_drop]
  congr 1
  omega
theorem match_inv {l:List Nat} {p q:Nat} (h:begins (l.getD p 0) = true) (hm:(matchOf l).getD p 0 = (q:Int)) (hq:q < l.length):p < q∧l.getD q 0 = 23∧(matchOf l).getD q 0 = (p:Int):=by
 have hp:=begins_lt h
 obtain ⟨e,hl⟩:=split_at hp
 rw [match_close h] at hm
 cases hc:closeAt 0 (l.drop (p + 1)) with
 | none => rw [hc] at hm;simp only at hm;omega
 | some k =>
  rw [hc] at hm
  simp only at hm
  have hqk:q = p + 1 + k:=by omega
  obtain ⟨a,b,hd,ha,hw⟩:=close_whole (l.drop (p + 1)) 0 0 k hc
  have hpl:pileOf (l.take p ++ [l.getD p 0]) = p :: pileOf (l.take p):=by rw [pile_step,if_pos h,hl]
  obtain ⟨h1,h2⟩:=pile_whole a (l.take p ++ [l.getD p 0]) 0 0 hw (Nat.zero_le _)
  rw [List.drop_zero,List.drop_zero,hpl] at h1
  have hlen:(l.take p ++ [l.getD p 0] ++ a).length = q:=by simp only [List.length_append,List.length_singleton,hl,ha];omega
  have e2:l = (l.take p ++ [l.getD p 0] ++ a) ++ 23 :: b:=by
   conv => lhs;rw [e,hd]
   simp
  have hm2:=match_pdi (l.take p ++ [l.getD p 0] ++ a) b
  rw [← e2,hlen,h1] at hm2
  refine ⟨by omega,?_,?_⟩
  · have hle:=hlen
    rw [List.getD_eq_getElem?_getD]
    have:l[q]? = ((l.take p ++ [l.getD p 0] ++ a) ++ 23 :: b)[q]?:=by rw [← e2]
    rw [this,List.getElem?_append_right (by omega),hlen,Nat.sub_self]
    rfl
  · rw [List.getD_eq_getElem?_getD,hm2]
    rfl
theorem kept_lt {l:List Nat} {p:Nat} (h:p∈keptOf l):p < l.length:=(mem_keptOf.1 h).1
theorem link_right {l:List Nat} {lv:List Int} {p q r:Nat} (h:Link l lv p q) (k:Link l lv p r):q = r:=by
 rcases h.2.2 with ⟨h1,h2⟩ | ⟨h1,h2,h3,h4⟩
 · rcases k.2.2 with ⟨k1,k2⟩ | ⟨k1,k2,k3,k4⟩
   · exact h1.right k1
   · exact (k3 q h1 h2).elim
 · rcases k.2.2 with ⟨k1,k2⟩ | ⟨k1,k2,k3,k4⟩
   · exact (h3 r k1 k2).elim
   · rw [h2] at k2;omega
theorem link_left {l:List Nat} {lv:List Int} {p q r:Nat} (h:Link l lv p q) (k:Link l lv r q):p = r:=by
 rcases h.2.2 with ⟨h1,h2⟩ | ⟨h1,h2,h3,h4⟩
 · rcases k.2.2 with ⟨k1,k2⟩ | ⟨k1,k2,k3,k4⟩
   · exact h1.left k1
   · exact (k4 p h1 h2.symm).elim
 · rcases k.2.2 with ⟨k1,k2⟩ | ⟨k1,k2,k3,k4⟩
   · exact (h4 r k1 k2.symm).elim
   · have a1:=match_inv h1 h2 (kept_lt h.2.1)
     have a2:=match_inv k1 k2 (kept_lt h.2.1)
     rw [a1.2.2] at a2
     have:=a2.2.2
     omega
/-- A list whose places follow one another, to the end. -/
def Fwd (L:Nat→Nat→Prop):List Nat→Prop
 | [] => True
 | [x] => ∀ r,¬ L x r
 | x :: y :: t => L x y∧Fwd L (y :: t)
def Lks (L:Nat→Nat→Prop):List Nat→Prop
 | [] => True
 | [_] => True
 | x :: y :: t => L x y∧Lks L (y :: t)
theorem lks_of {L:Nat→Nat→Prop}:∀ A:List Nat,A.Pairwise (· < ·)→(∀ x∈A,∀ y∈A,x < y→(∀ z∈A,x < z→z < y→False)→L x y)→Lks L A
 | [],_,_ => trivial
 | [_],_,_ => trivial
 | x :: y :: t,hp,h => by
  have hx:=List.pairwise_cons.1 hp
  have hy:=List.pairwise_cons.1 hx.2
  refine ⟨h x (by simp) y (by simp) (hx.1 y (by simp)) fun z hz h1 h2 => ?_,lks_of (y :: t) hx.2 fun a ha b hb hab hn => h a (List.mem_cons_of_mem _ ha) b (List.mem_cons_of_mem _ hb) hab fun z hz h1 h2 => ?_⟩
  · rcases List.mem_cons.1 hz with rfl | hz
    · omega
    · rcases List.mem_cons.1 hz with rfl | hz
      · omega
      · have:=hy.1 z hz;omega
  · rcases List.mem_cons.1 hz with rfl | hz
    · have:=hx.1 a ha;omega
    · exact hn z hz h1 h2
theorem fwd_app {L:Nat→Nat→Prop} {b:List Nat} (hb:Fwd L b):∀ a:List Nat,Lks L a→(∀ x,a.getLast? = some x→b = []→∀ r,¬ L x r)→(∀ x y,a.getLast? = some x→b.head? = some y→L x y)→Fwd L (a ++ b)
 | [],_,_,_ => hb
 | [x],_,h1,h2 => by
  cases b with
  | nil => exact h1 x rfl rfl
  | cons y t => exact ⟨h2 x y rfl rfl,hb⟩
 | x :: y :: t,hl,h1,h2 => by
  refine ⟨hl.1,fwd_app hb (y :: t) hl.2 (fun z hz => h1 z ?_) (fun z w hz => h2 z w ?_)⟩
  · rw [List.getLast?_cons_cons];exact hz
  · rw [List.getLast?_cons_cons];exact hz
theorem fwd_get {L:Nat→Nat→Prop}:∀ (A:List Nat),Fwd L A→∀ (i x y:Nat),A[i]? = some x→A[i + 1]? = some y→L x y
 | [],_,i,x,y,h,_ => by simp at h
 | [a],_,i,x,y,_,h => by simp at h
 | a :: b :: t,hf,0,x,y,h1,h2 => by
  simp at h1 h2
  subst h1 h2
  exact hf.1
 | a :: b :: t,hf,i + 1,x,y,h1,h2 => fwd_get (b :: t) hf.2 i x y (by simpa using h1) (by simpa using h2)
theorem fwd_eq {L:Nat→Nat→Prop} (hr:∀ p q r,L p q→L p r→q = r):∀ (a b:List Nat) (x:Nat),Fwd L (x :: a)→Fwd L (x :: b)→a = b
 | [],[],_,_,_ => rfl
 | [],y :: b,x,h1,h2 => (h1 y h2.1).elim
 | y :: a,[],x,h1,h2 => (h2 y h1.1).elim
 | y :: a,z :: b,x,h1,h2 => by
  have e:=hr x y z h1.1 h2.1
  subst e
  rw [fwd_eq hr a b y h1.2 h2.2]
/-- A whole sequence of places. -/
structure Whole (L:Nat→Nat→Prop) (A:List Nat):Prop where
 fwd:Fwd L A
 first:∀ x,A.head? = some x→∀ r,¬ L r x
theorem whole_head {L:Nat→Nat→Prop} (hl:∀ p q r,L p q→L r q→p = r) {A B:List Nat} (hA:Whole L A) (hB:Whole L B):∀ (i j z:Nat),A[i]? = some z→B[j]? = some z→A.head? = B.head?:=by
 intro i
 induction i with
 | zero =>
  intro j z h1 h2
  cases j with
  | zero => rw [List.head?_eq_getElem?,List.head?_eq_getElem?,h1,h2]
  | succ j =>
   have hj:=(List.getElem?_eq_some_iff.1 h2).1
   exact (hA.first z (by rw [List.head?_eq_getElem?];exact h1) _ (fwd_get B hB.fwd j _ z (List.getElem?_eq_getElem (by omega)) h2)).elim
 | succ i ih =>
  intro j z h1 h2
  have hi:=(List.getElem?_eq_some_iff.1 h1).1
  have l1:=fwd_get A hA.fwd i _ z (List.getElem?_eq_getElem (by omega)) h1
  cases j with
  | zero => exact (hB.first z (by rw [List.head?_eq_getElem?];exact h2) _ l1).elim
  | succ j =>
   have hj:=(List.getElem?_eq_some_iff.1 h2).1
   have l2:=fwd_get B hB.fwd j _ z (List.getElem?_eq_getElem (by omega)) h2
   have e:=hl _ _ _ l1 l2
   exact ih j A[i] (List.getElem?_eq_getElem (by omega)) (by rw [e];exact List.getElem?_eq_getElem (by omega))
theorem whole_eq {l:List Nat} {lv:List Int} {A B:List Nat} (hA:Whole (Link l lv) A) (hB:Whole (Link l lv) B) {z:Nat} (h1:z∈A) (h2:z∈B):A = B:=by
 obtain ⟨i,hi⟩:=List.mem_iff_getElem?.1 h1
 obtain ⟨j,hj⟩:=List.mem_iff_getElem?.1 h2
 have h:=whole_head (L:=Link l lv) (fun p q r a b => link_left a b) hA hB i j z hi hj
 cases A with
 | nil => simp at hi
 | cons x a =>
  cases B with
  | nil => simp at hj
  | cons y b =>
   simp at h
   subst h
   rw [fwd_eq (L:=Link l lv) (fun p q r a b => link_right a b) a b x hA.fwd hB.fwd]
/-- Runs are of one level, from their first to their last, and end where the level does. -/
theorem runs_max (l:List Nat) (lv:List Int):∀ K,Tail l K→∀ r∈runsOf lv K,(∀ q∈segOf l r,lv.getD q 0 = lv.getD r.f 0)∧r.t - 1∈segOf l r∧r.f∈segOf l r∧∀ q,Nk l (r.t - 1) q→lv.getD q 0≠lv.getD r.f 0:=by
 intro K
 obtain ⟨n,hn⟩:∃ n,n = K.length:=⟨_,rfl⟩
 induction n using Nat.strongRecOn generalizing K with
 | _ n ih =>
  intro h
  cases K with
  | nil => intro r hr;simp [runsOf,runsF] at hr
  | cons x K =>
   have hn1:=nOf_pos lv x K
   obtain ⟨hs,h2,h3⟩:=h.seg (lv:=lv)
   have hd:((x :: K).drop (nOf lv x (x :: K))).length < n:=by rw [List.length_drop,hn,List.length_cons];omega
   intro r hr
   rw [runsOf_cons] at hr
   rcases List.mem_cons.1 hr with rfl | hr
   · obtain ⟨o1,o2,o3⟩:=nOf_spec lv x (x :: K)
     obtain ⟨nn,hnn⟩:∃ nn,nn = nOf lv x (x :: K):=⟨_,rfl⟩
     rw [← hnn] at o1 o2 o3 hn1
     obtain ⟨y,hy⟩:∃ y,(x :: K)[nn - 1]? = some y:=⟨_,List.getElem?_eq_getElem (by omega)⟩
     have ht:(runAt lv x K).t - 1 = y:=by
      unfold runAt
      rw [← hnn,List.getD_eq_getElem?_getD,hy]
      rfl
     rw [hs,← hnn,ht]
     have hfx:(runAt lv x K).f = x:=rfl
     rw [hfx]
     refine ⟨fun q hq => ?_,?_,?_,fun q hq => ?_⟩
     · have:=o1 q hq
       unfold offB at this
       simpa using this
     · refine List.mem_iff_getElem?.2 ⟨nn - 1,?_⟩
       rw [List.getElem?_take,if_pos (by omega)]
       exact hy
     · refine List.mem_iff_getElem?.2 ⟨0,?_⟩
       rw [List.getElem?_take,if_pos (by omega)]
       rfl
     · have hm:=h.2 x rfl
       have hyx:=(hm y).1 (List.mem_of_getElem? hy)
       have hqk:=mem_keptOf.1 hq.2.1
       have hqm:=(hm q).2 ⟨by have:=hq.2.2.1;omega,hqk.1,hqk.2⟩
       obtain ⟨j,hj⟩:=List.mem_iff_getElem?.1 hqm
       have hjn:nn≤j:=by
        rcases Nat.lt_trichotomy j (nn - 1) with h1 | h1 | h1
        · have:=up_get h.1 hj hy h1;have:=hq.2.2.1;omega
        · subst h1;rw [hy] at hj;cases hj;have:=hq.2.2.1;omega
        · omega
       have hjl:=(List.getElem?_eq_some_iff.1 hj).1
       obtain ⟨z,hz⟩:∃ z,(x :: K)[nn]? = some z:=⟨_,List.getElem?_eq_getElem (by omega)⟩
       have hzk:=(hm z).1 (List.mem_of_getElem? hz)
       have hyz:=up_get h.1 hy hz (by omega)
       have hzq:z = q:=by
        rcases Nat.lt_or_ge nn j with h1 | h1
        · have:=up_get h.1 hz hj h1
          exact (hq.2.2.2 z (mem_keptOf.2 hzk.2) hyz this).elim
        · have:j = nn:=by omega
          subst this
          rw [hz] at hj
          cases hj
          rfl
       have:=o2 z hz
       unfold offB at this
       rw [hzq] at this
       simpa using this
   · exact ih _ hd _ rfl (h.drop _) r hr
theorem seg_of {l:List Nat} {lv:List Int} {q:Nat} (h:q∈keptOf l):∃ (j:Nat) (r:Rn),(runsOf lv (keptOf l))[j]? = some r∧q∈segOf l r:=by
 rw [← (runs_cover l lv _ (tail_all l)).1] at h
 unfold placesOf at h
 obtain ⟨r,hr,hq⟩:=List.mem_flatMap.1 h
 obtain ⟨j,hj⟩:=List.mem_iff_getElem?.1 hr
 exact ⟨j,r,hj,hq⟩
theorem seg_kept {l:List Nat} {lv:List Int} {r:Rn} (hr:r∈runsOf lv (keptOf l)) {q:Nat} (h:q∈segOf l r):q∈keptOf l:=by
 have:=mem_segTo.1 h
 have:=((runs_cover l lv _ (tail_all l)).2.1 r hr).2
 exact mem_keptOf.2 ⟨by omega,(mem_segTo.1 h).2.2⟩
theorem seg_one {l:List Nat} {lv:List Int} {i j q:Nat} {r s:Rn} (hi:(runsOf lv (keptOf l))[i]? = some r) (hj:(runsOf lv (keptOf l))[j]? = some s) (h1:q∈segOf l r) (h2:q∈segOf l s):i = j:=by
 have hp:=runs_up l lv _ _ (Nat.le_refl _) (tail_all l)
 have a:=mem_segTo.1 h1
 have b:=mem_segTo.1 h2
 obtain ⟨hi1,rfl⟩:=List.getElem?_eq_some_iff.1 hi
 obtain ⟨hj1,rfl⟩:=List.getElem?_eq_some_iff.1 hj
 rcases Nat.lt_trichotomy i j with h | h | h
 · have:=List.pairwise_iff_getElem.1 hp i j hi1 hj1 h;omega
 · exact h
 · have:=List.pairwise_iff_getElem.1 hp j i hj1 hi1 h;omega
theorem seg_next {l:List Nat} {lv:List Int} {r:Rn} (hr:r∈runsOf lv (keptOf l)) {p q:Nat} (h:p∈segOf l r) (hne:p≠r.t - 1) (hn:Nk l p q):q∈segOf l r:=by
 obtain ⟨_,m2,_,_⟩:=runs_max l lv _ (tail_all l) r hr
 have hk:=seg_kept hr m2
 have a:=mem_segTo.1 h
 have b:=mem_segTo.1 m2
 refine mem_segTo.2 ⟨?_,by have:=hn.2.2.1;omega,(mem_keptOf.1 hn.2.1).2⟩
 rcases Nat.lt_or_ge (r.t - 1) q with h1 | h1
 · exact (hn.2.2.2 _ hk (by omega) h1).elim
 · omega
theorem seg_prev {l:List Nat} {lv:List Int} {r:Rn} (hr:r∈runsOf lv (keptOf l)) {p q:Nat} (h:q∈segOf l r) (hne:q≠r.f) (hn:Nk l p q):p∈segOf l r:=by
 obtain ⟨_,_,m3,_⟩:=runs_max l lv _ (tail_all l) r hr
 have hk:=seg_kept hr m3
 have a:=mem_segTo.1 h
 refine mem_segTo.2 ⟨by have:=hn.2.2.1;omega,?_,(mem_keptOf.1 hn.1).2⟩
 rcases Nat.lt_or_ge p r.f with h1 | h1
 · exact (hn.2.2.2 _ hk h1 (by omega)).elim
 · exact h1
theorem run_ends {l:List Nat} {lv:List Int} {r:Rn} (hr:r∈runsOf lv (keptOf l)):Ends l lv (r.t - 1):=by
 obtain ⟨m1,m2,_,m4⟩:=runs_max l lv _ (tail_all l) r hr
 intro q hq
 rw [m1 _ m2]
 exact m4 q hq
theorem run_starts {l:List Nat} {lv:List Int} {r:Rn} (hr:r∈runsOf lv (keptOf l)):Starts l lv r.f:=by
 intro p hp e
 obtain ⟨i,hi⟩:=List.mem_iff_getElem?.1 hr
 obtain ⟨j,s,hj,hs⟩:=seg_of (lv:=lv) hp.1
 have hsm:=List.mem_of_getElem? hj
 obtain ⟨_,_,m3,_⟩:=runs_max l lv _ (tail_all l) r hr
 have hpf:=hp.2.2.1
 by_cases h1:p = s.t - 1
 · subst h1
   exact run_ends hsm _ hp e.symm
 · have h2:=seg_next hsm hs h1 hp
   have:=seg_one hi hj m3 h2
   subst this
   rw [hi] at hj
   cases hj
   have:=mem_segTo.1 hs
   omega
theorem starts_run {l:List Nat} {lv:List Int} {q:Nat} (hq:q∈keptOf l) (h:Starts l lv q):∃ (j:Nat) (r:Rn),(runsOf lv (keptOf l))[j]? = some r∧r.f = q:=by
 obtain ⟨j,r,hj,hs⟩:=seg_of (lv:=lv) hq
 have hr:=List.mem_of_getElem? hj
 refine ⟨j,r,hj,?_⟩
 rcases Classical.em (q = r.f) with h1 | h1
 · exact h1.symm
 · obtain ⟨m1,_,m3,_⟩:=runs_max l lv _ (tail_all l) r hr
   have:=mem_segTo.1 hs
   obtain ⟨p,hp⟩:=nk_prev (seg_kept hr m3) hq (by omega)
   have:=seg_prev hr hs h1 hp
   exact (h p hp (by rw [m1 p this,m1 q hs])).elim
theorem ends_run {l:List Nat} {lv:List Int} {p:Nat} (hp:p∈keptOf l) (h:Ends l lv p):∃ (j:Nat) (r:Rn),(runsOf lv (keptOf l))[j]? = some r∧r.t - 1 = p:=by
 obtain ⟨j,r,hj,hs⟩:=seg_of (lv:=lv) hp
 have hr:=List.mem_of_getElem? hj
 refine ⟨j,r,hj,?_⟩
 rcases Classical.em (p = r.t - 1) with h1 | h1
 · exact h1.symm
 · obtain ⟨m1,m2,_,_⟩:=runs_max l lv _ (tail_all l) r hr
   have:=mem_segTo.1 hs
   have:=mem_segTo.1 m2
   obtain ⟨q,hq⟩:=nk_next hp (seg_kept hr m2) (by omega)
   have:=seg_next hr hs h1 hq
   exact (h q hq (by rw [m1 p hs,m1 q this])).elim
/-- The run that follows, in terms of places. -/
theorem nx_some {l:List Nat} {lv:List Int} {i k:Nat} (h:nxOf l lv i = some k):∃ r s:Rn,(runsOf lv (keptOf l))[i]? = some r∧(runsOf lv (keptOf l))[k]? = some s∧begins (l.getD (r.t - 1) 0) = true∧(matchOf l).getD (r.t - 1) 0 = (s.f:Int):=by
 unfold nxOf nextOf at h
 cases hr:(runsOf lv (keptOf l))[i]? with
 | none => rw [hr] at h;cases h
 | some r =>
  rw [hr] at h
  simp only at h
  split at h
  · rename_i hb
    obtain ⟨s,hs,hp⟩:=startOf_some h
    rw [contains_begins] at hb
    exact ⟨r,s,rfl,hs,hb,hp.symm⟩
  · cases h
theorem nx_none {l:List Nat} {lv:List Int} {i:Nat} {r:Rn} (hr:(runsOf lv (keptOf l))[i]? = some r) (h:nxOf l lv i = none) (hb:begins (l.getD (r.t - 1) 0) = true):∀ s∈runsOf lv (keptOf l),(matchOf l).getD (r.t - 1) 0≠(s.f:Int):=by
 intro s hs e
 unfold nxOf nextOf at h
 rw [hr] at h
 simp only at h
 rw [if_pos (by rw [contains_begins];exact hb)] at h
 unfold startOf at h
 rw [List.findIdx?_eq_none_iff] at h
 have:=h s hs
 rw [e] at this
 simp at this
theorem nx_link {l:List Nat} {lv:List Int} {i k:Nat} {r s:Rn} (hr:(runsOf lv (keptOf l))[i]? = some r) (hs:(runsOf lv (keptOf l))[k]? = some s) (h:nxOf l lv i = some k):Link l lv (r.t - 1) s.f:=by
 obtain ⟨r',s',h1,h2,h3,h4⟩:=nx_some h
 rw [hr] at h1
 rw [hs] at h2
 cases h1
 cases h2
 have m1:=List.mem_of_getElem? hr
 have m2:=List.mem_of_getElem? hs
 exact ⟨seg_kept m1 (runs_max l lv _ (tail_all l) r m1).2.1,seg_kept m2 (runs_max l lv _ (tail_all l) s m2).2.2.1,.inr ⟨h3,h4,run_ends m1,run_starts m2⟩⟩
theorem sorted_head {A:List Nat} (h:A.Pairwise (· < ·)) {x:Nat} (hx:x∈A) (hm:∀ y∈A,x≤y):A.head? = some x:=by
 cases A with
 | nil => cases hx
 | cons a A =>
  have h1:=hm a (by simp)
  rcases List.mem_cons.1 hx with rfl | h2
  · rfl
  · have:=(List.pairwise_cons.1 h).1 x h2;omega
theorem sorted_last {A:List Nat} (h:A.Pairwise (· < ·)) {x:Nat} (hx:x∈A) (hm:∀ y∈A,y≤x):A.getLast? = some x:=by
 obtain ⟨i,hi⟩:=List.mem_iff_getElem?.1 hx
 have hl:=(List.getElem?_eq_some_iff.1 hi).1
 rw [List.getLast?_eq_getElem?]
 obtain ⟨y,hy⟩:∃ y,A[A.length - 1]? = some y:=⟨_,List.getElem?_eq_getElem (by omega)⟩
 rcases Nat.lt_or_ge i (A.length - 1) with h1 | h1
 · have:=up_get h hi hy h1
   have:=hm y (List.mem_of_getElem? hy)
   omega
 · rw [show A.length - 1 = i from by omega]
   exact hi
theorem seg_head {l:List Nat} {lv:List Int} {r:Rn} (hr:r∈runsOf lv (keptOf l)):(segOf l r).head? = some r.f:=
 sorted_head (segTo_up l r.f r.t) (runs_max l lv _ (tail_all l) r hr).2.2.1 fun y hy => (mem_segTo.1 hy).2.1
theorem seg_last {l:List Nat} {lv:List Int} {r:Rn} (hr:r∈runsOf lv (keptOf l)):(segOf l r).getLast? = some (r.t - 1):=
 sorted_last (segTo_up l r.f r.t) (runs_max l lv _ (tail_all l) r hr).2.1 fun y hy => by have:=(mem_segTo.1 hy).1;omega
theorem seg_lks {l:List Nat} {lv:List Int} {r:Rn} (hr:r∈runsOf lv (keptOf l)):Lks (Link l lv) (segOf l r):=by
 obtain ⟨m1,_⟩:=runs_max l lv _ (tail_all l) r hr
 refine lks_of _ (segTo_up l r.f r.t) fun x hx y hy hxy hn => ⟨seg_kept hr hx,seg_kept hr hy,.inl ⟨⟨seg_kept hr hx,seg_kept hr hy,hxy,fun z hz h1 h2 => hn z ?_ h1 h2⟩,by rw [m1 x hx,m1 y hy]⟩⟩
 have a:=mem_segTo.1 hx
 have b:=mem_segTo.1 hy
 exact mem_segTo.2 ⟨by omega,by omega,(mem_keptOf.1 hz).2⟩
/-- A chain of runs, to its end. -/
theorem chain_fwd {l:List Nat} {lv:List Int}:∀ (f i:Nat) (r:Rn),(runsOf lv (keptOf l))[i]? = some r→(runsOf lv (keptOf l)).length < f + i→Fwd (Link l lv) (placesOf l (chainOf (nxOf l lv) (runsOf lv (keptOf l)) f i))∧(placesOf l (chainOf (nxOf l lv) (runsOf lv (keptOf l)) f i)).head? = some r.f:=by
 intro f
 induction f with
 | zero => intro i r hr hf;have:=(List.getElem?_eq_some_iff.1 hr).1;omega
 | succ f ih =>
  intro i r hr hf
  have hrm:=List.mem_of_getElem? hr
  rw [chainOf,hr]
  cases hk:nxOf l lv i with
  | none =>
   have e:placesOf l (r :: (match (none:Option Nat) with | none => [] | some k => chainOf (nxOf l lv) (runsOf lv (keptOf l)) f k)) = segOf l r ++ []:=rfl
   rw [e]
   refine ⟨fwd_app (b:=[]) trivial _ (seg_lks hrm) (fun x hx _ q hq => ?_) (fun x y _ hy => by cases hy),by rw [List.append_nil];exact seg_head hrm⟩
   rw [seg_last hrm] at hx
   cases hx
   rcases hq.2.2 with ⟨h1,h2⟩ | ⟨h1,h2,h3,h4⟩
   · exact run_ends hrm q h1 h2
   · obtain ⟨j,s,hj,hsf⟩:=starts_run hq.2.1 h4
     exact nx_none hr hk h1 s (List.mem_of_getElem? hj) (by rw [hsf];exact h2)
  | some k =>
   have hup:=nxOf_up l lv hk
   obtain ⟨s,hs⟩:∃ s,(runsOf lv (keptOf l))[k]? = some s:=⟨_,List.getElem?_eq_getElem hup.2⟩
   obtain ⟨i1,i2⟩:=ih k s hs (by omega)
   have e:placesOf l (r :: (match (some k:Option Nat) with | none => [] | some k => chainOf (nxOf l lv) (runsOf lv (keptOf l)) f k)) = segOf l r ++ placesOf l (chainOf (nxOf l lv) (runsOf lv (keptOf l)) f k):=rfl
   rw [e]
   refine ⟨fwd_app i1 _ (seg_lks hrm) (fun x hx hn => ?_) (fun x y hx hy => ?_),?_⟩
   · rw [hn] at i2;cases i2
   · rw [seg_last hrm] at hx
     rw [i2] at hy
     cases hx
     cases hy
     exact nx_link hr hs hk
   · rw [List.head?_append,seg_head hrm]
     rfl
/-- Nobody goes ahead of a run that is not led. -/
theorem unled_first {l:List Nat} {lv:List Int} {i:Nat} {r:Rn} (hr:(runsOf lv (keptOf l))[i]? = some r) (hu:ledB (nxOf l lv) (runsOf lv (keptOf l)).length i = false):∀ q,¬ Link l lv q r.f:=by
 intro q hq
 have hrm:=List.mem_of_getElem? hr
 rcases hq.2.2 with ⟨h1,h2⟩ | ⟨h1,h2,h3,h4⟩
 · exact run_starts hrm q h1 h2.symm
 · obtain ⟨j,s,hj,hst⟩:=ends_run hq.1 h3
   have hjl:=(List.getElem?_eq_some_iff.1 hj).1
   cases hk:nxOf l lv j with
   | none => exact nx_none hj hk (by rw [hst];exact h1) r hrm (by rw [hst];exact h2)
   | some k =>
    obtain ⟨s',r',e1,e2,e3,e4⟩:=nx_some hk
    rw [hj] at e1
    cases e1
    rw [hst,h2] at e4
    have hff:r'.f = r.f:=by omega
    have:=seg_one e2 hr (runs_max l lv _ (tail_all l) r' (List.mem_of_getElem? e2)).2.2.1 (by rw [hff];exact (runs_max l lv _ (tail_all l) r hrm).2.2.1)
    subst this
    unfold ledB at hu
    rw [List.any_eq_false] at hu
    have:=hu j (List.mem_range.2 hjl)
    rw [hk] at this
    simp at this
/-- Places of a sequence that is led by none. -/
theorem seq_whole {l:List Nat} {lv:List Int} {i:Nat} {r:Rn} (hr:(runsOf lv (keptOf l))[i]? = some r) (hu:ledB (nxOf l lv) (runsOf lv (keptOf l)).length i = false):
 Whole (Link l lv) (placesOf l (chainOf (nxOf l lv) (runsOf lv (keptOf l)) ((runsOf lv (keptOf l)).length + 1) i))∧(placesOf l (chainOf (nxOf l lv) (runsOf lv (keptOf l)) ((runsOf lv (keptOf l)).length + 1) i)).head? = some r.f:=by
 obtain ⟨h1,h2⟩:=chain_fwd ((runsOf lv (keptOf l)).length + 1) i r hr (by omega)
 refine ⟨⟨h1,fun x hx q => ?_⟩,h2⟩
 rw [h2] at hx
 cases hx
 exact unled_first hr hu q
/-- A run that is reached from another. -/
inductive Reach (nx:Nat→Option Nat):Nat→Nat→Prop
 | here (i:Nat):Reach nx i i
 | step {i k j:Nat} (h:nx i = some k) (r:Reach nx k j):Reach nx i j
theorem Reach.snoc {nx:Nat→Option Nat} {i j k:Nat} (h:Reach nx i j) (hk:nx j = some k):Reach nx i k:=by
 induction h with
 | here i => exact .step hk (.here k)
 | step h _ ih => exact .step h (ih hk)
theorem reach_mem {nx:Nat→Option Nat} {R:List Rn} (hnx:∀ i k,nx i = some k→i < k∧k < R.length):∀ (f i j:Nat) (s:Rn),Reach nx i j→R[j]? = some s→i < R.length→R.length < f + i→s∈chainOf nx R f i:=by
 intro f
 induction f with
 | zero => intro i j s _ _ h1 h2;omega
 | succ f ih =>
  intro i j s hr hs h1 h2
  rw [chainOf,List.getElem?_eq_getElem h1]
  cases hr with
  | here => rw [List.getElem?_eq_getElem h1] at hs;cases hs;exact List.mem_cons_self
  | step h r =>
   rename_i k
   have:=hnx i k h
   refine List.mem_cons_of_mem _ ?_
   rw [h]
   exact ih k j s r hs this.2 (by omega)
theorem reach_unled {l:List Nat} {lv:List Int}:∀ (n j:Nat),j≤n→j < (runsOf lv (keptOf l)).length→∃ i,i < (runsOf lv (keptOf l)).length∧ledB (nxOf l lv) (runsOf lv (keptOf l)).length i = false∧Reach (nxOf l lv) i j:=by
 intro n
 induction n with
 | zero =>
  intro j hj hl
  refine ⟨j,hl,?_,.here j⟩
  unfold ledB
  rw [List.any_eq_false]
  intro i hi hn
  have:=nxOf_up l lv (i:=i) (k:=j) (by simpa using hn)
  omega
 | succ n ih =>
  intro j hj hl
  cases hu:ledB (nxOf l lv) (runsOf lv (keptOf l)).length j with
  | false => exact ⟨j,hl,hu,.here j⟩
  | true =>
   unfold ledB at hu
   rw [List.any_eq_true] at hu
   obtain ⟨i,hi,hn⟩:=hu
   have hn':nxOf l lv i = some j:=by simpa using hn
   have hup:=nxOf_up l lv hn'
   obtain ⟨u,h1,h2,h3⟩:=ih i (by omega) (by omega)
   exact ⟨u,h1,h2,h3.snoc hn'⟩
/-- The sequence of places. -/
def sqP (l nw:List Nat) (lv:List Int) (base:Nat) (ps:List Nat):Sq:=sqOf (seqT l nw lv base) (lv.getD (ps.getD 0 0) 0).toNat ps
theorem seqAt_sqP {l nw:List Nat} {lv:List Int} {base i:Nat} {r:Rn} (hr:(runsOf lv (keptOf l))[i]? = some r):seqAt l nw lv base i = sqP l nw lv base (placesOf l (chainOf (nxOf l lv) (runsOf lv (keptOf l)) ((runsOf lv (keptOf l)).length + 1) i)):=by
 obtain ⟨_,h2⟩:=chain_fwd ((runsOf lv (keptOf l)).length + 1) i r hr (by omega)
 have h3:=(runs_front lv _ _ (Nat.le_refl _) r (List.mem_of_getElem? hr)).2
 unfold seqAt sqP
 rw [getD_get hr,h3]
 congr 2
 rw [List.getD_eq_getElem?_getD (l:=placesOf _ _),← List.head?_eq_getElem?,h2]
 rfl
/-- **All sequences are whole ones, and each kept place stands in one.** -/
theorem seqs_whole {l nw:List Nat} {lv:List Int} {base:Nat} {s:Sq} (hs:s∈seqsOf l nw lv base):Whole (Link l lv) s.ps∧s = sqP l nw lv base s.ps∧0 < s.ps.length:=by
 unfold seqsOf seqsTo at hs
 obtain ⟨i,hi,rfl⟩:=List.mem_map.1 hs
 rw [List.mem_filter,List.mem_range] at hi
 obtain ⟨r,hr⟩:∃ r,(runsOf lv (keptOf l))[i]? = some r:=⟨_,List.getElem?_eq_getElem hi.1⟩
 obtain ⟨h1,h2⟩:=seq_whole hr (by simpa using hi.2)
 rw [seqAt_sqP hr]
 refine ⟨h1,rfl,?_⟩
 show 0 < (placesOf l _).length
 cases hp:placesOf l (chainOf (nxOf l lv) (runsOf lv (keptOf l)) ((runsOf lv (keptOf l)).length + 1) i) with
 | nil => rw [hp] at h2;cases h2
 | cons x t => simp
theorem seqs_cover {l nw:List Nat} {lv:List Int} {base p:Nat} (hp:p∈keptOf l):∃ s∈seqsOf l nw lv base,p∈s.ps:=by
 obtain ⟨j,r,hj,hs⟩:=seg_of (lv:=lv) hp
 have hjl:=(List.getElem?_eq_some_iff.1 hj).1
 obtain ⟨i,h1,h2,h3⟩:=reach_unled (l:=l) (lv:=lv) j j (Nat.le_refl _) hjl
 obtain ⟨u,hu⟩:∃ u,(runsOf lv (keptOf l))[i]? = some u:=⟨_,List.getElem?_eq_getElem h1⟩
 refine ⟨seqAt l nw lv base i,?_,?_⟩
 · unfold seqsOf seqsTo
   exact List.mem_map.2 ⟨i,by rw [List.mem_filter,List.mem_range];exact ⟨h1,by rw [h2];rfl⟩,rfl⟩
 · rw [seqAt_sqP hu]
   show p∈placesOf l _
   unfold placesOf
   exact List.mem_flatMap.2 ⟨r,reach_mem (fun i k h => nxOf_up l lv h) _ i j r h3 hj h1 (by omega),hs⟩
end Go.Proofs.YtjnidopbdjbbgaaGreat
end
