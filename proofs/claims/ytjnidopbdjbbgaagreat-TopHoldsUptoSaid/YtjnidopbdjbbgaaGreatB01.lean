/-
  A range over a function whose iterator writes memory of its own between two rounds: the caller's invariant need abide just what the iterator does, and the body keeps the iterator's own. Over any program.
-/
import Derived.RangeFuncLeaves
import Derived.RangeFuncRecord
import Derived.RangeFuncOwn
import Derived.RangeFuncFrom
import Derived.RangeFuncCalls
section
namespace Go.Proofs.YtjnidopbdjbbgaaGreat
open Go.RowKit
/-- How the body of a round is left: it goes on. -/
def wentOn (R:World→Prop):Exit→Act→World→Prop
 | .normal,_,W => R W
 | _,_,_ => False
/-- The contract of an iterator that hands the elements of 'xs': 'T pre W': its own memory when 'pre' have been handed; 'Adm': what it does to memory between two rounds. -/
def SeqT {α:Type} (F:Fence) (n:Nat) (P:Program) (gf:Nat) (lb:Array Value) (encs:α→Array Value) (T:List α→World→Prop) (Adm:World→World→Prop) (xs:List α):Prop:=
 ∀ (l:Nat) (J:List α→World→Prop) (W:World),(∀ pre A B,J pre A→Adm A B→J pre B) →
  (∀ pre x V,pre ++ [x] <+: xs→J pre V→T (pre ++ [x]) V→YieldAt F (n - 1) P l (encs x) V fun e V' => e = .returned (.bool true)∧J (pre ++ [x]) V'∧T (pre ++ [x]) V') →
  J [] W→T [] W→CallsIn F n P gf (#[.func (.yield l) #[] #[]] ++ lb) W fun e W' => (∃ v,e = .returned v)∧J xs W'∧T xs W'
variable {F:Fence} {n:Nat} {P:Program}
theorem wpIn_rangeT {α:Type} {g:Operand} {ps:Array Tmp} {assign body:Code} {Q:Exit→Act→World→Prop} {a:Act} {w:World}
 (hro:F.round = none) (h1:1≤n) {gf:Nat} {lb:Array Value} (hg:a.eval g = .func (.func gf) #[] lb) (hFg:F.fn gf) (eg:∀ args w,(callFunc gf args).run P w = .ok (.enter gf args) w)
 {encs:α→Array Value} (hps:∀ x,(encs x).size = ps.size) {T:List α→World→Prop} {Adm:World→World→Prop} {xs:List α} (hseq:SeqT F (n - 1) P gf lb encs T Adm xs)
 (I:List α→World→Prop) (hAdm:∀ A B,Adm A B→KeepsOthers A B) (hIA:∀ pre A B,I pre A→Adm A B→I pre B)
 (hIo:OwnFrom w.heap.size I) (hTo:OwnFrom w.heap.size T) (h0:I [] w) (t0:T [] w)
 (hround:∀ (l:Nat) (pre:List α) (x:α) (W:World),I pre W→T (pre ++ [x]) W→pre ++ [x] <+: xs →
  assign.wpIn (F.inRound l) (n - 1 - 1) P (Exit.then (fun a1 W1 => KeepsOthers W W1∧∀ W2,W1.grownBy W2 (some l)→w.heap.size≤l→(∃ o,W1.heap[l]? = some o∧o.isCells = false) →
   body.wpIn (F.inRound l) (n - 1 - 1) P (wentOn fun W' => KeepsOthers W2 W'∧I (pre ++ [x]) W'∧T (pre ++ [x]) W') a1 W2) (fun _ _ _ => False))
   { tmps:=(ps.zip (encs x)).foldl (fun t (p,v) => t.setIfInBounds p v) a.tmps,defers:=[] } W)
 (hdone:∀ (D:Nat) (W:World),w.heap.size≤D→I xs W→T xs W→W.heap[D]? = some (.deferred (some []))→Q .normal { a with defers:={ target:=.collected D,args:=#[] } :: a.defers } W):
 (Code.rangeFunc g ps assign body).wpIn F n P Q a w:=by
 refine wpIn_rangeFunc fun fn hfn => ?_
 rw [hro]
 obtain ⟨rec,hrec⟩:∃ rec:LoopState→Loop,rec = fun st => { state:=st,pending:=none,fn,tmps:=a.tmps,params:=ps,assign,body,defers:=w.heap.size }:=⟨_,rfl⟩
 -- the blocks that the loop lays
 have kD:((w.alloc (.deferred (some []))).alloc (.loop (rec .ready))).heap[w.heap.size]? = some (.deferred (some [])):=(Below.heap_alloc _ _ _ (by simp)).trans (World.alloc_heap_new w _)
 have kL:((w.alloc (.deferred (some []))).alloc (.loop (rec .ready))).heap[w.heap.size + 1]? = some (.loop (rec .ready)):=by
  have:=World.alloc_heap_new (w.alloc (.deferred (some []))) (.loop (rec .ready))
  rwa [World.size_alloc] at this
 have grow:∀ {S:List α→World→Prop},OwnFrom w.heap.size S→S [] w→S [] ((w.alloc (.deferred (some []))).alloc (.loop (rec .ready))):=fun hS hs => hS.alloc _ (hS.alloc _ hs)
 have hent:(Instr.enterLoop fn a.tmps ps assign body none).run P w = .ok (w.heap.size + 1,[{ target:=.collected w.heap.size,args:=#[] }]) ((w.alloc (.deferred (some []))).alloc (.loop (rec .ready))):=by
  rw [run_enterLoop_outer,hrec]
 refine ⟨w.heap.size + 1,[{ target:=.collected w.heap.size,args:=#[] }],(w.alloc (.deferred (some []))).alloc (.loop (rec .ready)),{ target:=.fn (.func gf) lb,args:=#[.func (.yield (w.heap.size + 1)) #[] #[]] },(w.alloc (.deferred (some []))).alloc (.loop (rec .ready)),gf,
  #[.func (.yield (w.heap.size + 1)) #[] #[]] ++ lb,(w.alloc (.deferred (some []))).alloc (.loop (rec .ready)),hent,?_,?_,?_,fun _ => h1,?_⟩
 · simp only [resolve,hg]
   simp [go_sem]
 · intro f' hf'
   simp [Target.leads] at hf'
   subst hf'
   exact hFg
 · simp [invoke,go_sem,eg]
 -- what holds between two rounds, with the loop's own two blocks
 have hrun:=hseq (w.heap.size + 1) (fun pre W => I pre W∧W.heap[w.heap.size + 1]? = some (.loop (rec .ready))∧W.heap[w.heap.size]? = some (.deferred (some [])))
  ((w.alloc (.deferred (some []))).alloc (.loop (rec .ready)))
  (fun pre A B hJ hAB => ⟨hIA pre A B hJ.1 hAB,(hAdm A B hAB).same _ _ hJ.2.1 rfl,(hAdm A B hAB).same _ _ hJ.2.2 rfl⟩)
  (fun pre x V hpx hJ hT => by
   obtain ⟨hI,hl,hd⟩:=hJ
   have hy:=run_yield (P:=P) (args:=encs x) hl (by rw [hrec];exact hps x)
   rw [hrec] at hy
   refine ⟨fn,_,assign,body,hy,roundIn_of_wpIn hfn (wpIn_mono (hround _ pre x V hI hT hpx) ?_)⟩
   intro e0 a1 V1 hp0
   cases e0 with
   | normal =>
    obtain ⟨hk1,hb1⟩:=hp0
    have hl1:=hk1.same _ _ hl rfl
    refine ⟨_,run_beginRound hl1 (by rw [hrec]),?_⟩
    have hl2:(V1.putObj (w.heap.size + 1) (.loop { rec .ready with state:=.busy })).heap[w.heap.size + 1]? = some (.loop { rec .ready with state:=.busy }):=World.putObj_heap_same (Array.getElem?_eq_some_iff.1 hl1).1
    have hd2:(V1.putObj (w.heap.size + 1) (.loop { rec .ready with state:=.busy })).heap[w.heap.size]? = some (.deferred (some [])):=(World.putObj_heap_other (by omega)).trans (hk1.same _ _ hd rfl)
    refine wpIn_mono (hb1 _ (grownBy_putObj' _ _ _) (by omega) ⟨_,hl1,rfl⟩) ?_
    intro e a3 W3 hp
    cases e with
    | normal =>
     obtain ⟨hk,hI3,hT3⟩:=hp
     have hl3:=hk.same _ _ hl2 rfl
     have hend:=run_endRound (P:=P) none hl3
     refine ⟨_,_,hend,rfl,⟨hIo.putObj _ hI3 (by omega) hl3 rfl,?_,(World.putObj_heap_other (by omega)).trans (hk.same _ _ hd2 rfl)⟩,hTo.putObj _ hT3 (by omega) hl3 rfl⟩
     rw [World.putObj_heap_same (Array.getElem?_eq_some_iff.1 hl3).1,hrec]
     rfl
    | ret => exact False.elim hp
    | exit id => exact False.elim hp
    | goto t => exact False.elim hp
    | panic ch => exact False.elim hp
    | outgrown => exact False.elim hp
   | ret => exact False.elim hp0
   | exit id => exact False.elim hp0
   | goto t => exact False.elim hp0
   | panic ch => exact False.elim hp0
   | outgrown => exact False.elim hp0)
  ⟨grow hIo h0,kL,kD⟩ (grow hTo t0)
 refine hrun.mono ?_
 rintro e W2 ⟨⟨v,rfl⟩,⟨hI,hl,hd⟩,hT⟩
 subst hrec
 exact ⟨none,_,run_endLoop (P:=P) hl (by simp),hdone _ _ (Nat.le_refl _) (hIo.putObj _ hI (by omega) hl rfl) (hTo.putObj _ hT (by omega) hl rfl) ((World.putObj_heap_other (by omega)).trans hd)⟩
end Go.Proofs.YtjnidopbdjbbgaaGreat
end
/-
  A range over a function whose iterator makes memory and reads it between two rounds, and writes none that is older: what the body leaves as it was is told by the blocks that are the caller's. Over any program.
-/
section
namespace Go.Proofs.YtjnidopbdjbbgaaGreat
open Go.RowKit
/-- What a round does: whatever holds cells and is not the caller's stays; the caller's blocks grow by new ones alone. -/
structure Framed (Cb:World→Nat→Prop) (A B:World):Prop where
 size:A.heap.size≤B.heap.size
 keeps:∀ k o,A.heap[k]? = some o→o.isCells = true→¬ Cb A k→B.heap[k]? = some o
 grows:∀ k,Cb B k→Cb A k∨A.heap.size≤k
/-- The contract of an iterator that hands the elements of 'xs' and writes no memory but new. -/
def SeqC {α:Type} (F:Fence) (n:Nat) (P:Program) (gf:Nat) (lb:Array Value) (encs:α→Array Value) (Cb:World→Nat→Prop) (S:World→Prop) (xs:List α):Prop:=
 ∀ (l:Nat) (J:List α→World→Prop) (W:World),(∀ pre A B,J pre A→Below A.heap.size A B→J pre B∧∀ k,Cb B k→Cb A k)→(∀ pre A,J pre A→∀ k,Cb A k→k < A.heap.size) →
  (∀ pre x V,pre ++ [x] <+: xs→J pre V→YieldAt F (n - 1) P l (encs x) V fun e V' => e = .returned (.bool true)∧J (pre ++ [x]) V'∧Framed Cb V V') →
  J [] W→S W→CallsIn F n P gf (#[.func (.yield l) #[] #[]] ++ lb) W fun e W' => (∃ v,e = .returned v)∧J xs W'
variable {F:Fence} {n:Nat} {P:Program}
theorem wpIn_rangeC {α:Type} {g:Operand} {ps:Array Tmp} {assign body:Code} {Q:Exit→Act→World→Prop} {a:Act} {w:World}
 (hro:F.round = none) (h1:1≤n) {gf:Nat} {lb:Array Value} (hg:a.eval g = .func (.func gf) #[] lb) (hFg:F.fn gf) (eg:∀ args w,(callFunc gf args).run P w = .ok (.enter gf args) w)
 {encs:α→Array Value} (hps:∀ x,(encs x).size = ps.size) {Cb:World→Nat→Prop} {S:World→Prop} {xs:List α} (hseq:SeqC F (n - 1) P gf lb encs Cb S xs)
 (I:List α→World→Prop) (hIA:∀ pre A B,I pre A→Below A.heap.size A B→I pre B∧∀ k,Cb B k→Cb A k) (hCl:∀ pre A,I pre A→∀ k,Cb A k→k < A.heap.size)
 (hFo:∀ (A B:World) (l:Nat) (o o':Obj),Framed Cb A B→B.heap[l]? = some o→o.isCells = false→o'.isCells = false→Framed Cb A (B.putObj l o'))
 (hIo:OwnFrom w.heap.size I) (h0:I [] w) (hS:∀ B,Below w.heap.size w B→S B)
 (hround:∀ (l:Nat) (pre:List α) (x:α) (W:World),I pre W→pre ++ [x] <+: xs →
  assign.wpIn (F.inRound l) (n - 1 - 1) P (Exit.then (fun a1 W1 => KeepsOthers W W1∧∀ W2,W1.grownBy W2 (some l)→w.heap.size≤l→(∃ o,W1.heap[l]? = some o∧o.isCells = false) →
   body.wpIn (F.inRound l) (n - 1 - 1) P (wentOn fun W' => KeepsOthers W2 W'∧I (pre ++ [x]) W'∧Framed Cb W W') a1 W2) (fun _ _ _ => False))
   { tmps:=(ps.zip (encs x)).foldl (fun t (p,v) => t.setIfInBounds p v) a.tmps,defers:=[] } W)
 (hdone:∀ (D:Nat) (W:World),w.heap.size≤D→I xs W→W.heap[D]? = some (.deferred (some []))→Q .normal { a with defers:={ target:=.collected D,args:=#[] } :: a.defers } W):
 (Code.rangeFunc g ps assign body).wpIn F n P Q a w:=by
 refine wpIn_rangeFunc fun fn hfn => ?_
 rw [hro]
 obtain ⟨rec,hrec⟩:∃ rec:LoopState→Loop,rec = fun st => { state:=st,pending:=none,fn,tmps:=a.tmps,params:=ps,assign,body,defers:=w.heap.size }:=⟨_,rfl⟩
 -- the blocks that the loop lays
 have kD:((w.alloc (.deferred (some []))).alloc (.loop (rec .ready))).heap[w.heap.size]? = some (.deferred (some [])):=(Below.heap_alloc _ _ _ (by simp)).trans (World.alloc_heap_new w _)
 have kL:((w.alloc (.deferred (some []))).alloc (.loop (rec .ready))).heap[w.heap.size + 1]? = some (.loop (rec .ready)):=by
  have:=World.alloc_heap_new (w.alloc (.deferred (some []))) (.loop (rec .ready))
  rwa [World.size_alloc] at this
 have hbel:Below w.heap.size w ((w.alloc (.deferred (some []))).alloc (.loop (rec .ready))):=((Below.refl _ _).alloc (Nat.le_refl _) _).alloc (by simp) _
 have hent:(Instr.enterLoop fn a.tmps ps assign body none).run P w = .ok (w.heap.size + 1,[{ target:=.collected w.heap.size,args:=#[] }]) ((w.alloc (.deferred (some []))).alloc (.loop (rec .ready))):=by
  rw [run_enterLoop_outer,hrec]
 refine ⟨w.heap.size + 1,[{ target:=.collected w.heap.size,args:=#[] }],(w.alloc (.deferred (some []))).alloc (.loop (rec .ready)),{ target:=.fn (.func gf) lb,args:=#[.func (.yield (w.heap.size + 1)) #[] #[]] },(w.alloc (.deferred (some []))).alloc (.loop (rec .ready)),gf,
  #[.func (.yield (w.heap.size + 1)) #[] #[]] ++ lb,(w.alloc (.deferred (some []))).alloc (.loop (rec .ready)),hent,?_,?_,?_,fun _ => h1,?_⟩
 · simp only [resolve,hg]
   simp [go_sem]
 · intro f' hf'
   simp [Target.leads] at hf'
   subst hf'
   exact hFg
 · simp [invoke,go_sem,eg]
 -- what holds between two rounds, with the loop's own two blocks
 have hrun:=hseq (w.heap.size + 1) (fun pre W => I pre W∧W.heap[w.heap.size + 1]? = some (.loop (rec .ready))∧W.heap[w.heap.size]? = some (.deferred (some [])))
  ((w.alloc (.deferred (some []))).alloc (.loop (rec .ready)))
  (fun pre A B hJ hAB => ⟨⟨(hIA pre A B hJ.1 hAB).1,(hAB.block _ (Array.getElem?_eq_some_iff.1 hJ.2.1).1).trans hJ.2.1,(hAB.block _ (Array.getElem?_eq_some_iff.1 hJ.2.2).1).trans hJ.2.2⟩,(hIA pre A B hJ.1 hAB).2⟩)
  (fun pre A hJ => hCl pre A hJ.1)
  (fun pre x V hpx hJ => by
   obtain ⟨hI,hl,hd⟩:=hJ
   have hy:=run_yield (P:=P) (args:=encs x) hl (by rw [hrec];exact hps x)
   rw [hrec] at hy
   refine ⟨fn,_,assign,body,hy,roundIn_of_wpIn hfn (wpIn_mono (hround _ pre x V hI hpx) ?_)⟩
   intro e0 a1 V1 hp0
   cases e0 with
   | normal =>
    obtain ⟨hk1,hb1⟩:=hp0
    have hl1:=hk1.same _ _ hl rfl
    refine ⟨_,run_beginRound hl1 (by rw [hrec]),?_⟩
    have hl2:(V1.putObj (w.heap.size + 1) (.loop { rec .ready with state:=.busy })).heap[w.heap.size + 1]? = some (.loop { rec .ready with state:=.busy }):=World.putObj_heap_same (Array.getElem?_eq_some_iff.1 hl1).1
    have hd2:(V1.putObj (w.heap.size + 1) (.loop { rec .ready with state:=.busy })).heap[w.heap.size]? = some (.deferred (some [])):=(World.putObj_heap_other (by omega)).trans (hk1.same _ _ hd rfl)
    refine wpIn_mono (hb1 _ (grownBy_putObj' _ _ _) (by omega) ⟨_,hl1,rfl⟩) ?_
    intro e a3 W3 hp
    cases e with
    | normal =>
     obtain ⟨hk,hI3,hF3⟩:=hp
     have hl3:=hk.same _ _ hl2 rfl
     have hend:=run_endRound (P:=P) none hl3
     refine ⟨_,_,hend,rfl,⟨hIo.putObj _ hI3 (by omega) hl3 rfl,?_,(World.putObj_heap_other (by omega)).trans (hk.same _ _ hd2 rfl)⟩,hFo _ _ _ _ _ hF3 hl3 rfl rfl⟩
     rw [World.putObj_heap_same (Array.getElem?_eq_some_iff.1 hl3).1,hrec]
     rfl
    | ret => exact False.elim hp
    | exit id => exact False.elim hp
    | goto t => exact False.elim hp
    | panic ch => exact False.elim hp
    | outgrown => exact False.elim hp
   | ret => exact False.elim hp0
   | exit id => exact False.elim hp0
   | goto t => exact False.elim hp0
   | panic ch => exact False.elim hp0
   | outgrown => exact False.elim hp0)
  ⟨hIo.alloc _ (hIo.alloc _ h0),kL,kD⟩ (hS _ hbel)
 refine hrun.mono ?_
 rintro e W2 ⟨⟨v,rfl⟩,hI,hl,hd⟩
 subst hrec
 exact ⟨none,_,run_endLoop (P:=P) hl (by simp),hdone _ _ (Nat.le_refl _) (hIo.putObj _ hI (by omega) hl rfl) ((World.putObj_heap_other (by omega)).trans hd)⟩
end Go.Proofs.YtjnidopbdjbbgaaGreat
end
/-
  A range over a function whose first round ends the function (return): over an iterator that hands its first element and stops. Over any program.
-/
section
namespace Go.Proofs.YtjnidopbdjbbgaaGreat
open Go.RowKit
/-- The contract of an iterator at its first element, if it is told to stop there. -/
def SeqR (F:Fence) (n:Nat) (P:Program) (gf:Nat) (lb:Array Value) (enc0:Array Value) (S:World→Prop):Prop:=
 ∀ (l:Nat) (Jx:World→Prop) (W:World),S W →
  (∀ V,Below W.heap.size W V→YieldAt F (n - 1) P l enc0 V fun e V' => e = .returned (.bool false)∧Jx V') →
  CallsIn F n P gf (#[.func (.yield l) #[] #[]] ++ lb) W fun e W' => (∃ v,e = .returned v)∧Jx W'
/-- A round that ends by return. -/
def wentBack (R:World→Prop):Exit→Act→World→Prop
 | .ret,_,w => R w
 | _,_,_ => False
variable {F:Fence} {n:Nat} {P:Program}
theorem wpIn_rangeR {g:Operand} {ps:Array Tmp} {assign body:Code} {Q:Exit→Act→World→Prop} {a:Act} {w:World}
 (hro:F.round = none) (h1:1≤n) {gf:Nat} {lb:Array Value} (hg:a.eval g = .func (.func gf) #[] lb) (hFg:F.fn gf) (eg:∀ args w,(callFunc gf args).run P w = .ok (.enter gf args) w)
 {enc0:Array Value} (hps:enc0.size = ps.size) {S:World→Prop} (hseq:SeqR F (n - 1) P gf lb enc0 S)
 (I:World→Prop) (hIo:OwnFrom w.heap.size (fun (_:Unit) W => I W)) (hS:∀ B,Below w.heap.size w B→S B)
 (hround:∀ (l:Nat) (W:World),Below w.heap.size w W →
  assign.wpIn (F.inRound l) (n - 1 - 1) P (Exit.then (fun a1 W1 => KeepsOthers W W1∧∀ W2,W1.grownBy W2 (some l)→w.heap.size≤l→(∃ o,W1.heap[l]? = some o∧o.isCells = false) →
   body.wpIn (F.inRound l) (n - 1 - 1) P (wentBack fun W' => KeepsOthers W2 W'∧I W') a1 W2) (fun _ _ _ => False))
   { tmps:=(ps.zip enc0).foldl (fun t (p,v) => t.setIfInBounds p v) a.tmps,defers:=[] } W)
 (hstop:∀ (D:Nat) (W:World),w.heap.size≤D→I W→W.heap[D]? = some (.deferred (some []))→Code.ret.wpIn F n P Q { a with defers:={ target:=.collected D,args:=#[] } :: a.defers } W):
 (Code.rangeFunc g ps assign body).wpIn F n P Q a w:=by
 refine wpIn_rangeFunc fun fn hfn => ?_
 rw [hro]
 obtain ⟨rec,hrec⟩:∃ rec:LoopState→Option Code→Loop,rec = fun st pe => { state:=st,pending:=pe,fn,tmps:=a.tmps,params:=ps,assign,body,defers:=w.heap.size }:=⟨_,rfl⟩
 have kD:((w.alloc (.deferred (some []))).alloc (.loop (rec .ready none))).heap[w.heap.size]? = some (.deferred (some [])):=(Below.heap_alloc _ _ _ (by simp)).trans (World.alloc_heap_new w _)
 have kL:((w.alloc (.deferred (some []))).alloc (.loop (rec .ready none))).heap[w.heap.size + 1]? = some (.loop (rec .ready none)):=by
  have:=World.alloc_heap_new (w.alloc (.deferred (some []))) (.loop (rec .ready none))
  rwa [World.size_alloc] at this
 have hbel:Below w.heap.size w ((w.alloc (.deferred (some []))).alloc (.loop (rec .ready none))):=((Below.refl _ _).alloc (Nat.le_refl _) _).alloc (by simp) _
 have hent:(Instr.enterLoop fn a.tmps ps assign body none).run P w = .ok (w.heap.size + 1,[{ target:=.collected w.heap.size,args:=#[] }]) ((w.alloc (.deferred (some []))).alloc (.loop (rec .ready none))):=by
  rw [run_enterLoop_outer,hrec]
 refine ⟨w.heap.size + 1,[{ target:=.collected w.heap.size,args:=#[] }],(w.alloc (.deferred (some []))).alloc (.loop (rec .ready none)),{ target:=.fn (.func gf) lb,args:=#[.func (.yield (w.heap.size + 1)) #[] #[]] },(w.alloc (.deferred (some []))).alloc (.loop (rec .ready none)),gf,
  #[.func (.yield (w.heap.size + 1)) #[] #[]] ++ lb,(w.alloc (.deferred (some []))).alloc (.loop (rec .ready none)),hent,?_,?_,?_,fun _ => h1,?_⟩
 · simp only [resolve,hg]
   simp [go_sem]
 · intro f' hf'
   simp [Target.leads] at hf'
   subst hf'
   exact hFg
 · simp [invoke,go_sem,eg]
 have hrun:=hseq (w.heap.size + 1) (fun W => I W∧W.heap[w.heap.size + 1]? = some (.loop (rec .done (some .ret)))∧W.heap[w.heap.size]? = some (.deferred (some [])))
  ((w.alloc (.deferred (some []))).alloc (.loop (rec .ready none))) (hS _ hbel)
  (fun V hV => by
   have hbV:=hbel.trans (hV.mono hbel.size)
   have hl:=(hV.block _ (Array.getElem?_eq_some_iff.1 kL).1).trans kL
   have hd:=(hV.block _ (Array.getElem?_eq_some_iff.1 kD).1).trans kD
   have hy:=run_yield (P:=P) (args:=enc0) hl (by rw [hrec];exact hps)
   rw [hrec] at hy
   refine ⟨fn,_,assign,body,hy,roundIn_of_wpIn hfn (wpIn_mono (hround _ V hbV) ?_)⟩
   intro e0 a1 V1 hp0
   cases e0 with
   | normal =>
    obtain ⟨hk1,hb1⟩:=hp0
    have hl1:=hk1.same _ _ hl rfl
    refine ⟨_,run_beginRound hl1 (by rw [hrec]),?_⟩
    have hl2:(V1.putObj (w.heap.size + 1) (.loop { rec .ready none with state:=.busy })).heap[w.heap.size + 1]? = some (.loop { rec .ready none with state:=.busy }):=World.putObj_heap_same (Array.getElem?_eq_some_iff.1 hl1).1
    have hd2:(V1.putObj (w.heap.size + 1) (.loop { rec .ready none with state:=.busy })).heap[w.heap.size]? = some (.deferred (some [])):=(World.putObj_heap_other (by omega)).trans (hk1.same _ _ hd rfl)
    refine wpIn_mono (hb1 _ (grownBy_putObj' _ _ _) (by omega) ⟨_,hl1,rfl⟩) ?_
    intro e a3 W3 hp
    cases e with
    | ret =>
     obtain ⟨hk,hI3⟩:=hp
     have hl3:=hk.same _ _ hl2 rfl
     have hend:=run_endRound (P:=P) (some .ret) hl3
     refine ⟨_,_,hend,rfl,hIo.putObj (s:=()) _ hI3 (by omega) hl3 rfl,?_,(World.putObj_heap_other (by omega)).trans (hk.same _ _ hd2 rfl)⟩
     rw [World.putObj_heap_same (Array.getElem?_eq_some_iff.1 hl3).1,hrec]
     rfl
    | normal => exact False.elim hp
    | exit id => exact False.elim hp
    | goto t => exact False.elim hp
    | panic ch => exact False.elim hp
    | outgrown => exact False.elim hp
   | ret => exact False.elim hp0
   | exit id => exact False.elim hp0
   | goto t => exact False.elim hp0
   | panic ch => exact False.elim hp0
   | outgrown => exact False.elim hp0)
 refine hrun.mono ?_
 rintro e W2 ⟨⟨v,rfl⟩,hI,hl,hd⟩
 subst hrec
 exact ⟨some .ret,_,run_endLoop (P:=P) hl (by simp),hstop _ _ (Nat.le_refl _) (hIo.putObj (s:=()) _ hI (by omega) hl rfl) ((World.putObj_heap_other (by omega)).trans hd)⟩
end Go.Proofs.YtjnidopbdjbbgaaGreat
end
