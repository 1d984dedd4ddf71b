/-
  The levels of classes (Classes): walked.
-/
import Derived.Test.YtjnidopbdjbbgaaGreatB25
import Derived.Test.YtjnidopbdjbbgaaGreatB04
import Derived.Test.YtjnidopbdjbbgaaGreatB00
import Derived.Test.YtjnidopbdjbbgaaGreatB23
import Derived.Test.YtjnidopbdjbbgaaGreatB02
import Derived.Test.YtjnidopbdjbbgaaGreatB09
import Derived.BigQuiet
section
namespace Go.Proofs.YtjnidopbdjbbgaaGreat
open Go.RowKit
set_option linter.unusedVariables false
def mayB (b:Int):Bool:=b == -1 || b == 0 || b == 1
theorem mayB_iff (b:Int):mayB b = true ↔ b = -1∨b = 0∨b = 1:=by unfold mayB;simp [or_assoc]
set_option maxHeartbeats 2000000 in
theorem may_any (w:World) (b:Int):Calls Tryz.prog 20 #[.int .i8 b] w fun e w' => e = .returned (.bool (mayB b))∧w = w':=by
 rcases (show b = -1∨b = 0∨b = 1∨(b≠-1∧b≠0∧b≠1) by omega) with rfl | rfl | rfl | ⟨h1,h2,h3⟩
 · go_enter Tryz.func20,Tryz.ntmps20
   go_wp2
   go_ret
   exact ⟨rfl,rfl⟩
 · go_enter Tryz.func20,Tryz.ntmps20
   go_wp2
   go_ret
   exact ⟨rfl,rfl⟩
 · go_enter Tryz.func20,Tryz.ntmps20
   go_wp2
   go_ret
   exact ⟨rfl,rfl⟩
 · have e:mayB b = false:=by rw [Bool.eq_false_iff,ne_eq,mayB_iff];omega
   rw [e]
   have e1:(b == -1) = false:=by simpa using h1
   have e2:(b == 0) = false:=by simpa using h2
   have e3:(b == 1) = false:=by simpa using h3
   go_enter Tryz.func20,Tryz.ntmps20
   go_wp2
   go_ret
   exact ⟨rfl,rfl⟩
/-- Does B stand at the end alone? -/
def lastB (l:List Nat):Bool:=(List.range l.length).all fun i => l.getD i 0 != 11 || i + 1 == l.length
theorem lastB_iff (l:List Nat):lastB l = true ↔ BLast l:=by
 unfold lastB BLast
 rw [List.all_eq_true]
 constructor
 · intro h i hi
   have hl:=(List.getElem?_eq_some_iff.1 hi).1
   have:=h i (List.mem_range.2 hl)
   rw [List.getD_eq_getElem?_getD,hi] at this
   simpa using this
 · intro h i hi
   have hl:=List.mem_range.1 hi
   rw [List.getD_eq_getElem?_getD,List.getElem?_eq_getElem hl]
   by_cases h1:l[i] = 11
   · have:=h i (by rw [List.getElem?_eq_getElem hl,h1])
     simp [this]
   · simp [h1]
set_option maxRecDepth 20000 in
set_option maxHeartbeats 4000000 in
/-- Is it a paragraph's: with no runes, or without a B. -/
theorem whole_any (w:World) (a:Option Addr) (c:Nat) (l:List Nat) (ra:Option Addr) (rn rc:Nat) (hr:rn = 0∨∀ x∈l,x≠11) (hn:l.length≤1048576) (hc:Cells w a (l.map u8V)):
 Calls Tryz.prog 22 #[.slice a l.length c,.slice ra rn rc] w fun e w' => e = .returned (.bool (lastB l))∧w = w':=by
 have HC:=Lib.hid hc
 have HR:=Lib.hid hr
 obtain ⟨n,hnn⟩:∃ n,n = l.length:=⟨_,rfl⟩
 have HN:=Lib.hid hnn
 rw [← hnn] at hn ⊢
 have hn2:(n:Int)≤1048576:=by omega
 clear hc hr hnn
 go_enter Tryz.func22,Tryz.ntmps22
 go_wp2
 go_loopg [13] n (fun r i wr => ∃ k:Nat,k + r = n∧i = .int .i64 k∧w = wr∧∀ j,j < k→l.getD j 0≠11∨j + 1 = n)
 case atStart => exact ⟨0,by omega,rfl,rfl,fun j hj => by omega⟩
 case round =>
  obtain ⟨k,hk,rfl,rfl,hall⟩:=hrel
  have HALL:=Lib.hid hall
  clear hall
  by_cases hlt:k < n
  · obtain ⟨x,hx⟩:∃ x,l[k]? = some x:=⟨_,List.getElem?_eq_getElem (by rw [← HN.out];exact hlt)⟩
    obtain ⟨b,o,rfl,hcx⟩:=HC.out.getm hx
    unfold u8V at hcx
    have HX:=Lib.hid hx
    have HK:=Lib.hid hk
    have hk0:(0:Int)≤(k:Int):=by omega
    have hk1:(k:Int) < (n:Int):=by omega
    have hxD:l.getD k 0 = x:=by rw [List.getD_eq_getElem?_getD,hx];rfl
    have HXD:=Lib.hid hxD
    clear hx hk hxD
    by_cases h11:x = 11
    · subst h11
      by_cases hl:k + 1 = n
      · have hd:decide ((k:Int) = (n:Int) - 1) = true:=by simp;omega
        have hd2:((k:Int) == (n:Int) - 1) = true:=by simp;omega
        have HL:=Lib.hid hl
        clear hl
        go_wp2
        go_roundg (gk - 1)
        case measure => have:=HK.out;omega
        case rel => exact ⟨k + 1,by have:=HK.out;omega,by go_num,rfl,fun j hj => by rcases Nat.lt_or_ge j k with h | h;exact HALL.out j h;exact .inr (by have:=HL.out;omega)⟩
      · have hd2:((k:Int) == (n:Int) - 1) = false:=by simp;omega
        have hrn:rn = 0:=by rcases HR.out with h | h;exact h;exact absurd rfl (h 11 (List.mem_of_getElem? HX.out))
        subst hrn
        have HF:Hid (lastB l = false):=Lib.hid (by
         rw [Bool.eq_false_iff,ne_eq,lastB_iff]
         intro h
         have:=h k HX.out
         have:=HN.out
         omega)
        cases hd3:((k:Int) != (n:Int) - 1 - 1) with
        | true =>
         go_wp2
         go_ret
         exact ⟨by rw [HF.out];rfl,rfl⟩
        | false =>
         go_wp2
         go_ret
         exact ⟨by rw [HF.out];rfl,rfl⟩
    · have hne:((x:Int) != 11) = true:=by simp;omega
      have HNE:=Lib.hid h11
      clear h11
      go_wp2
      go_roundg (gk - 1)
      case measure => have:=HK.out;omega
      case rel => exact ⟨k + 1,by have:=HK.out;omega,by go_num,rfl,fun j hj => by rcases Nat.lt_or_ge j k with h | h;exact HALL.out j h;exact .inl (by rw [show j = k by omega,HXD.out];exact HNE.out)⟩
  · obtain rfl:n = k:=by omega
    have HT:Hid (lastB l = true):=Lib.hid (by
     rw [lastB_iff]
     intro i hi
     have hl:=(List.getElem?_eq_some_iff.1 hi).1
     rcases HALL.out i (by rw [HN.out];exact hl) with h | h
     · rw [List.getD_eq_getElem?_getD,hi] at h;exact absurd rfl h
     · rw [h,HN.out])
    clear hk hlt
    go_wp2
    go_ret
    exact ⟨by rw [HT.out];rfl,rfl⟩
/-- What the steps make of a sequence's classes. -/
def cfC (s:Sq):Nat→List Nat
 | 0 => s.cs
 | 1 => weakOf s.sos s.cs
 | _ => restOf s.sos s.eos (wayOf s.lv) (weakOf s.sos s.cs)
theorem weak_len {s:Sq} (h:s.Ok):(weakOf s.sos s.cs).length = s.ps.length:=(weak_each s.sos h.sos s.cs h.cl).1.symm.trans h.same
theorem weak_soft {s:Sq} (h:s.Ok):∀ c∈weakOf s.sos s.cs,Settled c∨neutralB c = true:=by
 have h1:=weak_each s.sos h.sos s.cs h.cl
 intro c hm
 obtain ⟨i,hi,rfl⟩:=List.mem_iff_getElem.1 hm
 have hi2:i < s.cs.length:=by rw [h1.1];exact hi
 have:=(h1.2 i _ _ (List.getElem?_eq_getElem hi2) (List.getElem?_eq_getElem hi)).2.2
 generalize (weakOf s.sos s.cs)[i] = y at this ⊢
 unfold Settled neutralB
 simp only [Bool.or_eq_true,decide_eq_true_eq]
 omega
theorem rest_len (sos eos way:Nat) (l:List Nat):(restOf sos eos way l).length = l.length:=by unfold restOf;rw [n12_len];omega
theorem settled_cl {c:Nat} (h:Settled c):Cl c:=by unfold Settled at h;unfold Cl;omega
theorem rest_settled {s:Sq} (h:s.Ok):∀ c∈restOf s.sos s.eos (wayOf s.lv) (weakOf s.sos s.cs),Settled c:=by
 have h1:=rest_each s.sos s.eos (wayOf s.lv) h.sos (way_one _) (weakOf s.sos s.cs) (weak_soft h)
 intro c hm
 obtain ⟨i,hi,rfl⟩:=List.mem_iff_getElem.1 hm
 have hi2:i < (weakOf s.sos s.cs).length:=by rw [h1.1];exact hi
 exact (h1.2 i _ _ (List.getElem?_eq_getElem hi2) (List.getElem?_eq_getElem hi)).2
theorem soft_cl {c:Nat} (h:Settled c∨neutralB c = true):Cl c:=by
 rcases h with h | h
 · exact settled_cl h
 · unfold neutralB at h
   simp at h
   unfold Cl
   omega
theorem weak_ok {s:Sq} (h:s.Ok):(stG cfC s 1).Ok:=⟨h.pos,weak_len h,h.big,h.up,h.top,fun c hc => soft_cl (weak_soft h c hc),h.lv,h.sos,h.eos⟩
theorem rest_ok {s:Sq} (h:s.Ok):(stG cfC s 2).Ok:=⟨h.pos,(rest_len _ _ _ _).trans (weak_len h),h.big,h.up,h.top,fun c hc => settled_cl (rest_settled h c hc),h.lv,h.sos,h.eos⟩
theorem cfC_len {s:Sq} (h:s.Ok):∀ k,(cfC s k).length = s.ps.length
 | 0 => h.same
 | 1 => weak_len h
 | k + 2 => (rest_len _ _ _ _).trans (weak_len h)
def stepsV:List Value:=[.func (.func 25) #[] #[],.func (.func 26) #[] #[]]
theorem steps_any (w:World) (x:Value):Calls Tryz.prog 24 #[x] w fun e w' => e = .returned (.slice (some ⟨w.heap.size,0,none⟩) 2 2)∧w' = w.alloc (.cells stepsV.toArray 91):=by
 go_enter Tryz.func24,Tryz.ntmps24
 go_wp2
 go_ret
 exact ⟨rfl,rfl⟩
theorem stepsC_ok (Sx:Nat→Prop) (W0:World) (S:List Sq) (hS:∀ s∈S,s.Ok):StepsOk Sx W0 stepsV S cfC:=by
 refine ⟨fun s hs k v hv => ?_⟩
 have hok:=hS s hs
 match k,hv with
 | 0,hv =>
  simp [stepsV] at hv
  subst hv
  refine ⟨25,#[],rfl,enters_of Tryz.func25 (by kernel_rfl) rfl,fun W _ pa pc ca cc hin => ?_⟩
  rw [Array.append_empty]
  exact weak_fresh W s hok pa ca pc cc hin
 | 1,hv =>
  simp [stepsV] at hv
  subst hv
  refine ⟨26,#[],rfl,enters_of Tryz.func26 (by kernel_rfl) rfl,fun W _ pa pc ca cc hin => ?_⟩
  rw [Array.append_empty]
  exact rest_any W (stG cfC s 1) (weak_ok hok) (weak_soft hok) pa ca pc cc hin
 | k + 2,hv => simp [stepsV] at hv
/-- The levels that the engine gives to classes. -/
def engineOf (b:Int) (l:List Nat):List Int:=layAll (lvsOf (baseOf b l) l) (seqsOf l (nwsOf (baseOf b l) l) (lvsOf (baseOf b l) l) (baseOf b l)) cfC 2
theorem levels_classes (w:World) (ca:Option Addr) (cc:Nat) (l:List Nat) (b:Int) (hb:b = -1∨b = 0∨b = 1) (hn:l.length≤1048576) (hc:Cells w ca (l.map u8V)) (h23:∀ x∈l,1≤x∧x≤23) (hB:BLast l):
 Calls Tryz.prog 23 #[.slice ca l.length cc,.int .i8 b,.func (.func 24) #[] #[]] w fun e w' => ∃ ka kc la lc,e = .returned (.tuple #[.agg #[.int .i8 (baseOf b l),.slice ka l.length kc,.slice la l.length lc],.int .i64 0])∧Own w' w.heap.size 1 ka l.length kc (l.map u8V) ∧
  Own w' w.heap.size 1 la l.length lc ((engineOf b l).map i8V)∧Below w.heap.size w w':=by
 have hb1:baseOf b l≤1:=by have:=baseOf_le b l;omega
 have hg:=seqs_good (base:=baseOf b l) (l:=l) hb1 hn h23
 refine levels_gen w ca cc l b hb hn hc h23 hB 24 #[] (enters_of Tryz.func24 (by kernel_rfl) rfl) 2 (by decide) cfC (fun s => rfl) (fun W _ Sx na nc _ _ => ?_) (fun s hs => ⟨cfC_len (hg s hs).ok,rest_ok (hg s hs).ok,(hg s hs).lv,rest_settled (hg s hs).ok⟩)
 rw [Array.append_empty]
 refine (steps_any W _).mono ?_
 rintro e w' ⟨rfl,rfl⟩
 exact ⟨_,_,stepsV,rfl,rfl,Cells.new W stepsV 91,stepsC_ok Sx _ _ (fun s hs => (hg s hs).ok),(Below.refl _ _).alloc (Nat.le_refl _) _,fun g hg => by rw [blk_some] at hg;simp at hg;omega⟩
end Go.Proofs.YtjnidopbdjbbgaaGreat
end
/-
  Is a list of classes whole: do all its isolates belong together, and is there no B: walked.
-/
section
namespace Go.Proofs.YtjnidopbdjbbgaaGreat
open Go.RowKit
set_option linter.unusedVariables false
end Go.Proofs.YtjnidopbdjbbgaaGreat
end
/-
  Two texts that are alike outside one isolate: the sequences outside are the same, moved. Plain laws: no walk.
-/
section
namespace Go.Proofs.YtjnidopbdjbbgaaGreat
open Go.RowKit
set_option linter.unusedVariables false
def moved (a i j p:Nat):Nat:=if p≤a then p else p - i + j
theorem layTo_other {ps cs:List Nat} {p:Nat} (h:p ∉ ps) (L:List Int) (lv j:Nat):(layTo L lv ps cs j)[p]? = L[p]?:=by
 unfold layTo
 have:∀ z∈(ps.zip cs).take j,z.1≠p:=fun z hz e => h (by
  have:=(List.of_mem_zip (List.mem_of_mem_take hz)).1
  rw [← e];exact this)
 generalize (ps.zip cs).take j = Z at this
 induction Z generalizing L with
 | nil => rfl
 | cons z Z ih =>
  rw [List.foldl_cons,ih _ (fun y hy => this y (List.mem_cons_of_mem _ hy)),List.getElem?_set_ne (this z (by simp))]
theorem layTo_at {ps cs:List Nat} (hu:ps.Pairwise (· < ·)) (hl:cs.length = ps.length) {i p c:Nat} (hp:ps[i]? = some p) (hc:cs[i]? = some c) (L:List Int) (lv:Nat) (hL:p < L.length):∀ k,i < k→k≤ps.length→(layTo L lv ps cs k)[p]? = some ((levelOf lv c:Nat):Int):=by
 intro k
 induction k with
 | zero => intro h;omega
 | succ k ih =>
  intro h hk
  obtain ⟨x,hx⟩:∃ x,ps[k]? = some x:=⟨_,List.getElem?_eq_getElem (by omega)⟩
  obtain ⟨d,hd⟩:∃ d,cs[k]? = some d:=⟨_,List.getElem?_eq_getElem (by omega)⟩
  rw [layTo_succ L lv ps cs hx hd,List.getElem?_set]
  by_cases e:k = i
  · subst e
    rw [hx] at hp
    cases hp
    rw [hd] at hc
    cases hc
    rw [if_pos rfl,if_pos (by rw [layTo_len];exact hL)]
  · have:=up_get hu hp hx (by omega)
    rw [if_neg (by omega)]
    exact ih (by omega) (by omega)
theorem layAll_other {S:List Sq} {p:Nat} (h:∀ s∈S,p ∉ s.ps) (cf:Sq→Nat→List Nat) (d:Nat) (L:List Int):(layAll L S cf d)[p]? = L[p]?:=by
 unfold layAll
 induction S generalizing L with
 | nil => rfl
 | cons s S ih => rw [List.foldl_cons,ih (fun x hx => h x (List.mem_cons_of_mem _ hx)),layTo_other (h s (by simp))]
theorem layAll_at {S:List Sq} {cf:Sq→Nat→List Nat} {d:Nat} (hS:∀ s∈S,s.ps.Pairwise (· < ·)∧(cf s d).length = s.ps.length) {s0:Sq} {i p c:Nat} (h0:s0∈S) (h1:∀ s∈S,p∈s.ps→s = s0) (hp:s0.ps[i]? = some p) (hc:(cf s0 d)[i]? = some c):
 ∀ L:List Int,p < L.length→(layAll L S cf d)[p]? = some ((levelOf s0.lv c:Nat):Int):=by
 induction S with
 | nil => cases h0
 | cons s S ih =>
  intro L hL
  show (layAll (layTo L s.lv s.ps (cf s d) s.ps.length) S cf d)[p]? = _
  rcases Classical.em (∃ s∈S,p∈s.ps) with ⟨x,hx,hpx⟩ | hn
  · have:=h1 x (List.mem_cons_of_mem _ hx) hpx
    subst this
    exact ih (fun s hs => hS s (List.mem_cons_of_mem _ hs)) hx (fun s hs => h1 s (List.mem_cons_of_mem _ hs)) _ (by rw [layTo_len];exact hL)
  · have hs0:s = s0:=by
     rcases List.mem_cons.1 h0 with h | h
     · exact h.symm
     · exact (hn ⟨s0,h,List.mem_of_getElem? hp⟩).elim
    subst hs0
    rw [layAll_other (fun x hx hpx => hn ⟨x,hx,hpx⟩)]
    have hi:=(List.getElem?_eq_some_iff.1 hp).1
    exact layTo_at (hS s (by simp)).1 (hS s (by simp)).2 hp hc L s.lv hL _ hi (Nat.le_refl _)
/-- The levels that are laid. -/
def laidOf (l nw:List Nat) (lv:List Int) (base:Nat):List Int:=layAll lv (seqsOf l nw lv base) cfC 2
theorem laid_at {l nw:List Nat} {lv:List Int} {base:Nat} (hg:∀ s∈seqsOf l nw lv base,s.Ok) {s:Sq} (hs:s∈seqsOf l nw lv base) {i p c:Nat} (hp:s.ps[i]? = some p) (hc:(cfC s 2)[i]? = some c) (hL:p < lv.length):(laidOf l nw lv base)[p]? = some ((levelOf s.lv c:Nat):Int):=by
 refine layAll_at (fun s hs => ⟨(hg s hs).up,cfC_len (hg s hs) 2⟩) hs (fun x hx hpx => ?_) hp hc lv hL
 obtain ⟨w1,e1,_⟩:=seqs_whole hs
 obtain ⟨w2,e2,_⟩:=seqs_whole hx
 have:=whole_eq w2 w1 hpx (List.mem_of_getElem? hp)
 rw [e2,e1,this]
theorem laid_none {l nw:List Nat} {lv:List Int} {base:Nat} (hg:∀ s∈seqsOf l nw lv base,∀ p∈s.ps,p∈keptOf l) {p:Nat} (hp:p ∉ keptOf l):(laidOf l nw lv base)[p]? = lv[p]?:=
 layAll_other (fun s hs h => hp (hg s hs p h)) _ _ _
end Go.Proofs.YtjnidopbdjbbgaaGreat
end
/-
  An isolate's content may be anything else that is whole: the levels outside it stay. Plain laws: no walk.
-/
section
namespace Go.Proofs.YtjnidopbdjbbgaaGreat
open Go.RowKit
set_option linter.unusedVariables false
theorem good_all {base:Nat} (hb:base≤1) {l:List Nat} (hn:l.length≤1048576) (h23:∀ x∈l,1≤x∧x≤23):∀ s∈seqsOf l (nwsOf base l) (lvsOf base l) base,s.Ok∧∀ p∈s.ps,p∈keptOf l:=
 fun s hs => ⟨(seqs_good hb hn h23 s hs).ok,(seqs_good hb hn h23 s hs).kept⟩
theorem engine_len (b:Int) (l:List Nat):(engineOf b l).length = l.length:=by unfold engineOf;rw [layAll_len,lvs_len]
end Go.Proofs.YtjnidopbdjbbgaaGreat
end
/-
  What TopApart compares: the text with another content in its isolate. Plain laws: no walk.
-/
section
namespace Go.Proofs.YtjnidopbdjbbgaaGreat
open Go.RowKit
set_option linter.unusedVariables false
theorem known_ok {l:List Nat}:∀ x∈l.map knownOf,1≤x∧x≤23:=by
 intro x hx
 obtain ⟨y,_,rfl⟩:=List.mem_map.1 hx
 unfold knownOf
 split <;> omega
end Go.Proofs.YtjnidopbdjbbgaaGreat
end
/-
  Small functions of the reference, of any bytes: they end; walked.
-/
section
namespace Go.Proofs.YtjnidopbdjbbgaaGreat
open Go.RowKit
set_option linter.unusedVariables false
set_option maxRecDepth 20000
set_option maxHeartbeats 4000000
theorem xremoved_any (w:World) (c:Nat):Calls Tryz.prog 90 #[.int .u8 c] w fun e w' => e = .returned (.bool (rem c))∧w = w':=by
 by_cases h:1≤c∧c≤23
 · exact removedR_any w c h.1 h.2
 · have e0:((c:Int) == 10) = false:=by simp <;> omega
   have e1:((c:Int) == 15) = false:=by simp <;> omega
   have e2:((c:Int) == 16) = false:=by simp <;> omega
   have e3:((c:Int) == 17) = false:=by simp <;> omega
   have e4:((c:Int) == 18) = false:=by simp <;> omega
   have e5:((c:Int) == 19) = false:=by simp <;> omega
   rw [show rem c = false from by unfold rem;simp;omega]
   clear h
   go_enter Tryz.func90,Tryz.ntmps90
   go_wp2
   go_ret
   exact ⟨rfl,rfl⟩
theorem xneutral_any (w:World) (c:Nat):Calls Tryz.prog 99 #[.int .u8 c] w fun e w' => (∃ b:Bool,e = .returned (.bool b))∧w = w':=by
 by_cases h:1≤c∧c≤23
 · exact (neutralR_any w c h.1 h.2).mono (by rintro e w' ⟨h1,h2⟩;exact ⟨⟨_,h1⟩,h2⟩)
 · have e0:((c:Int) == 11) = false:=by simp <;> omega
   have e1:((c:Int) == 12) = false:=by simp <;> omega
   have e2:((c:Int) == 13) = false:=by simp <;> omega
   have e3:((c:Int) == 14) = false:=by simp <;> omega
   have e4:((c:Int) == 20) = false:=by simp <;> omega
   have e5:((c:Int) == 21) = false:=by simp <;> omega
   have e6:((c:Int) == 22) = false:=by simp <;> omega
   have e7:((c:Int) == 23) = false:=by simp <;> omega
   clear h
   go_enter Tryz.func99,Tryz.ntmps99
   go_wp2
   go_ret
   exact ⟨⟨_,rfl⟩,rfl⟩
theorem xway_any (w:World) (c:Nat):Calls Tryz.prog 100 #[.int .u8 c] w fun e w' => (∃ k:Nat,e = .returned (.int .u8 k))∧w = w':=by
 by_cases h:c = 1
 · subst h
   go_enter Tryz.func100,Tryz.ntmps100
   go_wp2
   go_ret
   exact ⟨⟨1,rfl⟩,rfl⟩
 · have e0:((c:Int) == 1) = false:=by simp <;> omega
   clear h
   go_enter Tryz.func100,Tryz.ntmps100
   go_wp2
   go_ret
   exact ⟨⟨2,rfl⟩,rfl⟩
theorem xisolates_any (w:World) (c:Nat):Calls Tryz.prog 145 #[.int .u8 c] w fun e w' => (∃ b:Bool,e = .returned (.bool b))∧w = w':=by
 by_cases h0:c = 20
 · subst h0
   go_enter Tryz.func145,Tryz.ntmps145
   go_wp2
   go_ret
   exact ⟨⟨_,rfl⟩,rfl⟩
 by_cases h1:c = 21
 · subst h1
   go_enter Tryz.func145,Tryz.ntmps145
   go_wp2
   go_ret
   exact ⟨⟨_,rfl⟩,rfl⟩
 by_cases h2:c = 22
 · subst h2
   go_enter Tryz.func145,Tryz.ntmps145
   go_wp2
   go_ret
   exact ⟨⟨_,rfl⟩,rfl⟩
 have e0:((c:Int) == 20) = false:=by simp <;> omega
 have e1:((c:Int) == 21) = false:=by simp <;> omega
 have e2:((c:Int) == 22) = false:=by simp <;> omega
 clear h0 h1 h2
 go_enter Tryz.func145,Tryz.ntmps145
 go_wp2
 go_ret
 exact ⟨⟨_,rfl⟩,rfl⟩
theorem xWay_any (w:World) (v:Int) (hv:-128≤v∧v≤127):Calls Tryz.prog 93 #[.int .i8 v] w fun e w' => (∃ k:Nat,e = .returned (.int .u8 k))∧w = w':=by
 by_cases h0:v < 0
 · go_enter Tryz.func93,Tryz.ntmps93
   go_wp2
   go_ret
   exact ⟨⟨0,rfl⟩,rfl⟩
 by_cases h1:v > 126
 · have h2:¬ v < 0:=h0
   go_enter Tryz.func93,Tryz.ntmps93
   go_wp2
   go_ret
   exact ⟨⟨0,rfl⟩,rfl⟩
 have h3:¬ (126:Int) < v:=h1
 rcases (show v % 2 = 0∨v % 2 = 1 by omega) with hp | hp
 · have ht:v.tmod 2 = 0:=by rw [Int.tmod_eq_emod_of_nonneg (by omega)];exact hp
   clear hp
   go_enter Tryz.func93,Tryz.ntmps93
   go_wp2
   go_ret
   exact ⟨⟨1,rfl⟩,rfl⟩
 · have ht:v.tmod 2 = 1:=by rw [Int.tmod_eq_emod_of_nonneg (by omega)];exact hp
   clear hp
   go_enter Tryz.func93,Tryz.ntmps93
   go_wp2
   go_ret
   exact ⟨⟨2,rfl⟩,rfl⟩
/-- Outside a list there is nothing. -/
def AtOut (i:Int) (n k:Nat):Prop:=i < 0∨(n:Int)≤i→k = 0
theorem xat_any (w:World) (a:Option Addr) (n c:Nat) (l:List Nat) (i:Int) (hn:l.length = n) (hb:n≤1048576) (hi:-2000000≤i∧i≤2000000) (hc:Cells w a (l.map u8V)):
 Calls Tryz.prog 147 #[.slice a n c,.int .i64 i] w fun e w' => (∃ k:Nat,e = .returned (.int .u8 k)∧AtOut i n k)∧w = w':=by
 by_cases h0:i < 0
 · clear hc
   go_enter Tryz.func147,Tryz.ntmps147
   go_wp2
   go_ret
   exact ⟨⟨0,rfl,fun _ => rfl⟩,rfl⟩
 by_cases h1:(n:Int)≤i
 · have h2:i ≥ (n:Int):=h1
   clear hc
   go_enter Tryz.func147,Tryz.ntmps147
   go_wp2
   go_ret
   exact ⟨⟨0,rfl,fun _ => rfl⟩,rfl⟩
 obtain ⟨q,rfl⟩:=Int.eq_ofNat_of_zero_le (show 0≤i by omega)
 obtain ⟨x,hx⟩:∃ x,l[q]? = some x:=⟨_,List.getElem?_eq_getElem (by omega)⟩
 obtain ⟨b,o,rfl,hcx⟩:=hc.getm hx
 unfold u8V at hcx
 have h3:¬ (q:Int) ≥ (n:Int):=h1
 have h4:(0:Int)≤(q:Int):=by omega
 have h5:(q:Int) < (n:Int):=by omega
 have H:Hid (AtOut (q:Int) n x):=Lib.hid (fun h => by omega)
 clear hc hx hn
 go_enter Tryz.func147,Tryz.ntmps147
 go_wp2
 go_ret
 exact ⟨⟨x,rfl,H.out⟩,rfl⟩
theorem xlevel_any (w:World) (v:Int) (c:Nat) (hv:-128≤v∧v≤127):Calls Tryz.prog 57 #[.int .i8 v,.int .u8 c] w fun e w' => (∃ k:Int,e = .returned (.int .i8 k))∧w = w':=by
 by_cases h2:c = 2
 · subst h2
   cases h0:(v.tmod 2 == 0) with
   | true =>
    go_enter Tryz.func57,Tryz.ntmps57
    go_wp2
    go_ret
    exact ⟨⟨_,rfl⟩,rfl⟩
   | false =>
    cases h1:(v.tmod 2 == 1) with
    | true =>
     go_enter Tryz.func57,Tryz.ntmps57
     go_wp2
     go_ret
     exact ⟨⟨_,rfl⟩,rfl⟩
    | false =>
     go_enter Tryz.func57,Tryz.ntmps57
     go_wp2
     go_ret
     exact ⟨⟨_,rfl⟩,rfl⟩
 have e2:((c:Int) == 2) = false:=by simp <;> omega
 have e2':((c:Int) != 2) = true:=by simp <;> omega
 clear h2
 cases h3:((c:Int) != 1) with
 | true =>
  cases h0:(v.tmod 2 == 0) with
  | true =>
   cases h1:(v.tmod 2 == 1) with
   | true =>
    go_enter Tryz.func57,Tryz.ntmps57
    go_wp2
    go_ret
    exact ⟨⟨_,rfl⟩,rfl⟩
   | false =>
    go_enter Tryz.func57,Tryz.ntmps57
    go_wp2
    go_ret
    exact ⟨⟨_,rfl⟩,rfl⟩
  | false =>
   cases h1:(v.tmod 2 == 1) with
   | true =>
    go_enter Tryz.func57,Tryz.ntmps57
    go_wp2
    go_ret
    exact ⟨⟨_,rfl⟩,rfl⟩
   | false =>
    go_enter Tryz.func57,Tryz.ntmps57
    go_wp2
    go_ret
    exact ⟨⟨_,rfl⟩,rfl⟩
 | false =>
  cases h0:(v.tmod 2 == 0) with
  | true =>
   cases h1:(v.tmod 2 == 1) with
   | true =>
    go_enter Tryz.func57,Tryz.ntmps57
    go_wp2
    go_ret
    exact ⟨⟨_,rfl⟩,rfl⟩
   | false =>
    go_enter Tryz.func57,Tryz.ntmps57
    go_wp2
    go_ret
    exact ⟨⟨_,rfl⟩,rfl⟩
  | false =>
   cases h1:(v.tmod 2 == 1) with
   | true =>
    go_enter Tryz.func57,Tryz.ntmps57
    go_wp2
    go_ret
    exact ⟨⟨_,rfl⟩,rfl⟩
   | false =>
    go_enter Tryz.func57,Tryz.ntmps57
    go_wp2
    go_ret
    exact ⟨⟨_,rfl⟩,rfl⟩
end Go.Proofs.YtjnidopbdjbbgaaGreat
end
/-
  The reference's weak rules: they end; walked.
-/
section
namespace Go.Proofs.YtjnidopbdjbbgaaGreat
open Go.RowKit
set_option linter.unusedVariables false
set_option maxRecDepth 20000
set_option maxHeartbeats 4000000
theorem xahead_any (w:World) (a b:Option Addr) (n c m d i sos:Nat) (l S:List Nat) (hn:l.length = n) (hb:n≤1048576) (hi:i≤n) (hm:S.length = m) (hm2:m≤1048576) (hc:Cells w a (l.map u8V)) (hs:Cells w b (S.map u8V)):
 Calls Tryz.prog 146 #[.slice a n c,.int .u8 sos,.int .i64 i,.slice b m d] w fun e w' => (∃ k:Nat,e = .returned (.int .u8 k))∧Below w.heap.size w w':=by
 have HC:=Lib.hid hc
 have HS:=Lib.hid hs
 have HN:=Lib.hid hn
 have HM:=Lib.hid hm
 have hi2:(i:Int)≤1048576:=by omega
 have hm3:(m:Int)≤1048576:=by omega
 clear hc hs hn hm
 go_enter Tryz.func146,Tryz.ntmps146
 go_wp2
 go_loopg [9] i (fun r s9 wr => ∃ (iv:Int) (j:Nat),iv = (r:Int) - 1∧r≤i∧s9 = .int .i64 iv∧w.drewN j = wr)
 case atStart => exact ⟨_,0,rfl,Nat.le_refl _,rfl,rfl⟩
 case round =>
  obtain ⟨iv,j,hiv,hri,rfl,rfl⟩:=hrel
  obtain ⟨k,hk⟩:∃ k,k = gk:=⟨_,rfl⟩
  have HK:=Lib.hid hk
  rw [← hk] at hiv hri
  clear hk
  cases k with
  | zero =>
   obtain rfl:iv = -1:=by omega
   clear hiv
   go_wp2
   go_ret
   exact ⟨⟨_,rfl⟩,below_drewN (Below.refl _ _) _⟩
  | succ k =>
   obtain rfl:iv = (k:Int):=by omega
   clear hiv
   have hbw:Below w.heap.size w (w.drewN j):=below_drewN (Below.refl _ _) j
   obtain ⟨x,hx⟩:∃ x,l[k]? = some x:=⟨_,List.getElem?_eq_getElem (by have:=HN.out;omega)⟩
   obtain ⟨ab,ao,rfl,q0⟩:=(HC.out.below hbw).getm hx
   unfold u8V at q0
   have hk0:(0:Int)≤(k:Int):=by omega
   have hk1:(k:Int) < (n:Int):=by omega
   have hk2:(k:Int)≤1048576:=by omega
   have HKI:=Lib.hid hri
   have HSW:=Lib.hid (HS.out.below hbw)
   clear hx
   generalize hV:w.drewN j = V at q0 HSW ⊢
   have HV:=Lib.hid hV
   clear hV hbw
   go_wp2
   go_loopg [10] m (fun r s10 wr => ∃ t j2:Nat,t + r = m∧s10 = .int .i64 t∧V.drewN j2 = wr)
   case atStart => exact ⟨0,0,by omega,rfl,rfl⟩
   case round =>
    obtain ⟨t,j2,ht,rfl,rfl⟩:=hrel
    have HT:=Lib.hid ht
    clear ht
    have hbw:Below V.heap.size V (V.drewN j2):=below_drewN (Below.refl _ _) j2
    have ht0:(0:Int)≤(t:Int):=by omega
    by_cases hlt:t < m
    · obtain ⟨y,hy⟩:∃ y,S[t]? = some y:=⟨_,List.getElem?_eq_getElem (by rw [HM.out];exact hlt)⟩
      obtain ⟨bb,bo,rfl,q1⟩:=(HSW.out.below hbw).getm hy
      unfold u8V at q1
      have ht1:(t:Int) < (m:Int):=by omega
      have HLT:=Lib.hid hlt
      have q2:=(show (V.drewN j2).cell? _ = _ from q0)
      clear hy hlt hbw
      generalize hU:V.drewN j2 = U at q1 q2 ⊢
      have HU:=Lib.hid hU
      clear hU
      cases hxy:((x:Int) == (y:Int)) with
      | true =>
       go_wp2_with fail
       go_quiet (fail)
       go_wp2
       go_ret
       exact ⟨⟨_,rfl⟩,by rw [← HU.out,← HV.out,World.drewN_drewN,World.drewN_drewN];exact below_drewN (Below.refl _ _) _⟩
      | false =>
       go_wp2_with fail
       go_quiet (fail)
       go_wp2
       go_roundg (gk - 1)
       case measure => have:=HT.out;have:=HLT.out;omega
       case rel => exact ⟨t + 1,_,by have:=HT.out;have:=HLT.out;omega,by go_num,by rw [← HU.out,World.drewN_drewN]⟩
    · have ht1:¬ (t:Int) < (m:Int):=by omega
      clear hlt hbw
      go_wp2
      go_roundg k
      case measure => have:=HK.out;omega
      case rel => exact ⟨_,_,rfl,by have:=HKI.out;omega,rfl,by rw [← HV.out,World.drewN_drewN]⟩
end Go.Proofs.YtjnidopbdjbbgaaGreat
end
/-
  The engine's Classes: walked.
-/
section
namespace Go.Proofs.YtjnidopbdjbbgaaGreat
open Go.RowKit
set_option linter.unusedVariables false
def zeroR:Value:=.agg #[.int .i8 0,.slice none 0 0,.slice none 0 0]
theorem res6 {B:Nat} (x y z:Value) (e:Int):∀ (tmps:Array Value) (W':World),W'.heap[B]? = some (.cells #[x,y,z] 29)→tmps.getD 4 undef = .pointer (some ⟨B,0,none⟩)→tmps.getD 5 undef = .int .i64 e→(results Tryz.f6 tmps).run Tryz.prog W' = .ok (.tuple #[.agg #[x,y,z],.int .i64 e]) W':=by
 intro tmps W' h1 h2 h3
 rw [results_cell_tmp rfl]
 have hlv:=run_loadVar_row (P:=Tryz.prog) _ B 29 29 _ _ _ h1 Tryz.underlying29 rfl (by kernel_rfl)
 rw [h2,h3]
 simp [asAddr,hlv]
set_option maxRecDepth 20000 in
set_option maxHeartbeats 4000000 in
theorem classes_may (w:World) (a:Option Addr) (n c:Nat) (b:Int) (hb:mayB b = false):
 Calls Tryz.prog 6 #[.slice a n c,.int .i8 b] w fun e w' => e = .returned (.tuple #[zeroR,.int .i64 2])∧Below w.heap.size w w':=by
 have HM:=Lib.hid (fun w => may_any w b)
 rw [hb] at HM
 have hh:=heap_alloc_new w (.cells #[.int .i8 0,.slice none 0 0,.slice none 0 0] 29)
 have HH:=Lib.hid hh
 clear hb hh
 go_enter Tryz.func6,Tryz.ntmps6
 go_wp2_with (go_at_call 20;refine (HM.out _).mono ?_;rintro e w2 ⟨rfl,rfl⟩)
 exact bodyPost_ret (res6 _ _ _ _ _ _ HH.out rfl rfl) rfl ⟨rfl,(Below.refl _ _).alloc (Nat.le_refl _) _⟩
set_option maxRecDepth 20000 in
set_option maxHeartbeats 4000000 in
theorem classes_walk (w:World) (a:Option Addr) (c:Nat) (l:List Nat) (b:Int) (hb:mayB b = true) (hn:l.length≤1048576) (hc:Cells w a (l.map u8V)):
 Calls Tryz.prog 6 #[.slice a l.length c,.int .i8 b] w fun e w' => ((lastB (l.map knownOf) = false∧e = .returned (.tuple #[zeroR,.int .i64 210])) ∨
  (lastB (l.map knownOf) = true∧∃ ka kc la lc,e = .returned (.tuple #[.agg #[.int .i8 (baseOf b (l.map knownOf)),.slice ka l.length kc,.slice la l.length lc],.int .i64 0])∧Own w' w.heap.size 1 ka l.length kc ((l.map knownOf).map u8V) ∧
   Own w' w.heap.size 1 la l.length lc ((engineOf b (l.map knownOf)).map i8V)))∧Below w.heap.size w w':=by
 have HM:=Lib.hid (fun w => may_any w b)
 rw [hb] at HM
 have HMB:=Lib.hid ((mayB_iff b).1 hb)
 have hh:=heap_alloc_new w (.cells #[.int .i8 0,.slice none 0 0,.slice none 0 0] 29)
 have HH:=Lib.hid hh
 have HC:=Lib.hid hc
 have HKN:Hid (∀ (x:Nat),x∈l.map knownOf→1≤x∧x≤23):=Lib.hid fun x hx => by
  obtain ⟨y,_,rfl⟩:=List.mem_map.1 hx
  unfold knownOf
  split <;> omega
 obtain ⟨L,hL⟩:∃ L,L = l.map knownOf:=⟨_,rfl⟩
 rw [← hL] at HKN ⊢
 obtain ⟨n,hnn⟩:∃ n,n = l.length:=⟨_,rfl⟩
 rw [← hnn] at hn ⊢
 have HN:=Lib.hid hnn
 have HL:=Lib.hid hL
 have hn2:¬ (n:Int) > 1048576:=by omega
 have hn3:¬ (1048576:Int) < (n:Int):=by omega
 have HB0:=Lib.hid (show Below w.heap.size w (w.alloc (.cells #[.int .i8 0,.slice none 0 0,.slice none 0 0] 29)) from (Below.refl _ _).alloc (Nat.le_refl _) _)
 obtain ⟨i0,hi,hz0,hz1,hz2⟩:=info_parts info35
 obtain ⟨W0,hW0⟩:∃ W0,W0 = w.alloc (.cells #[.int .i8 0,.slice none 0 0,.slice none 0 0] 29):=⟨_,rfl⟩
 rw [← hW0] at HH HB0
 have HW0:=Lib.hid hW0
 have HS0:=Lib.hid (show w.heap.size < W0.heap.size from (Array.getElem?_eq_some_iff.1 HH.out).1)
 clear hb hh hc hnn hL hW0
 go_enter Tryz.func6,Tryz.ntmps6
 go_wp2_with (go_at_call 20;refine (HM.out _).mono ?_;rintro e w2 ⟨rfl,rfl⟩)
 rw [← HW0.out]
 go_loopg [6,19] n (fun r s6 i wr => ∃ (k:Nat) (oa:Option Addr) (oc:Nat),k + r = n∧i = .int .i64 k∧s6 = .slice oa k oc∧Own wr W0.heap.size 1 oa k oc ((L.take k).map u8V)∧Below W0.heap.size W0 wr)
 case atStart => exact ⟨0,none,0,by omega,rfl,rfl,Own.nil _ _ _,Below.refl _ _⟩
 case round =>
  obtain ⟨k,oa,oc,hk,rfl,rfl,hown,hbq⟩:=hrel
  obtain ⟨wa,rfl⟩:∃ wa:World,wa = wr:=⟨_,rfl⟩
  by_cases hlt:k < n
  · obtain ⟨x,hx⟩:∃ x,l[k]? = some x:=⟨_,List.getElem?_eq_getElem (by rw [← HN.out];exact hlt)⟩
    have hLx:L[k]? = some (knownOf x):=by rw [HL.out,List.getElem?_map,hx];rfl
    obtain ⟨ab,ao,rfl,hcx⟩:=(HC.out.below (HB0.out.trans (hbq.mono HB0.out.size))).getm hx
    unfold u8V at hcx
    have HOW:=Lib.hid hown
    have HBQ:=Lib.hid hbq
    have HK:=Lib.hid hk
    have HLX:=Lib.hid hLx
    have hk0:(0:Int)≤(k:Int):=by omega
    have hk1:(k:Int) < (n:Int):=by omega
    clear hown hbq hk hLx hx
    go_wp2_with (first | (go_at_call 21;refine (knownE_any _ x).mono ?_;rintro e w2 ⟨rfl,rfl⟩) | (at_builtin;refine wpList_push rfl _ _ 22 rfl 35 i0 _ 1 Tryz.underlying22 hi hz0 hz1 hz2 rfl rfl W0.heap.size oa k oc ((L.take k).map u8V) rfl wa (.int .u8 (knownOf x)) rfl HOW.out _ rfl rfl rfl (by omega) (by decide) HBQ.out.size ?_;intro oa2 oc2 w4 hown4 hap4 hbe4;have HO4:=Lib.hid hown4;have HB4:=Lib.hid hbe4;clear hown4 hap4 hbe4))
    go_roundg (gk - 1)
    case measure => have:=HK.out;omega
    case rel => exact ⟨k + 1,oa2,oc2,by have:=HK.out;omega,by go_num,rfl,HO4.out.eqL (by rw [List.take_add_one,HLX.out,List.map_append];rfl),HBQ.out.trans HB4.out⟩
  · obtain rfl:n = k:=by omega
    have hLn:L.length = n:=by rw [HL.out,List.length_map,HN.out]
    have hown2:Own wa W0.heap.size 1 oa n oc (L.map u8V):=hown.eqL (by rw [List.take_of_length_le (by rw [hLn];exact Nat.le_refl _)])
    have HBQ:=Lib.hid hbq
    have HOW:=Lib.hid hown2
    have HRW:=Lib.hid ((hbq.block w.heap.size HS0.out).trans HH.out)
    have HWH:=Lib.hid (fun w hc => whole_any w oa oc L none 0 0 (.inl rfl) (by rw [hLn];exact hn) hc)
    rw [hLn] at HWH
    have HLE:=Lib.hid hLn
    have HBA:=Lib.hid (HB0.out.trans (hbq.mono HB0.out.size))
    clear hown hbq hk hlt hown2 hLn
    cases hlast:lastB L with
    | false =>
     rw [hlast] at HWH
     have e0:=cells_at HRW.out 0
     have e1:=cells_at HRW.out 1
     have e2:=cells_at HRW.out 2
     have f0:=frozen_at HRW.out 0
     have f1:=frozen_at HRW.out 1
     have f2:=frozen_at HRW.out 2
     have HLAST:=Lib.hid hlast
     clear hlast
     go_wp2_with (go_at_call 22;refine (HWH.out _ HOW.out.toCells).mono ?_;rintro e w5 ⟨rfl,rfl⟩)
     have hfin:=heap_set3 HRW.out (.int .i8 0) (.slice none 0 0) (.slice none 0 0)
     exact bodyPost_ret (res6 _ _ _ _ _ _ hfin rfl rfl) rfl ⟨.inl ⟨HLAST.out,rfl⟩,((HBA.out.setCell (p:=⟨w.heap.size,0,none⟩) (Nat.le_refl _) _).setCell (p:=⟨w.heap.size,1,none⟩) (Nat.le_refl _) _).setCell (p:=⟨w.heap.size,2,none⟩) (Nat.le_refl _) _⟩
    | true =>
     have HLV:=Lib.hid (fun w hc => levels_classes w oa oc L b HMB.out (by rw [HLE.out];exact hn) hc HKN.out ((lastB_iff L).1 hlast))
     rw [HLE.out] at HLV
     rw [hlast] at HWH
     have HLAST:=Lib.hid hlast
     clear hlast
     go_wp2_with (first | (go_at_call 22;refine (HWH.out _ HOW.out.toCells).mono ?_;rintro e w5 ⟨rfl,rfl⟩) | (go_at_call 23;refine (HLV.out _ HOW.out.toCells).mono ?_;rintro e w6 ⟨ka,kc,la,lc,rfl,q1,q2,q3⟩;have Q1:=Lib.hid q1;have Q2:=Lib.hid q2;have Q3:=Lib.hid q3;have HR6:=Lib.hid ((q3.block w.heap.size (Nat.lt_of_lt_of_le HS0.out HBQ.out.size)).trans HRW.out);have e0:=cells_at HR6.out 0;have e1:=cells_at HR6.out 1;have e2:=cells_at HR6.out 2;have f0:=frozen_at HR6.out 0;have f1:=frozen_at HR6.out 1;have f2:=frozen_at HR6.out 2;clear q1 q2 q3))
     have hfin:=heap_set3 HR6.out (.int .i8 (baseOf b L)) (.slice ka n kc) (.slice la n lc)
     have hge:w.heap.size < wa.heap.size:=Nat.lt_of_lt_of_le HS0.out HBQ.out.size
     have nk:∀ g,ka = some ⟨g,0,none⟩→g≠w.heap.size:=fun g hg e => by have h1:=(Q1.out.blk_lt g (blk_mem.2 (blockOf_some hg))).1;omega
     have nl:∀ g,la = some ⟨g,0,none⟩→g≠w.heap.size:=fun g hg e => by have h1:=(Q2.out.blk_lt g (blk_mem.2 (blockOf_some hg))).1;omega
     have hbb:=HBA.out.trans (Q3.out.mono HBA.out.size)
     exact bodyPost_ret (res6 _ _ _ _ _ _ hfin rfl rfl) rfl ⟨.inr ⟨HLAST.out,ka,kc,la,lc,rfl,(((Q1.out.stored_other _ _ nk).stored_other _ _ nk).stored_other _ _ nk).mono (by omega),(((Q2.out.stored_other _ _ nl).stored_other _ _ nl).stored_other _ _ nl).mono (by omega)⟩,((hbb.setCell (p:=⟨w.heap.size,0,none⟩) (Nat.le_refl _) _).setCell (p:=⟨w.heap.size,1,none⟩) (Nat.le_refl _) _).setCell (p:=⟨w.heap.size,2,none⟩) (Nat.le_refl _) _⟩
end Go.Proofs.YtjnidopbdjbbgaaGreat
end
/-
  May a resolved paragraph be, may a line's levels be: walked, where they may.
-/
section
namespace Go.Proofs.YtjnidopbdjbbgaaGreat
open Go.RowKit
set_option linter.unusedVariables false
theorem not_lt_of_le' {a b:Int} (h:a≤b):¬ b < a:=by omega
/-- A place of a resolved paragraph that may be. -/
def MayAt (base:Int) (c:Nat) (v:Int):Prop:=1≤c∧c≤23∧((rem c = true∧v = -1)∨(rem c = false∧base≤v∧v≤126))
set_option maxRecDepth 20000 in
set_option maxHeartbeats 8000000 in
theorem checkE_any (w:World) (base:Int) (ca la:Option Addr) (cc lc:Nat) (cl:List Nat) (lv:List Int) (n:Nat) (hb:base = 0∨base = 1) (hcn:cl.length = n) (hln:lv.length = n) (hn:n≤1048576) (hc:Cells w ca (cl.map u8V)) (hl:Cells w la (lv.map i8V))
 (hall:∀ (i c:Nat) (v:Int),cl[i]? = some c→lv[i]? = some v→MayAt base c v):
 Calls Tryz.prog 11 #[.agg #[.int .i8 base,.slice ca n cc,.slice la n lc]] w fun e w' => e = .returned (.int .i64 0)∧Below w.heap.size w w':=by
 have hbx:=heap_alloc_new w (.cells #[.int .i8 base,.slice ca n cc,.slice la n lc] 29)
 have hbel:Below w.heap.size w (w.alloc (.cells #[.int .i8 base,.slice ca n cc,.slice la n lc] 29)):=(Below.refl _ _).alloc (Nat.le_refl _) _
 have HC:=Lib.hid (hc.below hbel)
 have HL:=Lib.hid (hl.below hbel)
 have HALL:=Lib.hid hall
 have HCN:=Lib.hid hcn
 have HLN:=Lib.hid hln
 have hn2:(n:Int)≤1048576:=by omega
 obtain ⟨B,hB⟩:∃ B,B = w.heap.size:=⟨_,rfl⟩
 obtain ⟨W,hW⟩:∃ W,W = w.alloc (.cells #[.int .i8 base,.slice ca n cc,.slice la n lc] 29):=⟨_,rfl⟩
 have HBE:=Lib.hid (show Below w.heap.size w W from by rw [hW];exact hbel)
 rw [← hW] at hbx HC HL
 rw [← hB] at hbx
 have e0:=cells_at hbx 0
 have e1:=cells_at hbx 1
 have e2:=cells_at hbx 2
 have HB:=Lib.hid hB
 have HW:=Lib.hid hW
 clear hc hl hall hcn hln hbx hbel hB hW
 rcases hb with rfl | rfl
 all_goals
  go_enter Tryz.func11,Tryz.ntmps11
  go_upto_region 1 with (fail)
  rw [← HB.out,← HW.out]
  go_wp2_with fail
  go_loopg [26] n (fun r i wr => ∃ k:Nat,k + r = n∧i = .int .i64 k∧W = wr)
  case atStart => exact ⟨0,by omega,rfl,rfl⟩
  case round =>
   obtain ⟨k,hk,rfl,rfl⟩:=hrel
   by_cases hlt:k < n
   · obtain ⟨x,hx⟩:∃ x,cl[k]? = some x:=⟨_,List.getElem?_eq_getElem (by rw [HCN.out];exact hlt)⟩
     obtain ⟨v,hv⟩:∃ v,lv[k]? = some v:=⟨_,List.getElem?_eq_getElem (by rw [HLN.out];exact hlt)⟩
     obtain ⟨b,o,rfl,hcx⟩:=HC.out.getm hx
     obtain ⟨b2,o2,rfl,hcv⟩:=HL.out.getm hv
     obtain ⟨x1,x2,hm⟩:=HALL.out k x v hx hv
     unfold u8V at hcx
     unfold i8V at hcv
     have HK:=Lib.hid hk
     have hk0:(0:Int)≤(k:Int):=by omega
     have hk1:(k:Int) < (n:Int):=by omega
     have H21:=Lib.hid (show ∀ w,Calls Tryz.prog 21 #[.int .u8 x] w fun e w' => e = .returned (.int .u8 x)∧w = w' from fun w => (knownE_any w x).mono (by rintro e w2 ⟨rfl,rfl⟩;exact ⟨by unfold knownOf;rw [if_pos ⟨x1,x2⟩],rfl⟩))
     rcases hm with ⟨hr,rfl⟩ | ⟨hr,hv1,hv2⟩
     · have H31:=Lib.hid (show ∀ w,Calls Tryz.prog 31 #[.int .u8 x] w fun e w' => e = .returned (.bool true)∧w = w' from fun w => (removed_any w x x1 x2).mono (by rintro e w2 ⟨rfl,rfl⟩;exact ⟨by rw [show ([10,15,16,17,18,19]:List Nat).contains x = true from hr],rfl⟩))
       clear hx hv hk x1 x2 hr
       go_wp2_with (first | (go_at_call 21;refine (H21.out _).mono ?_;rintro e w2 ⟨rfl,rfl⟩) | (go_at_call 31;refine (H31.out _).mono ?_;rintro e w2 ⟨rfl,rfl⟩))
       go_roundg (gk - 1)
       case measure => have:=HK.out;omega
       case rel => exact ⟨k + 1,by have:=HK.out;omega,by go_num,rfl⟩
     · have H31:=Lib.hid (show ∀ w,Calls Tryz.prog 31 #[.int .u8 x] w fun e w' => e = .returned (.bool false)∧w = w' from fun w => (removed_any w x x1 x2).mono (by rintro e w2 ⟨rfl,rfl⟩;exact ⟨by rw [show ([10,15,16,17,18,19]:List Nat).contains x = false from hr],rfl⟩))
       clear hx hv hk x1 x2 hr
       have hv4:=not_lt_of_le' hv1
       have hv6:¬ v > 126:=by omega
       have hv7:¬ (126:Int) < v:=by omega
       go_wp2_with (first | (go_at_call 21;refine (H21.out _).mono ?_;rintro e w2 ⟨rfl,rfl⟩) | (go_at_call 31;refine (H31.out _).mono ?_;rintro e w2 ⟨rfl,rfl⟩))
       go_roundg (gk - 1)
       case measure => have:=HK.out;omega
       case rel => exact ⟨k + 1,by have:=HK.out;omega,by go_num,rfl⟩
   · obtain rfl:n = k:=by omega
     clear hk hlt
     go_wp2
     go_ret
     exact ⟨rfl,HBE.out⟩
set_option maxRecDepth 20000 in
set_option maxHeartbeats 8000000 in
theorem mayV_any (w:World) (la:Option Addr) (lc:Nat) (lv:List Int) (n:Nat) (hln:lv.length = n) (hn:n≤1048576) (hl:Cells w la (lv.map i8V)) (hall:∀ v∈lv,-1≤v∧v≤126):
 Calls Tryz.prog 33 #[.slice la n lc] w fun e w' => e = .returned (.int .i64 0)∧w = w':=by
 have HL:=Lib.hid hl
 have HALL:=Lib.hid hall
 have HLN:=Lib.hid hln
 have hn2:(n:Int)≤1048576:=by omega
 have hn3:¬ (n:Int) > 1048576:=by omega
 have hn4:¬ (1048576:Int) < (n:Int):=by omega
 clear hl hall hln
 go_enter Tryz.func33,Tryz.ntmps33
 go_wp2
 go_loopg [10] n (fun r i wr => ∃ k:Nat,k + r = n∧i = .int .i64 k∧w = wr)
 case atStart => exact ⟨0,by omega,rfl,rfl⟩
 case round =>
  obtain ⟨k,hk,rfl,rfl⟩:=hrel
  by_cases hlt:k < n
  · obtain ⟨v,hv⟩:∃ v,lv[k]? = some v:=⟨_,List.getElem?_eq_getElem (by rw [HLN.out];exact hlt)⟩
    obtain ⟨b2,o2,rfl,hcv⟩:=HL.out.getm hv
    obtain ⟨h1,h2⟩:=HALL.out v (List.mem_of_getElem? hv)
    unfold i8V at hcv
    have HK:=Lib.hid hk
    have hk0:(0:Int)≤(k:Int):=by omega
    have hk1:(k:Int) < (n:Int):=by omega
    have hv4:¬ v < -1:=by omega
    have hv6:¬ v > 126:=by omega
    have hv7:¬ (126:Int) < v:=by omega
    clear hv hk
    go_wp2
    go_roundg (gk - 1)
    case measure => have:=HK.out;omega
    case rel => exact ⟨k + 1,by have:=HK.out;omega,by go_num,rfl⟩
  · obtain rfl:n = k:=by omega
    clear hk hlt
    go_wp2
    go_ret
    exact ⟨rfl,rfl⟩
end Go.Proofs.YtjnidopbdjbbgaaGreat
end
/-
  slices.Reverse over a piece of a slice of the call's own: walked.
-/
section
namespace Go.Proofs.YtjnidopbdjbbgaaGreat
open Go.RowKit
set_option linter.unusedVariables false
theorem once {G T:Prop} (h:G→T) (g:G):T:=h g
/-- A list whose m places from i on have been turned, as far as k from both sides. -/
def revTo (O:List Nat) (i m k:Nat):List Nat:=(List.range O.length).map fun p => if (i≤p∧p < i + k)∨(i + m≤p + k∧p < i + m) then O.getD (2 * i + m - 1 - p) 0 else O.getD p 0
theorem revTo_len (O:List Nat) (i m k:Nat):(revTo O i m k).length = O.length:=by simp [revTo]
theorem revTo_get (O:List Nat) (i m k:Nat) {p:Nat} (hp:p < O.length):(revTo O i m k)[p]? = some (if (i≤p∧p < i + k)∨(i + m≤p + k∧p < i + m) then O.getD (2 * i + m - 1 - p) 0 else O.getD p 0):=by
 unfold revTo
 rw [List.getElem?_map,List.getElem?_range hp]
 rfl
theorem revTo_zero (O:List Nat) (i m:Nat):revTo O i m 0 = O:=by
 refine List.ext_getElem? fun p => ?_
 rcases Nat.lt_or_ge p O.length with h | h
 · rw [revTo_get O i m 0 h,if_neg (by omega),List.getD_eq_getElem?_getD,List.getElem?_eq_getElem h]
   rfl
 · rw [List.getElem?_eq_none (by rw [revTo_len];exact h),List.getElem?_eq_none h]
theorem revTo_succ (O:List Nat) (i m k:Nat) (hm:i + m≤O.length) (hk:2 * k + 1 < m):
 ((revTo O i m k).set (i + k) ((revTo O i m k).getD (i + (m - 1 - k)) 0)).set (i + (m - 1 - k)) ((revTo O i m k).getD (i + k) 0) = revTo O i m (k + 1):=by
 have e1:(revTo O i m k).getD (i + (m - 1 - k)) 0 = O.getD (i + (m - 1 - k)) 0:=by
  rw [List.getD_eq_getElem?_getD,revTo_get O i m k (by omega),if_neg (by omega)]
  rfl
 have e2:(revTo O i m k).getD (i + k) 0 = O.getD (i + k) 0:=by
  rw [List.getD_eq_getElem?_getD,revTo_get O i m k (by omega),if_neg (by omega)]
  rfl
 rw [e1,e2]
 refine List.ext_getElem? fun p => ?_
 rcases Nat.lt_or_ge p O.length with h | h
 · rw [List.getElem?_set,List.getElem?_set,revTo_get O i m (k + 1) h,List.length_set,revTo_len]
   by_cases h1:i + (m - 1 - k) = p
   · rw [if_pos h1,if_pos (by omega),if_pos (by omega)]
     congr 2
     omega
   · rw [if_neg h1]
     by_cases h2:i + k = p
     · rw [if_pos h2,if_pos (by omega),if_pos (by omega)]
       congr 2
       omega
     · rw [if_neg h2,revTo_get O i m k h]
       by_cases h3:(i≤p∧p < i + k)∨(i + m≤p + k∧p < i + m)
       · rw [if_pos h3,if_pos (by omega)]
       · rw [if_neg h3,if_neg (by omega)]
 · rw [List.getElem?_eq_none (by rw [List.length_set,List.length_set,revTo_len];exact h),List.getElem?_eq_none (by rw [revTo_len];exact h)]
/-- .. wholly. -/
theorem revTo_all (O:List Nat) (i m k:Nat) (hm:i + m≤O.length) (hk:m≤2 * k + 1) (hk2:2 * k≤m):revTo O i m k = O.take i ++ (((O.drop i).take m).reverse ++ O.drop (i + m)):=by
 refine List.ext_getElem? fun p => ?_
 have hl:((O.drop i).take m).length = m:=by rw [List.length_take,List.length_drop];omega
 rcases Nat.lt_or_ge p O.length with h | h
 · rw [revTo_get O i m k h]
   rcases Nat.lt_or_ge p i with h1 | h1
   · rw [if_neg (by omega),List.getElem?_append_left (by rw [List.length_take];omega),List.getElem?_take,if_pos h1,List.getD_eq_getElem?_getD,List.getElem?_eq_getElem h]
     rfl
   · rw [List.getElem?_append_right (by rw [List.length_take];omega),List.length_take,Nat.min_eq_left (by omega)]
     rcases Nat.lt_or_ge p (i + m) with h2 | h2
     · rw [List.getElem?_append_left (by rw [List.length_reverse,hl];omega),List.getElem?_reverse (by rw [hl];omega),hl,List.getElem?_take_of_lt (by omega),List.getElem?_drop]
       have hq:i + (m - 1 - (p - i)) < O.length:=by omega
       by_cases h3:(i≤p∧p < i + k)∨(i + m≤p + k∧p < i + m)
       · rw [if_pos h3,List.getD_eq_getElem?_getD,show 2 * i + m - 1 - p = i + (m - 1 - (p - i)) from by omega,List.getElem?_eq_getElem hq]
         rfl
       · rw [if_neg h3,List.getD_eq_getElem?_getD,show i + (m - 1 - (p - i)) = p from by omega,List.getElem?_eq_getElem h]
         rfl
     · rw [if_neg (by omega),List.getElem?_append_right (by rw [List.length_reverse,hl];omega),List.length_reverse,hl,List.getElem?_drop,List.getD_eq_getElem?_getD,show i + m + (p - i - m) = p from by omega,List.getElem?_eq_getElem h]
       rfl
 · rw [List.getElem?_eq_none (by rw [revTo_len];exact h),List.getElem?_eq_none (by rw [List.length_append,List.length_append,List.length_reverse,hl,List.length_take,List.length_drop];omega)]
/-- Two places of an own slice, one for the other. -/
theorem Own.swap {w:World} {B g N C:Nat} {X:List Nat} (h:Own w B 1 (some ⟨g,0,none⟩) N C (X.map natV)) {p q x y:Nat} (hp:p < N) (hq:q < N):
 Own ((w.setCell ⟨g,p,none⟩ (natV x)).setCell ⟨g,q,none⟩ (natV y)) B 1 (some ⟨g,0,none⟩) N C (((X.set p x).set q y).map natV):=by
 rw [List.map_set,List.map_set]
 exact (h.stored p hp _).stored q hq _
set_option maxRecDepth 20000 in
set_option maxHeartbeats 8000000 in
theorem reverse_any (w:World) (B g N C:Nat) (O:List Nat) (i m c:Nat) (hO:Own w B 1 (some ⟨g,0,none⟩) N C (O.map natV)) (hN:N≤1048576) (hm:i + m≤N):
 Calls Tryz.prog 60 #[.slice (some ⟨g,i,none⟩) m c] w fun e w' => e = .returned (.tuple #[])∧Own w' B 1 (some ⟨g,0,none⟩) N C ((O.take i ++ (((O.drop i).take m).reverse ++ O.drop (i + m))).map natV)∧Below B w w':=by
 have hOl:O.length = N:=by have:=hO.len;rw [List.length_map] at this;omega
 have HO:=Lib.hid hO
 have HL:=Lib.hid hOl
 have hm2:(m:Int)≤1048576:=by omega
 have hm0:(0:Int)≤(m:Int):=by omega
 clear hO hOl
 go_enter Tryz.func60,Tryz.ntmps60
 go_wp2
 go_loopg [2,3] m (fun r a b wr => ∃ (k:Nat) (bv:Int),k + r = m∧2 * k≤m∧a = .int .i64 k∧b = .int .i64 bv∧bv = (m:Int) - 1 - k∧Own wr B 1 (some ⟨g,0,none⟩) N C ((revTo O i m k).map natV)∧Below B w wr)
 case atStart => exact ⟨0,_,by omega,by omega,rfl,rfl,by omega,by rw [revTo_zero];exact HO.out,Below.refl _ _⟩
 case round =>
  obtain ⟨k,bv,hk,hk2,rfl,rfl,hbv,hX,hB⟩:=hrel
  obtain ⟨wa,rfl⟩:∃ wa:World,wa = wr:=⟨_,rfl⟩
  have HX:=Lib.hid hX
  have HB:=Lib.hid hB
  have HK:=Lib.hid hk
  clear hX hB hk
  by_cases hlt:2 * k + 1 < m
  · obtain ⟨j,hj⟩:∃ j,j + k + 1 = m:=⟨m - 1 - k,by omega⟩
    obtain rfl:bv = (j:Int):=by omega
    clear hbv
    have hXl:(revTo O i m k).length = N:=by rw [revTo_len,HL.out]
    obtain ⟨x,hx⟩:∃ x,(revTo O i m k)[i + k]? = some x:=⟨_,List.getElem?_eq_getElem (by omega)⟩
    obtain ⟨y,hy⟩:∃ y,(revTo O i m k)[i + j]? = some y:=⟨_,List.getElem?_eq_getElem (by omega)⟩
    have cx:=(HX.out.getm hx).1
    have fx:=(HX.out.getm hx).2
    have cy:=(HX.out.getm hy).1
    have fy:=(HX.out.getm hy).2
    have hsw:=revTo_succ O i m k (by have:=HL.out;omega) hlt
    rw [show m - 1 - k = j from by omega,show (revTo O i m k).getD (i + j) 0 = y from by rw [List.getD_eq_getElem?_getD,hy];rfl,show (revTo O i m k).getD (i + k) 0 = x from by rw [List.getD_eq_getElem?_getD,hx];rfl] at hsw
    have hown:=HX.out.swap (x:=y) (y:=x) (p:=i + k) (q:=i + j) (by omega) (by omega)
    rw [hsw] at hown
    have HOW:=Lib.hid hown
    have HBE:=Lib.hid (show Below B w ((wa.setCell ⟨g,i + k,none⟩ (natV y)).setCell ⟨g,i + j,none⟩ (natV x)) from (HX.out.stored (i + k) (by omega) (natV y)).storeBelow (HX.out.storeBelow HB.out _ _) _ _)
    unfold natV at cx cy HOW HBE
    have cy2:(wa.setCell ⟨g,i + k,none⟩ (.int .i64 y)).cell? ⟨g,i + j,none⟩ = some (.int .i64 y):=by
     rw [World.cell?_setCell_other _ _ _ _ (by simp <;> omega)]
     exact cy
    have k0:(0:Int)≤(k:Int):=by omega
    have k1:(k:Int) < (j:Int):=by omega
    have k2:(k:Int) < (m:Int):=by omega
    have k3:(j:Int) < (m:Int):=by omega
    have k4:(0:Int)≤(j:Int):=by omega
    have k5:(j:Int)≤1048576:=by omega
    have k6:(k:Int)≤1048576:=by omega
    have HJ:=Lib.hid hj
    have HLT:=Lib.hid hlt
    clear hx hy hsw hown hXl hj hlt
    go_wp2_with fail
    apply once
    case h =>
     intro hh
     go_region_with (fail)
     all_goals exact hh
    go_wp2
    go_roundg (gk - 1)
    case measure => have:=HK.out;have:=HLT.out;omega
    case rel => exact ⟨k + 1,_,by have:=HK.out;have:=HLT.out;omega,by have:=HLT.out;omega,by go_num,rfl,by have:=HJ.out;omega,HOW.out.drew,HBE.out.drew⟩
  · have hnl:¬ (k:Int) < bv:=by omega
    have HE:Hid (revTo O i m k = O.take i ++ (((O.drop i).take m).reverse ++ O.drop (i + m))):=Lib.hid (revTo_all O i m k (by have:=HL.out;omega) (by omega) hk2)
    clear hbv hlt
    go_wp2
    go_end0
    exact ⟨rfl,by have h:=HX.out;rw [HE.out] at h;simpa using h,HB.out⟩
end Go.Proofs.YtjnidopbdjbbgaaGreat
end
/-
  The reference: the places kept, what stands beside, one paragraph: they end; walked.
-/
section
namespace Go.Proofs.YtjnidopbdjbbgaaGreat
open Go.RowKit
set_option linter.unusedVariables false
set_option maxRecDepth 20000
set_option maxHeartbeats 4000000
theorem xkept_any (w:World) (a:Option Addr) (c:Nat) (l:List Nat) (hn:l.length≤1099511627776) (hc:Cells w a (l.map u8V)):
 Calls Tryz.prog 124 #[.slice a l.length c] w fun e w' => ∃ a' c',e = .returned (.slice a' (keptOf l).length c')∧Own w' w.heap.size 1 a' (keptOf l).length c' ((keptOf l).map natV)∧Below w.heap.size w w':=by
 obtain ⟨i0,hi,hz0,hz1,hz2⟩:=info_parts info3
 have HC:=Lib.hid hc
 have H23:=Lib.hid (fun w x => xremoved_any w x)
 obtain ⟨n,hnn⟩:∃ n,n = l.length:=⟨_,rfl⟩
 have HN:=Lib.hid hnn
 rw [← hnn] at hn ⊢
 clear hc hnn
 go_enter Tryz.func124,Tryz.ntmps124
 go_wp2
 go_loopg [3,4] n (fun r v i wr => ∃ (k c:Nat) (a:Option Addr),k + r = n∧i = .int .i64 k∧v = .slice a (keptTo l k).length c∧Own wr w.heap.size 1 a (keptTo l k).length c ((keptTo l k).map natV)∧Below w.heap.size w wr)
 case atStart => exact ⟨0,0,none,by omega,rfl,rfl,Own.nil _ _ _,Below.refl _ _⟩
 case round =>
  obtain ⟨k,c4,a4,hk,rfl,rfl,hown,hb⟩:=hrel
  by_cases hlt:k < n
  · obtain ⟨x,hx⟩:∃ x,l[k]? = some x:=⟨_,List.getElem?_eq_getElem (by rw [← HN.out];exact hlt)⟩
    obtain ⟨bb,oo,rfl,hcx⟩:=(HC.out.below hb).getm hx
    unfold u8V at hcx
    have hke:=keptTo_succ hx
    have HR:=Lib.hid (fun w => H23.out w x)
    have HO:=Lib.hid hown
    have HB:=Lib.hid hb
    have HK:=Lib.hid hk
    have hkl:(keptTo l k).length≤1099511627776:=by have:=keptTo_le l k;omega
    have hk0:(0:Int)≤(k:Int):=by omega
    have hk1:(k:Int) < (n:Int):=by omega
    change keptTo l (k + 1) = keptTo l k ++ if rem x = true then [] else [k] at hke
    cases hr:rem x with
    | true =>
     rw [hr,if_pos rfl,List.append_nil] at hke
     have HKE:=Lib.hid hke
     have HR2:Hid (∀ w,Calls Tryz.prog 90 #[.int .u8 x] w fun e w' => e = .returned (.bool true)∧w = w'):=Lib.hid fun w => by have:=HR.out w;rw [hr] at this;exact this
     clear hx hown hb hk hke hr HR
     go_wp2_with (go_at_call 90;refine (HR2.out _).mono ?_;rintro e w2 ⟨rfl,rfl⟩)
     go_roundg (gk - 1)
     case measure => have:=HK.out;omega
     case rel => exact ⟨k + 1,c4,a4,by have:=HK.out;omega,by go_num,by rw [HKE.out],by rw [HKE.out];exact HO.out,HB.out⟩
    | false =>
     rw [hr,if_neg (by decide)] at hke
     have HKE:=Lib.hid hke
     have HR2:Hid (∀ w,Calls Tryz.prog 90 #[.int .u8 x] w fun e w' => e = .returned (.bool false)∧w = w'):=Lib.hid fun w => by have:=HR.out w;rw [hr] at this;exact this
     clear hx hown hb hk hke hr HR
     go_wp2_with (first | (go_at_call 90;refine (HR2.out _).mono ?_;rintro e w2 ⟨rfl,rfl⟩) | (at_builtin;refine wpList_push rfl _ _ 33 rfl 3 i0 (.int .i64 0) 8 Tryz.underlying33 hi hz0 hz1 hz2 rfl rfl w.heap.size a4 (keptTo l k).length c4 _ rfl _ _ rfl HO.out _ rfl rfl rfl (by omega) (by decide) HB.out.size ?_;intro a5 c5 w5 hown5 hap5 hb5;have HO5:=Lib.hid hown5;have HB5:=Lib.hid hb5;clear hown5 hap5 hb5))
     go_roundg (gk - 1)
     case measure => have:=HK.out;omega
     case rel => exact ⟨k + 1,c5,a5,by have:=HK.out;omega,by go_num,by rw [HKE.out,List.length_append];rfl,by rw [HKE.out,List.length_append,List.map_append];exact HO5.out,HB.out.trans HB5.out⟩
  · obtain rfl:k = n:=by omega
    have HO:=Lib.hid (show Own wr w.heap.size 1 a4 (keptOf l).length c4 ((keptOf l).map natV) by unfold keptOf;rw [← HN.out];exact hown)
    have HB:=Lib.hid hb
    clear hown hb hk hlt
    go_wp2
    go_ret
    exact ⟨a4,c4,by unfold keptOf;rw [← HN.out];rfl,HO.out,HB.out⟩
theorem xpara_any (w:World) (a:Option Addr) (c:Nat) (l:List Nat) (hn:l.length≤1048576) (hc:Cells w a (l.map u8V)):
 Calls Tryz.prog 29 #[.slice none 0 0,.slice a l.length c] w fun e w' => e = .returned (.bool (lastB l))∧w = w':=by
 have HC:=Lib.hid hc
 obtain ⟨n,hnn⟩:∃ n,n = l.length:=⟨_,rfl⟩
 have HN:=Lib.hid hnn
 rw [← hnn] at hn ⊢
 have hn2:(n:Int)≤1048576:=by omega
 clear hc hnn
 go_enter Tryz.func29,Tryz.ntmps29
 go_wp2
 go_loopg [5] n (fun r i wr => ∃ k:Nat,k + r = n∧i = .int .i64 k∧w = wr∧∀ j,j < k→l.getD j 0≠11∨j + 1 = n)
 case atStart => exact ⟨0,by omega,rfl,rfl,fun j hj => by omega⟩
 case round =>
  obtain ⟨k,hk,rfl,rfl,hall⟩:=hrel
  have HALL:=Lib.hid hall
  clear hall
  by_cases hlt:k < n
  · obtain ⟨x,hx⟩:∃ x,l[k]? = some x:=⟨_,List.getElem?_eq_getElem (by rw [← HN.out];exact hlt)⟩
    obtain ⟨b,o,rfl,hcx⟩:=HC.out.getm hx
    unfold u8V at hcx
    have HX:=Lib.hid hx
    have HK:=Lib.hid hk
    have hk0:(0:Int)≤(k:Int):=by omega
    have hk1:(k:Int) < (n:Int):=by omega
    have hxD:l.getD k 0 = x:=by rw [List.getD_eq_getElem?_getD,hx];rfl
    have HXD:=Lib.hid hxD
    clear hx hk hxD
    by_cases h11:x = 11
    · subst h11
      by_cases hl:k + 1 = n
      · have hd:decide ((k:Int) = (n:Int) - 1) = true:=by simp;omega
        have hd2:((k:Int) == (n:Int) - 1) = true:=by simp;omega
        have HL:=Lib.hid hl
        clear hl
        go_wp2
        go_roundg (gk - 1)
        case measure => have:=HK.out;omega
        case rel => exact ⟨k + 1,by have:=HK.out;omega,by go_num,rfl,fun j hj => by rcases Nat.lt_or_ge j k with h | h;exact HALL.out j h;exact .inr (by have:=HL.out;omega)⟩
      · have hd2:((k:Int) == (n:Int) - 1) = false:=by simp;omega
        have HF:Hid (lastB l = false):=Lib.hid (by
         rw [Bool.eq_false_iff,ne_eq,lastB_iff]
         intro h
         have:=h k HX.out
         have:=HN.out
         omega)
        cases hd3:((k:Int) == (n:Int) - 2) with
        | true =>
         go_wp2
         go_ret
         exact ⟨by rw [HF.out];rfl,rfl⟩
        | false =>
         go_wp2
         go_ret
         exact ⟨by rw [HF.out];rfl,rfl⟩
    · have hne:((x:Int) != 11) = true:=by simp;omega
      have HNE:=Lib.hid h11
      clear h11
      go_wp2
      go_roundg (gk - 1)
      case measure => have:=HK.out;omega
      case rel => exact ⟨k + 1,by have:=HK.out;omega,by go_num,rfl,fun j hj => by rcases Nat.lt_or_ge j k with h | h;exact HALL.out j h;exact .inl (by rw [show j = k by omega,HXD.out];exact HNE.out)⟩
  · obtain rfl:n = k:=by omega
    have HT:Hid (lastB l = true):=Lib.hid (by
     rw [lastB_iff]
     intro i hi
     have hl:=(List.getElem?_eq_some_iff.1 hi).1
     rcases HALL.out i (by rw [HN.out];exact hl) with h | h
     · rw [List.getD_eq_getElem?_getD,hi] at h;exact absurd rfl h
     · rw [h,HN.out])
    clear hk hlt
    go_wp2
    go_ret
    exact ⟨by rw [HT.out];rfl,rfl⟩
/-- The levels of the kept places may be. -/
def LvIn (l:List Nat) (lv:List Int):Prop:=∀ (i x:Nat) (v:Int),l[i]? = some x→rem x = false→lv[i]? = some v→-128≤v∧v≤127
theorem kept_in {l:List Nat} {p:Nat} (h:p∈keptOf l):∃ x,l[p]? = some x∧rem x = false:=by
 unfold keptOf keptTo at h
 obtain ⟨h1,h2⟩:=List.mem_filter.1 h
 have h3:=List.mem_range.1 h1
 refine ⟨l[p],List.getElem?_eq_getElem h3,?_⟩
 rw [List.getD_eq_getElem?_getD,List.getElem?_eq_getElem h3] at h2
 simpa using h2
theorem xbeside_any (w:World) (a la:Option Addr) (n c lc p:Nat) (step base:Int) (l:List Nat) (lv:List Int) (hn:l.length = n) (hl:lv.length = n) (hb:n≤1048576) (hp:p < n) (hs:step = 1∨step = -1) (hbs:-128≤base∧base≤127) (hlv:LvIn l lv) (hc:Cells w a (l.map u8V)) (hcl:Cells w la (lv.map i8V)):
 Calls Tryz.prog 94 #[.slice a n c,.slice la n lc,.int .i64 p,.int .i64 step,.int .i8 base] w fun e w' => (∃ v:Int,e = .returned (.int .i8 v)∧-128≤v∧v≤127)∧w = w':=by
 have HC:=Lib.hid hc
 have HCL:=Lib.hid hcl
 have HN:=Lib.hid hn
 have HL:=Lib.hid hl
 have HBS:=Lib.hid hbs
 have HLV:=Lib.hid hlv
 have hp2:(p:Int)≤1048576:=by omega
 have hnb:(n:Int)≤1048576:=by omega
 have hs1:-1≤step∧step≤1:=by omega
 have HS:=Lib.hid hs
 have HP:=Lib.hid hp
 obtain ⟨hs2,hs3⟩:=hs1
 clear hc hcl hn hl hbs hlv hs hp
 go_enter Tryz.func94,Tryz.ntmps94
 go_wp2
 go_loopg [11] (n + 1) (fun r i wr => ∃ x:Int,i = .int .i64 x∧w = wr∧-1≤x∧x≤n∧((step = 1∧(n:Int) - x≤r)∨(step = -1∧x + 1≤r)))
 case atStart =>
  have h1:=HP.out
  rcases HS.out with h | h
  · exact ⟨(p:Int) + step,by go_num,rfl,by omega,by omega,.inl ⟨h,by omega⟩⟩
  · exact ⟨(p:Int) + step,by go_num,rfl,by omega,by omega,.inr ⟨h,by omega⟩⟩
 case round =>
  obtain ⟨x,rfl,rfl,hx1,hx2,hx3⟩:=hrel
  have HX:=Lib.hid hx3
  clear hx3
  by_cases h0:x < 0
  · have hx0:¬ x ≥ 0:=by omega
    clear h0
    go_wp2
    go_ret
    exact ⟨⟨base,rfl,HBS.out⟩,rfl⟩
  by_cases h1:(n:Int)≤x
  · have hx0:x ≥ 0:=by omega
    have hxn:¬ x < (n:Int):=by omega
    clear h0 h1
    go_wp2
    go_ret
    exact ⟨⟨base,rfl,HBS.out⟩,rfl⟩
  obtain ⟨q,rfl⟩:=Int.eq_ofNat_of_zero_le (show 0≤x by omega)
  obtain ⟨y,hy⟩:∃ y,l[q]? = some y:=⟨_,List.getElem?_eq_getElem (by have:=HN.out;omega)⟩
  obtain ⟨v,hv⟩:∃ v,lv[q]? = some v:=⟨_,List.getElem?_eq_getElem (by have:=HL.out;omega)⟩
  obtain ⟨b,o,rfl,hcy⟩:=HC.out.getm hy
  obtain ⟨b2,o2,rfl,hcv⟩:=HCL.out.getm hv
  unfold u8V at hcy
  unfold i8V at hcv
  have HVL:=Lib.hid (fun hr => HLV.out q y v hy hr hv)
  have hx0:(q:Int) ≥ 0:=by omega
  have hxn:(q:Int) < (n:Int):=by omega
  clear h0 h1 hy hv
  cases hr:rem y with
  | true =>
   have HR:Hid (∀ w,Calls Tryz.prog 90 #[.int .u8 y] w fun e w' => e = .returned (.bool true)∧w = w'):=Lib.hid fun w => by have:=xremoved_any w y;rw [hr] at this;exact this
   clear hr
   go_wp2_with (go_at_call 90;refine (HR.out _).mono ?_;rintro e w2 ⟨rfl,rfl⟩)
   go_roundg (gk - 1)
   case measure => have:=HX.out;omega
   case rel => exact ⟨(q:Int) + step,by go_num,rfl,by omega,by omega,by rcases HX.out with ⟨h,h5⟩ | ⟨h,h5⟩;exact .inl ⟨h,by omega⟩;exact .inr ⟨h,by omega⟩⟩
  | false =>
   have HR:Hid (∀ w,Calls Tryz.prog 90 #[.int .u8 y] w fun e w' => e = .returned (.bool false)∧w = w'):=Lib.hid fun w => by have:=xremoved_any w y;rw [hr] at this;exact this
   have HRF:=Lib.hid hr
   clear hr
   go_wp2_with (go_at_call 90;refine (HR.out _).mono ?_;rintro e w2 ⟨rfl,rfl⟩)
   go_ret
   exact ⟨⟨v,rfl,HVL.out HRF.out⟩,rfl⟩
end Go.Proofs.YtjnidopbdjbbgaaGreat
end
/-
  The levels of the line that is the paragraph: walked, where it may be.
-/
section
namespace Go.Proofs.YtjnidopbdjbbgaaGreat
open Go.RowKit
set_option linter.unusedVariables false
/-- Some levels, or the base where they are. -/
def Reset (base:Int) (lv X:List Int):Prop:=X.length = lv.length∧∀ (j:Nat) (v x:Int),lv[j]? = some v→X[j]? = some x→x = v∨(v≠-1∧x = base)
theorem Reset.refl (base:Int) (lv:List Int):Reset base lv lv:=⟨rfl,fun j v x h1 h2 => by rw [h1] at h2;cases h2;exact .inl rfl⟩
theorem Reset.set {base:Int} {lv X:List Int} (h:Reset base lv X) (hb:0≤base) {j:Nat} {x:Int} (hx:X[j]? = some x) (hne:x≠-1):Reset base lv (X.set j base):=by
 refine ⟨by rw [List.length_set];exact h.1,fun i v y h1 h2 => ?_⟩
 rw [List.getElem?_set] at h2
 split at h2
 · rename_i e
   subst e
   split at h2
   · cases h2
     rcases h.2 j v x h1 hx with h3 | h3
     · exact .inr ⟨by rw [← h3];exact hne,rfl⟩
     · exact .inr ⟨h3.1,rfl⟩
   · cases h2
 · exact h.2 i v y h1 h2
set_option maxRecDepth 20000 in
set_option maxHeartbeats 8000000 in
theorem line_any (w:World) (base:Int) (ca la:Option Addr) (cc lc:Nat) (cl:List Nat) (lv:List Int) (n:Nat) (hb:base = 0∨base = 1) (hcn:cl.length = n) (hln:lv.length = n) (hn:n≤1048576) (hcap:n≤lc) (hc:Cells w ca (cl.map u8V)) (hl:Cells w la (lv.map i8V))
 (hall:∀ (i c:Nat) (v:Int),cl[i]? = some c→lv[i]? = some v→MayAt base c v):
 Calls Tryz.prog 32 #[.agg #[.int .i8 base,.slice ca n cc,.slice la n lc],.agg #[.int .i64 0,.int .i64 n]] w fun e w' => ∃ oa oc X,e = .returned (.tuple #[.slice oa n oc,.int .i64 0])∧Own w' w.heap.size 1 oa n oc (X.map i8V)∧Reset base lv X∧Below w.heap.size w w':=by
 obtain ⟨N1,hN1⟩:∃ N1,N1 = w.heap.size:=⟨_,rfl⟩
 obtain ⟨V,hV⟩:∃ V,V = (w.alloc (.cells #[.int .i8 base,.slice ca n cc,.slice la n lc] 29)).alloc (.cells #[.int .i64 0,.int .i64 n] 66):=⟨_,rfl⟩
 have hbel:Below w.heap.size w V:=by rw [hV];exact ((Below.refl _ _).alloc (Nat.le_refl _) _).alloc (by simp) _
 have hb1:V.heap[N1]? = some (.cells #[.int .i8 base,.slice ca n cc,.slice la n lc] 29):=by
  rw [hV,hN1]
  exact ((Below.refl (w.alloc (.cells #[.int .i8 base,.slice ca n cc,.slice la n lc] 29)).heap.size _).alloc (Nat.le_refl _) _).block _ (by simp) |>.trans (heap_alloc_new _ _)
 have hb2:V.heap[N1 + 1]? = some (.cells #[.int .i64 0,.int .i64 n] 66):=by
  have:=heap_alloc_new (w.alloc (.cells #[.int .i8 base,.slice ca n cc,.slice la n lc] 29)) (.cells #[.int .i64 0,.int .i64 n] 66)
  rw [World.size_alloc] at this
  rw [hV,hN1]
  exact this
 have HB1:=Lib.hid hb1
 have HB2:=Lib.hid hb2
 have HBE:=Lib.hid hbel
 have HC:=Lib.hid (hc.below hbel)
 have HL:=Lib.hid (hl.below hbel)
 have HALL:=Lib.hid hall
 have HCN:=Lib.hid hcn
 have HLN:=Lib.hid hln
 have HV:=Lib.hid hV
 have HN:=Lib.hid hN1
 have HCK:=Lib.hid (checkE_any V base ca la cc lc cl lv n hb hcn hln hn HC.out HL.out hall)
 have hn2:(n:Int)≤1048576:=by omega
 clear hc hl hall hcn hln hV hN1 hb1 hb2 hbel
 go_enter Tryz.func32,Tryz.ntmps32
 go_upto_region 1 with (fail)
 rw [← HN.out,← HV.out]
 have e0:=cells_at HB1.out 0
 have e1:=cells_at HB1.out 1
 have e2:=cells_at HB1.out 2
 have d0:=cells_at HB2.out 0
 have d1:=cells_at HB2.out 1
 have hn3:¬ (n:Int) < 0:=by omega
 have hn4:(n:Int)≤(lc:Int):=by omega
 go_step3
 go_wp2_with (with_reducible refine wpList_load_row rfl 29 _ rfl N1 rfl 29 _ (0,0) _ HB1.out Tryz.underlying29 rfl (by kernel_rfl) ?_)
 refine HCK.out.mono ?_
 rintro e W3 ⟨rfl,b3⟩
 have HB31:=Lib.hid ((b3.block N1 (Array.getElem?_eq_some_iff.1 HB1.out).1).trans HB1.out)
 have HB32:=Lib.hid ((b3.block (N1 + 1) (Array.getElem?_eq_some_iff.1 HB2.out).1).trans HB2.out)
 have HC3:=Lib.hid (HC.out.below b3)
 have HL3:=Lib.hid (HL.out.below b3)
 have HBE3:=Lib.hid (HBE.out.trans (b3.mono HBE.out.size))
 clear b3 e0 e1 e2 d0 d1
 have e0:=cells_at HB31.out 0
 have e1:=cells_at HB31.out 1
 have e2:=cells_at HB31.out 2
 have d0:=cells_at HB32.out 0
 have d1:=cells_at HB32.out 1
 go_wp2_with fail
 refine (cloneL_any W3 la n lc lv HLN.out (by omega) HL3.out).mono ?_
 rintro e W4 ⟨oa,oc,rfl,o4,b4⟩
 have HO4:=Lib.hid o4
 have HB4:=Lib.hid b4
 clear o4 b4 e0 e1 e2 d0 d1
 go_wp2
 go_step3
 go_wp2
 go_loopg [8,9] n (fun r rb i wr => ∃ (k:Nat) (iv:Int) (bb:Bool) (X:List Int),r = k∧k≤n∧i = .int .i64 iv∧iv = (k:Int) - 1∧rb = .bool bb∧Reset base lv X∧Own wr W3.heap.size 1 oa n oc (X.map i8V)∧Below W3.heap.size W3 wr)
 case atStart => exact ⟨n,_,true,lv,rfl,Nat.le_refl _,rfl,by omega,rfl,Reset.refl _ _,HO4.out,HB4.out⟩
 case round =>
  obtain ⟨k,iv,bb,X,hk,hkn,rfl,hiv,rfl,hX,hO,hB⟩:=hrel
  obtain ⟨wa,rfl⟩:∃ wa:World,wa = wr:=⟨_,rfl⟩
  have HX:=Lib.hid hX
  have HO:=Lib.hid hO
  have HB:=Lib.hid hB
  have HK:=Lib.hid hk
  clear hX hO hB hk
  cases k with
  | zero =>
   obtain rfl:iv = -1:=by omega
   clear hiv
   go_wp2
   try rw [Exit.noGoto_ret]
   go_ret2
   exact ⟨oa,oc,X,rfl,HO.out.mono HBE3.out.size,HX.out,HBE3.out.trans (HB.out.mono HBE3.out.size)⟩
  | succ j =>
   obtain rfl:iv = (j:Int):=by omega
   clear hiv
   obtain ⟨x,hx⟩:∃ x,cl[j]? = some x:=⟨_,List.getElem?_eq_getElem (by rw [HCN.out];omega)⟩
   obtain ⟨v,hv⟩:∃ v,lv[j]? = some v:=⟨_,List.getElem?_eq_getElem (by rw [HLN.out];omega)⟩
   obtain ⟨y,hy⟩:∃ y,X[j]? = some y:=⟨_,List.getElem?_eq_getElem (by rw [HX.out.1,HLN.out];omega)⟩
   obtain ⟨x1,x2,_⟩:=HALL.out j x v hx hv
   obtain ⟨g,rfl⟩:=HO.out.pos (by omega)
   obtain ⟨b,o,rfl,hcx⟩:=(HC3.out.below HB.out).getm hx
   have hcy:=(HO.out.getm hy).1
   have hfy:=(HO.out.getm hy).2
   unfold u8V at hcx
   unfold i8V at hcy
   have e0:=cells_at ((HB.out.block N1 (Array.getElem?_eq_some_iff.1 HB31.out).1).trans HB31.out) 0
   have e1:=cells_at ((HB.out.block N1 (Array.getElem?_eq_some_iff.1 HB31.out).1).trans HB31.out) 1
   have d0:=cells_at ((HB.out.block (N1 + 1) (Array.getElem?_eq_some_iff.1 HB32.out).1).trans HB32.out) 0
   have hj0:(0:Int)≤(j:Int):=by omega
   have hj1:(j:Int) < (n:Int):=by omega
   have hjn:j < n:=by omega
   have H59:=Lib.hid (fun w => blank_any w x x1 x2)
   have HY:=Lib.hid hy
   clear hx hv hy x1 x2
   have HST:Hid (y≠-1→Reset base lv (X.set j base)∧Own (wa.setCell ⟨g,j,none⟩ (.int .i8 base)) W3.heap.size 1 (some ⟨g,0,none⟩) n oc ((X.set j base).map i8V)∧Below W3.heap.size W3 (wa.setCell ⟨g,j,none⟩ (.int .i8 base))):=Lib.hid fun hne => by
    refine ⟨HX.out.set (by omega) HY.out hne,?_,HO.out.storeBelow HB.out j _⟩
    rw [List.map_set]
    exact HO.out.stored j hjn _
   by_cases hy1:y = -1
   · subst hy1
     go_wp2
     go_roundg (gk - 1)
     case measure => have:=HK.out;omega
     case rel => exact ⟨j,_,bb,X,by have:=HK.out;omega,by omega,rfl,by omega,rfl,HX.out,HO.out,HB.out⟩
   · have hy2:(y == -1) = false:=by simpa using hy1
     obtain ⟨r1,r2,r3⟩:=HST.out hy1
     have R1:=Lib.hid r1
     have R2:=Lib.hid r2
     have R3:=Lib.hid r3
     clear hy1 r1 r2 r3
     by_cases h12:x = 12
     · subst h12
       go_wp2
       go_roundg (gk - 1)
       case measure => have:=HK.out;omega
       case rel => exact ⟨j,_,true,X.set j base,by have:=HK.out;omega,by omega,rfl,by omega,rfl,R1.out,R2.out,R3.out⟩
     by_cases h11:x = 11
     · subst h11
       go_wp2
       go_roundg (gk - 1)
       case measure => have:=HK.out;omega
       case rel => exact ⟨j,_,true,X.set j base,by have:=HK.out;omega,by omega,rfl,by omega,rfl,R1.out,R2.out,R3.out⟩
     have e12:((x:Int) == 12) = false:=by simp;omega
     have e11:((x:Int) == 11) = false:=by simp;omega
     clear h12 h11
     cases hbl:([13,20,21,22,23]:List Nat).contains x with
     | false =>
      rw [hbl] at H59
      go_wp2_with (go_at_call 59;refine (H59.out _).mono ?_;rintro e w2 ⟨rfl,rfl⟩)
      go_roundg (gk - 1)
      case measure => have:=HK.out;omega
      case rel => exact ⟨j,_,false,X,by have:=HK.out;omega,by omega,rfl,by omega,rfl,HX.out,HO.out,HB.out⟩
     | true =>
      rw [hbl] at H59
      cases bb with
      | true =>
       go_wp2_with (go_at_call 59;refine (H59.out _).mono ?_;rintro e w2 ⟨rfl,rfl⟩)
       go_roundg (gk - 1)
       case measure => have:=HK.out;omega
       case rel => exact ⟨j,_,true,X.set j base,by have:=HK.out;omega,by omega,rfl,by omega,rfl,R1.out,R2.out,R3.out⟩
      | false =>
       go_wp2_with (go_at_call 59;refine (H59.out _).mono ?_;rintro e w2 ⟨rfl,rfl⟩)
       go_roundg (gk - 1)
       case measure => have:=HK.out;omega
       case rel => exact ⟨j,_,false,X,by have:=HK.out;omega,by omega,rfl,by omega,rfl,HX.out,HO.out,HB.out⟩
set_option maxRecDepth 20000 in
set_option maxHeartbeats 8000000 in
theorem wholeE_any (w:World) (base:Int) (ca la:Option Addr) (cc lc:Nat) (cl:List Nat) (lv:List Int) (n:Nat) (hb:base = 0∨base = 1) (hcn:cl.length = n) (hln:lv.length = n) (hn:n≤1048576) (hcap:n≤lc) (hc:Cells w ca (cl.map u8V)) (hl:Cells w la (lv.map i8V))
 (hall:∀ (i c:Nat) (v:Int),cl[i]? = some c→lv[i]? = some v→MayAt base c v):
 Calls Tryz.prog 13 #[.agg #[.int .i8 base,.slice ca n cc,.slice la n lc]] w fun e w' => ∃ oa oc X,e = .returned (.tuple #[.slice oa n oc,.int .i64 0])∧Own w' w.heap.size 1 oa n oc (X.map i8V)∧Reset base lv X∧Below w.heap.size w w':=by
 obtain ⟨N1,hN1⟩:∃ N1,N1 = w.heap.size:=⟨_,rfl⟩
 obtain ⟨V,hV⟩:∃ V,V = w.alloc (.cells #[.int .i8 base,.slice ca n cc,.slice la n lc] 29):=⟨_,rfl⟩
 have hbel:Below w.heap.size w V:=by rw [hV];exact (Below.refl _ _).alloc (Nat.le_refl _) _
 have HB1:=Lib.hid (show V.heap[N1]? = some (.cells #[.int .i8 base,.slice ca n cc,.slice la n lc] 29) from by rw [hV,hN1];exact heap_alloc_new _ _)
 have HLN:=Lib.hid (line_any V base ca la cc lc cl lv n hb hcn hln hn hcap (hc.below hbel) (hl.below hbel) hall)
 have HBE:=Lib.hid hbel
 have HN:=Lib.hid hN1
 have HV:=Lib.hid hV
 have e1:=cells_at HB1.out 1
 clear hc hl hall hV hN1 hbel hcn hln
 go_enter Tryz.func13,Tryz.ntmps13
 go_upto_region 1 with (fail)
 rw [← HN.out,← HV.out]
 go_wp2_with (with_reducible refine wpList_load_row rfl 29 _ rfl N1 rfl 29 _ (0,0) _ HB1.out Tryz.underlying29 rfl (by kernel_rfl) ?_)
 refine HLN.out.mono ?_
 rintro e W3 ⟨oa,oc,X,rfl,h1,h2,h3⟩
 have H1:=Lib.hid (h1.mono HBE.out.size)
 have H3:=Lib.hid (HBE.out.trans (h3.mono HBE.out.size))
 have H2:=Lib.hid h2
 clear h1 h2 h3
 go_wp2
 go_ret2
 exact ⟨oa,oc,X,rfl,H1.out,H2.out,H3.out⟩
end Go.Proofs.YtjnidopbdjbbgaaGreat
end
/-
  What TopHolds asks of the engine's levels: bounds, what is gone, parity, and all 0 where nothing turns. Plain laws: no walk.
-/
section
namespace Go.Proofs.YtjnidopbdjbbgaaGreat
open Go.RowKit
set_option linter.unusedVariables false
theorem engine_gone {b:Int} {l:List Nat} (hn:l.length≤1048576) (h23:∀ x∈l,1≤x∧x≤23) {p c:Nat} (hc:l[p]? = some c) (hr:rem c = true):(engineOf b l)[p]? = some (-1):=by
 have hb1:baseOf b l≤1:=by have:=baseOf_le b l;omega
 have hk:p ∉ keptOf l:=fun h => by
  have:=(mem_keptOf.1 h).2
  rw [List.getD_eq_getElem?_getD,hc] at this
  have h2:rem c = false:=this
  rw [hr] at h2
  cases h2
 have:=laid_none (base:=baseOf b l) (fun s hs => (good_all hb1 hn h23 s hs).2) hk
 unfold engineOf
 have h1:layAll (lvsOf (baseOf b l) l) (seqsOf l (nwsOf (baseOf b l) l) (lvsOf (baseOf b l) l) (baseOf b l)) cfC 2 = laidOf l (nwsOf (baseOf b l) l) (lvsOf (baseOf b l) l) (baseOf b l):=rfl
 rw [h1,this]
 obtain ⟨a,ha,⟨_,h2⟩ | ⟨h2,_⟩⟩:=expl_get hb1 hc
 · unfold lvsOf
   rw [List.getElem?_map,ha,h2]
   rfl
 · rw [hr] at h2;cases h2
/-- A kept place's level. -/
theorem engine_seq {b:Int} {l:List Nat} (hn:l.length≤1048576) (h23:∀ x∈l,1≤x∧x≤23) {p c:Nat} (hc:l[p]? = some c) (hr:rem c = false):
 ∃ w:Nat,(engineOf b l)[p]? = some (w:Int)∧baseOf b l≤w∧w≤126∧(ovOf l = false→(c = 1→w % 2 = 0)∧(c = 2∨c = 3→w % 2 = 1)):=by
 have hb1:baseOf b l≤1:=by have:=baseOf_le b l;omega
 have hg:=good_all hb1 hn h23
 have hk:p∈keptOf l:=mem_keptOf.2 ⟨(List.getElem?_eq_some_iff.1 hc).1,by rw [List.getD_eq_getElem?_getD,hc];exact hr⟩
 obtain ⟨s,hs,hps⟩:=seqs_cover (nw:=nwsOf (baseOf b l) l) (lv:=lvsOf (baseOf b l) l) (base:=baseOf b l) hk
 obtain ⟨k,hk2⟩:=List.mem_iff_getElem?.1 hps
 have hkl:=(List.getElem?_eq_some_iff.1 hk2).1
 obtain ⟨d,hd⟩:∃ d,(cfC s 2)[k]? = some d:=⟨_,List.getElem?_eq_getElem (by rw [cfC_len (hg s hs).1];exact hkl)⟩
 have hs1:=seqs_good hb1 hn h23 s hs
 have hl:=seq_levels s.lv s.sos s.eos (wayOf s.lv) hs1.lv hs1.ok.sos (way_one _) s.cs hs1.ok.cl
 obtain ⟨c',k',h1,h2,h3,h4⟩:=nws_kept hb1 h23 hk
 rw [hc] at h1
 cases h1
 have hcs:s.cs[k]? = some k':=by rw [hs1.cs k p hk2,List.getD_eq_getElem?_getD,h2];rfl
 have hm:((restOf s.sos s.eos (wayOf s.lv) (weakOf s.sos s.cs)).map (levelOf s.lv))[k]? = some (levelOf s.lv d):=by
  rw [List.getElem?_map]
  have:(restOf s.sos s.eos (wayOf s.lv) (weakOf s.sos s.cs))[k]? = some d:=hd
  rw [this]
  rfl
 obtain ⟨g1,g2,g3,g4⟩:=hl.2 k _ _ hcs hm
 refine ⟨levelOf s.lv d,laid_at (fun s hs => (hg s hs).1) hs hk2 hd (by rw [lvs_len];exact kept_lt hk),Nat.le_trans hs1.ge g1,g2,fun ho => ?_⟩
 have hkc:k' = c:=by
  rcases h4 with h4 | h4
  · exact h4
  · rw [ho] at h4;cases h4
 rw [hkc] at g3 g4
 exact ⟨g3,g4⟩
/-- **What Check, and TopHolds, ask of each place.** -/
theorem engine_may {b:Int} {l:List Nat} (hn:l.length≤1048576) (h23:∀ x∈l,1≤x∧x≤23) (i c:Nat) (v:Int) (hc:l[i]? = some c) (hv:(engineOf b l)[i]? = some v):MayAt (baseOf b l) c v:=by
 obtain ⟨h1,h2⟩:=h23 c (List.mem_of_getElem? hc)
 cases hr:rem c with
 | true =>
  rw [engine_gone hn h23 hc hr] at hv
  cases hv
  exact ⟨h1,h2,.inl ⟨hr,rfl⟩⟩
 | false =>
  obtain ⟨w,e1,e2,e3,_⟩:=engine_seq (b:=b) hn h23 hc hr
  rw [e1] at hv
  cases hv
  exact ⟨h1,h2,.inr ⟨hr,by omega,by omega⟩⟩
/-- L, or a neutral one that is no isolate's. -/
def PlainC (c:Nat):Prop:=c = 1∨c = 11∨c = 12∨c = 13∨c = 14
theorem each2_id {l m:List Nat} (h:Each2 (fun x y => PlainC x→y = x) l m) (hl:∀ c∈l,PlainC c):m = l:=by
 refine List.ext_getElem h.1.symm fun i h1 h2 => ?_
 exact h.2 i _ _ (List.getElem?_eq_getElem h2) (List.getElem?_eq_getElem h1) (hl _ (List.getElem_mem h2))
theorem plain_weak (sos:Nat) (hs:sos = 1∨sos = 2) (l:List Nat) (hl:∀ c∈l,PlainC c):weakOf sos l = l:=by
 have hcl:∀ c∈l,Cl c:=fun c hc => by have:=hl c hc;unfold PlainC at this;unfold Cl;omega
 have h1:=w1_each sos hs l hcl
 have e1:scan w1 sos l = l:=each2_id ⟨h1.1,fun i x y a b hp => (h1.2 i x y a b).1 (by unfold PlainC at hp;omega)⟩ hl
 have h2:=w2_each sos l (fun c hc => ⟨hcl c hc,by have:=hl c hc;unfold PlainC at this;omega⟩)
 have e2:scan w2 sos l = l:=each2_id ⟨h2.1,fun i x y a b hp => (h2.2 i x y a b).1 (by unfold PlainC at hp;omega)⟩ hl
 have e3:l.map w3 = l:=by
  conv => rhs;rw [← List.map_id l]
  refine List.map_congr_left fun c hc => ?_
  have:=hl c hc
  unfold PlainC at this
  unfold w3
  rw [if_neg (by omega)]
  rfl
 have h4:=w4_each l 0
 have e4:w4 0 l = l:=each2_id ⟨h4.1,fun i x y a b hp => (h4.2 i x y a b).1 (by unfold PlainC at hp;omega) (by unfold PlainC at hp;omega)⟩ hl
 have h5:=w5_each l 0 0
 simp only [List.replicate_zero,List.nil_append] at h5
 have e5:w5 0 0 l = l:=each2_id ⟨h5.1,fun i x y a b hp => (h5.2 i x y a b).1 (by unfold PlainC at hp;omega)⟩ hl
 have e6:l.map w6 = l:=by
  conv => rhs;rw [← List.map_id l]
  refine List.map_congr_left fun c hc => ?_
  have:=hl c hc
  unfold PlainC at this
  unfold w6
  rw [if_neg (by omega)]
  rfl
 have h7:=w7_each sos l
 have e7:scan w7 sos l = l:=each2_id ⟨h7.1,fun i x y a b hp => (h7.2 i x y a b).1 (by unfold PlainC at hp;omega)⟩ hl
 unfold weakOf
 rw [e1,e2,e3,e4,e5,e6,e7]
theorem plain_rest (l:List Nat) (hl:∀ c∈l,PlainC c):∀ n,n12 1 1 1 n l = List.replicate (n + l.length) 1:=by
 induction l with
 | nil => intro n;rfl
 | cons c l ih =>
  intro n
  have hc:=hl c (by simp)
  have ih:=ih fun d hd => hl d (List.mem_cons_of_mem _ hd)
  rw [n12]
  by_cases h:neutralB c = true
  · rw [if_pos h,ih,List.length_cons,show n + 1 + l.length = n + (l.length + 1) from by omega]
  · rw [if_neg h]
    have h1:c = 1:=by
     unfold PlainC at hc
     rcases hc with h2 | h2
     · exact h2
     · exfalso
       apply h
       unfold neutralB
       simp only [Bool.or_eq_true,decide_eq_true_eq]
       omega
    subst h1
    have hs:sideOf 1 = 1:=rfl
    rw [hs,ih,if_pos rfl,List.length_cons,Nat.zero_add,← List.replicate_succ,List.replicate_append_replicate]
theorem plain_next (c a:Nat) (hc:PlainC c):(St.first 0).next c a = St.first 0∧(St.first 0).answer c a = (some 0,c):=by
 unfold PlainC at hc
 rcases hc with rfl | rfl | rfl | rfl | rfl
 all_goals exact ⟨rfl,rfl⟩
theorem plain_answers (zl:List (Nat × Nat)) (h:∀ x∈zl,PlainC x.1):answers (St.first 0) zl = zl.map fun x => (some 0,x.1):=by
 induction zl with
 | nil => rfl
 | cons x zl ih =>
  obtain ⟨h1,h2⟩:=plain_next x.1 x.2 (h x (by simp))
  rw [answers,h1,h2,ih fun y hy => h y (List.mem_cons_of_mem _ hy)]
  rfl
theorem plain_explicit (l:List Nat) (h:∀ c∈l,PlainC c):explicitOf 0 l = l.map fun c => (some 0,c):=by
 unfold explicitOf
 rw [plain_answers _ fun x hx => h _ (by rw [← withFsi_map l];exact List.mem_map_of_mem hx)]
 conv => rhs;rw [← withFsi_map l]
 rw [List.map_map]
 rfl
/-- **L, B, S, WS and ON alone at Left: all levels are 0.** -/
theorem engine_plain {l:List Nat} (hn:l.length≤1048576) (h:∀ c∈l,PlainC c):∀ v∈engineOf 0 l,v = 0:=by
 have h23:∀ x∈l,1≤x∧x≤23:=fun x hx => by have:=h x hx;unfold PlainC at this;omega
 have hbase:baseOf 0 l = 0:=by unfold baseOf;rw [if_pos rfl]
 intro v hv
 obtain ⟨p,hp⟩:=List.mem_iff_getElem?.1 hv
 have hpl:p < l.length:=by have:=(List.getElem?_eq_some_iff.1 hp).1;rw [engine_len] at this;exact this
 obtain ⟨c,hc⟩:∃ c,l[p]? = some c:=⟨_,List.getElem?_eq_getElem hpl⟩
 have hcp:=h c (List.mem_of_getElem? hc)
 have hr:rem c = false:=by
  rw [rem_removed]
  unfold PlainC at hcp
  unfold removedB
  simp
  omega
 have hb1:(0:Nat)≤1:=by omega
 have hg:=good_all hb1 hn h23
 have hk:p∈keptOf l:=mem_keptOf.2 ⟨hpl,by rw [List.getD_eq_getElem?_getD,hc];exact hr⟩
 obtain ⟨s,hs,hps⟩:=seqs_cover (nw:=nwsOf 0 l) (lv:=lvsOf 0 l) (base:=0) hk
 obtain ⟨k,hk2⟩:=List.mem_iff_getElem?.1 hps
 have hkl:=(List.getElem?_eq_some_iff.1 hk2).1
 obtain ⟨d,hd⟩:∃ d,(cfC s 2)[k]? = some d:=⟨_,List.getElem?_eq_getElem (by rw [cfC_len (hg s hs).1];exact hkl)⟩
 have hs1:=seqs_good hb1 hn h23 s hs
 have hlv0:∀ q,(lvsOf 0 l).getD q 0 = 0:=by
  intro q
  unfold lvsOf
  rw [plain_explicit l h,List.map_map,List.getD_eq_getElem?_getD,List.getElem?_map]
  cases l[q]? with
  | none => rfl
  | some x => rfl
 have hat:∀ k,(seqT l (nwsOf 0 l) (lvsOf 0 l) 0).atN k = 0:=by
  intro k
  unfold Tx.atN Tx.at
  split
  · rfl
  · show ((lvsOf 0 l).getD _ 0).toNat = 0
    rw [hlv0]
    rfl
 obtain ⟨_,e,_⟩:=seqs_whole hs
 have hslv:s.lv = 0:=by
  rw [e]
  show ((lvsOf 0 l).getD (s.ps.getD 0 0) 0).toNat = 0
  rw [hlv0]
  rfl
 have hsos:s.sos = 1:=by
  rw [e]
  show wayOf (max ((lvsOf 0 l).getD (s.ps.getD 0 0) 0).toNat ((seqT l (nwsOf 0 l) (lvsOf 0 l) 0).atN _)) = 1
  rw [hat,hlv0]
  rfl
 have heos:s.eos = 1:=by
  rw [e]
  show wayOf (max ((lvsOf 0 l).getD (s.ps.getD 0 0) 0).toNat ((seqT l (nwsOf 0 l) (lvsOf 0 l) 0).behind _)) = 1
  have:∀ z,(seqT l (nwsOf 0 l) (lvsOf 0 l) 0).behind z = 0:=by
   intro z
   unfold Tx.behind
   split
   · rfl
   · exact hat _
  rw [this,hlv0]
  rfl
 have hcs:∀ x∈s.cs,PlainC x:=by
  intro x hx
  obtain ⟨j,hj⟩:=List.mem_iff_getElem?.1 hx
  have hjl:j < s.ps.length:=by rw [← hs1.ok.same];exact (List.getElem?_eq_some_iff.1 hj).1
  obtain ⟨q,hq⟩:∃ q,s.ps[j]? = some q:=⟨_,List.getElem?_eq_getElem hjl⟩
  have hql:=kept_lt ((hg s hs).2 q (List.mem_of_getElem? hq))
  rw [hs1.cs j q hq] at hj
  cases hj
  unfold nwsOf
  rw [plain_explicit l h,List.map_map,List.getD_eq_getElem?_getD,List.getElem?_map,List.getElem?_eq_getElem hql]
  exact h _ (List.getElem_mem hql)
 have hd1:d = 1:=by
  have hd:(restOf s.sos s.eos (wayOf s.lv) (weakOf s.sos s.cs))[k]? = some d:=hd
  rw [hsos,heos,hslv,plain_weak 1 (.inl rfl) s.cs hcs] at hd
  unfold restOf at hd
  have hw:wayOf 0 = 1:=rfl
  rw [hw,plain_rest s.cs hcs] at hd
  rw [List.getElem?_replicate] at hd
  split at hd
  · cases hd;rfl
  · cases hd
 have:=laid_at (fun s hs => (hg s hs).1) hs hk2 hd (by rw [lvs_len];exact hpl)
 have he:(engineOf 0 l)[p]? = some ((levelOf s.lv d:Nat):Int):=by
  unfold engineOf
  rw [hbase]
  exact this
 rw [he,hslv,hd1] at hp
 cases hp
 rfl
/-- What the line's levels are like, where the paragraph's are the engine's. -/
theorem reset_may {base:Int} {cl:List Nat} {lv X:List Int} (hb:0≤base∧base≤1) (h:Reset base lv X) (hl:cl.length = lv.length) (hall:∀ (i c:Nat) (v:Int),cl[i]? = some c→lv[i]? = some v→MayAt base c v):∀ v∈X,-1≤v∧v≤126:=by
 intro x hx
 obtain ⟨j,hj⟩:=List.mem_iff_getElem?.1 hx
 have hjl:=(List.getElem?_eq_some_iff.1 hj).1
 rw [h.1] at hjl
 obtain ⟨v,hv⟩:∃ v,lv[j]? = some v:=⟨_,List.getElem?_eq_getElem hjl⟩
 obtain ⟨c,hc⟩:∃ c,cl[j]? = some c:=⟨_,List.getElem?_eq_getElem (by omega)⟩
 obtain ⟨_,_,hm⟩:=hall j c v hc hv
 rcases h.2 j v x hv hj with h1 | ⟨_,h1⟩
 · rcases hm with ⟨_,h2⟩ | ⟨_,h2,h3⟩ <;> omega
 · omega
theorem reset_zero {lv X:List Int} (h:Reset 0 lv X) (hz:∀ v∈lv,v = 0):∀ v∈X,v = 0:=by
 intro x hx
 obtain ⟨j,hj⟩:=List.mem_iff_getElem?.1 hx
 have hjl:=(List.getElem?_eq_some_iff.1 hj).1
 rw [h.1] at hjl
 obtain ⟨v,hv⟩:∃ v,lv[j]? = some v:=⟨_,List.getElem?_eq_getElem hjl⟩
 rcases h.2 j v x hv hj with h1 | ⟨_,h1⟩
 · rw [h1];exact hz v (List.mem_of_getElem? hv)
 · exact h1
end Go.Proofs.YtjnidopbdjbbgaaGreat
end
