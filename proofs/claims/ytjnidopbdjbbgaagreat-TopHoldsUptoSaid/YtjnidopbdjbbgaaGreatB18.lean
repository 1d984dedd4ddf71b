/-
  All weak rules of a sequence: weak.Resolve, walked.
-/
import Derived.Test.YtjnidopbdjbbgaaGreatB17
namespace Go.Proofs.YtjnidopbdjbbgaaGreat
open Go.RowKit
set_option linter.unusedVariables false
set_option maxRecDepth 20000
set_option maxHeartbeats 4000000
theorem rule_any (k:Nat) (hk:1≤k∧k≤7) (w:World) (s:Sq) (hs:s.Ok) (pa ca:Option Addr) (pc cc:Nat) (hi:s.In w pa ca):
 Calls Tryz.prog 45 #[.int .i64 k,s.val pa pc ca cc] w fun e w' => ∃ pa' pc' ca' cc',e = .returned (.tuple #[{ s with cs:=ruleOf k s.sos s.cs }.val pa' pc' ca' cc',.int .i64 0])∧Own w' w.heap.size 1 pa' s.ps.length pc' (s.ps.map natV)∧Own w' w.heap.size 1 ca' s.ps.length cc' ((ruleOf k s.sos s.cs).map u8V)∧Below w.heap.size w w':=by
 obtain ⟨h1,h2⟩:=hk
 match k,h1,h2 with
 | 1,_,_ => exact rule1_any w s hs pa ca pc cc hi
 | 2,_,_ => exact rule2_any w s hs pa ca pc cc hi
 | 3,_,_ => exact rule3_any w s hs pa ca pc cc hi
 | 4,_,_ => exact rule4_any w s hs pa ca pc cc hi
 | 5,_,_ => exact rule5_any w s hs pa ca pc cc hi
 | 6,_,_ => exact rule6_any w s hs pa ca pc cc hi
 | 7,_,_ => exact rule7_any w s hs pa ca pc cc hi
theorem each2_all {P:Nat→Nat→Prop} {Q R:Nat→Prop} {a b:List Nat} (h:Each2 P a b) (hq:∀ c∈a,Q c) (hr:∀ x y,P x y→Q x→R y):∀ c∈b,R c:=by
 intro y hy
 obtain ⟨i,hi,e⟩:=List.getElem_of_mem hy
 have hia:i < a.length:=by rw [h.1];exact hi
 exact hr a[i] y (h.2 i _ _ (List.getElem?_eq_getElem hia) (by rw [List.getElem?_eq_getElem hi,e])) (hq _ (List.getElem_mem _))
theorem rule_cl (k:Nat) (sos:Nat) (hs:sos = 1∨sos = 2) (l:List Nat) (hl:∀ c∈l,Cl c):(∀ c∈ruleOf k sos l,Cl c)∧(ruleOf k sos l).length = l.length:=by
 have c47:∀ y,y = 4∨y = 7∨y = 1∨y = 2∨y = 14→Cl y:=fun y hy => by unfold Cl;omega
 have sc:∀ (f:Nat→Nat→Nat × Nat),(∀ s c,(f s c).1 = c∨Cl (f s c).1)→(∀ c∈scan f sos l,Cl c)∧(scan f sos l).length = l.length:=by
  intro f hf
  refine ⟨each2_all (Q:=Cl) (scan_each f (fun _ => True) (fun x y => y = x∨Cl y) (fun _ => True) (fun s c _ _ => ⟨hf s c,trivial⟩) l sos trivial (fun _ _ => trivial)) hl (fun x y h hx => ?_),scan_len _ _ _⟩
  rcases h with rfl | h
  · exact hx
  · exact h
 unfold ruleOf
 split
 · have:=w1_each sos hs l hl
   exact ⟨each2_all (Q:=fun _ => True) this (fun _ _ => trivial) (fun x y h _ => h.2.1),scan_len _ _ _⟩
 · refine sc w2 fun s c => ?_
   unfold w2
   split
   · exact .inl rfl
   · split
     · exact .inr (c47 7 (by omega))
     · exact .inl rfl
 · refine ⟨fun c hc => ?_,by simp⟩
   obtain ⟨x,hx,rfl⟩:=List.mem_map.1 hc
   unfold w3
   split
   · exact c47 2 (by omega)
   · exact hl x hx
 · refine ⟨each2_all (Q:=Cl) (w4_each l 0) hl (fun x y h hx => ?_),w4_len l 0⟩
   rcases h.2 with rfl | rfl | rfl
   · exact hx
   · exact c47 4 (by omega)
   · exact c47 7 (by omega)
 · have h5:=w5_each l 0 0
   rw [List.replicate_zero,List.nil_append] at h5
   refine ⟨each2_all (Q:=Cl) h5 hl (fun x y h hx => ?_),h5.1.symm⟩
   rcases h.2 with rfl | rfl
   · exact hx
   · exact c47 4 (by omega)
 · refine ⟨fun c hc => ?_,by simp⟩
   obtain ⟨x,hx,rfl⟩:=List.mem_map.1 hc
   unfold w6
   split
   · exact c47 14 (by omega)
   · exact hl x hx
 · refine sc w7 fun s c => ?_
   unfold w7
   split
   · exact .inl rfl
   · split
     · exact .inr (c47 1 (by omega))
     · exact .inl rfl
/-- The classes behind the first k rules. -/
def rulesTo (sos:Nat) (l:List Nat):Nat→List Nat
 | 0 => l
 | k + 1 => ruleOf (k + 1) sos (rulesTo sos l k)
theorem rulesTo_cl (sos:Nat) (hs:sos = 1∨sos = 2) (l:List Nat) (hl:∀ c∈l,Cl c) (k:Nat):(∀ c∈rulesTo sos l k,Cl c)∧(rulesTo sos l k).length = l.length:=by
 induction k with
 | zero => exact ⟨hl,rfl⟩
 | succ k ih =>
  have:=rule_cl (k + 1) sos hs _ ih.1
  exact ⟨this.1,this.2.trans ih.2⟩
/-- The sequence behind the first k rules. -/
def Sq.to (s:Sq) (k:Nat):Sq:={ s with cs:=rulesTo s.sos s.cs k }
theorem Sq.Ok.to {s:Sq} (h:s.Ok) (k:Nat):(s.to k).Ok:=by
 have:=rulesTo_cl s.sos h.sos s.cs h.cl k
 exact ⟨h.pos,this.2.trans h.same,h.big,h.up,h.top,this.1,h.lv,h.sos,h.eos⟩
/-- A slice lies in another block. -/
def Away (p:Option Addr) (k:Nat):Prop:=∀ a:Addr,p = some a→a.block≠k
theorem Cells.away {w:World} {p:Option Addr} {xs:List Value} {N j:Nat} (h:Cells w p xs) (ha:Away p N) (v:Value):Cells (w.setCell ⟨N,j,none⟩ v) p xs:=by
 intro hne
 obtain ⟨b,off,e,hc⟩:=h hne
 exact ⟨b,off,e,fun i u hu => cell_set (hc i u hu) (ha _ e)⟩
theorem Cells.away5 {w:World} {p:Option Addr} {xs:List Value} {N:Nat} (h:Cells w p xs) (ha:Away p N) (a b c d e:Value):
 Cells (((((w.setCell ⟨N,0,none⟩ a).setCell ⟨N,1,none⟩ b).setCell ⟨N,2,none⟩ c).setCell ⟨N,3,none⟩ d).setCell ⟨N,4,none⟩ e) p xs:=((((h.away ha a).away ha b).away ha c).away ha d).away ha e
theorem Cells.lt {w:World} {p:Option Addr} {xs:List Value} (h:Cells w p xs) (hp:0 < xs.length):∀ a,p = some a→a.block < w.heap.size:=by
 intro a e
 obtain ⟨b,off,e2,hc⟩:=h (by intro e3;rw [e3] at hp;simp at hp)
 rw [e] at e2
 cases e2
 have:=hc 0 xs[0] (List.getElem?_eq_getElem hp)
 exact World.block_lt_of_cell? w _ this
theorem Own.away {w:World} {B size n c:Nat} {p:Option Addr} {xs:List Value} (h:Own w B size p n c xs) {k:Nat} (hk:k ∉ blk p):Away p k:=fun a e hb => hk (by rw [blk_mem,e];show some a.block = some k;rw [hb])
end Go.Proofs.YtjnidopbdjbbgaaGreat
