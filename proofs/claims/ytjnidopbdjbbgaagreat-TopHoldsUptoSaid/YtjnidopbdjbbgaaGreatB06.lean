/-
  The first strong class, and a paragraph's level: walked.
-/
import Derived.Test.YtjnidopbdjbbgaaGreatB04
import Derived.WalkMore
import Derived.Deep.LoopGhost
section
namespace Go.Proofs.YtjnidopbdjbbgaaGreat
open Go.RowKit
set_option linter.unusedVariables false
def intOf:Value→Int
 | .int _ x => x
 | _ => 0
/-- What First hands back. -/
def firstV (o:Option Nat):Value:=match o with | some i => .tuple #[.int .i64 (i:Nat),.bool true,.int .i64 0] | none => .tuple #[.int .i64 0,.bool false,.int .i64 0]
theorem drop_get {l:List Nat} {k x:Nat} (h:l[k]? = some x):l.drop k = x :: l.drop (k + 1):=by
 obtain ⟨hk,rfl⟩:=List.getElem?_eq_some_iff.1 h
 exact List.drop_eq_getElem_cons hk
set_option maxRecDepth 20000 in
set_option maxHeartbeats 4000000 in
theorem first_any (w:World) (a:Option Addr) (c:Nat) (l:List Nat) (hn:l.length≤1099511627776) (hc:Cells w a (l.map u8V)) (h23:∀ x∈l,1≤x∧x≤23):
 Calls Tryz.prog 65 #[.slice a l.length c,.agg #[.int .i64 0,.int .i64 l.length]] w fun e w' => e = .returned (firstV (firstOf (matchOf l) 0 0 l))∧Below w.heap.size w w':=by
 have HMT:=Lib.hid (fun w' hc => match_any w' a c l hn hc h23)
 have HC:=Lib.hid hc
 have H23:=Lib.hid h23
 obtain ⟨n,hnn⟩:∃ n,n = l.length:=⟨_,rfl⟩
 have HN:=Lib.hid hnn
 rw [← hnn] at hn HMT ⊢
 clear hc h23 hnn
 have hnn0:(0:Int)≤(n:Int):=by omega
 obtain ⟨M,hM⟩:∃ M,M = matchOf l:=⟨_,rfl⟩
 have hml:=matchOf_len l
 rw [← hM] at hml HMT ⊢
 have HML:=Lib.hid hml
 clear hM hml
 go_enter Tryz.func65,Tryz.ntmps65
 go_wp2
 go_step3
 go_wp2_with (go_at_call 67;refine (HMT.out _ (HC.out.below ((Below.refl _ _).alloc (Nat.le_refl _) _))).mono ?_;rintro e w1 ⟨g,rfl,hown1,hb1⟩;have HO1:=Lib.hid hown1;have HB1:=Lib.hid (after ((Below.refl _ _).alloc (Nat.le_refl _) _) hb1);have hp1:w1.cell? ⟨w.heap.size,1,none⟩ = some (.int .i64 (n:Int)):=((hb1.cell (p:=⟨w.heap.size,1,none⟩) (by simp)).trans (by rw [World.cell?_alloc_new];rfl));have hp0:w1.cell? ⟨w.heap.size,0,none⟩ = some (.int .i64 0):=((hb1.cell (p:=⟨w.heap.size,0,none⟩) (by simp)).trans (by rw [World.cell?_alloc_new];rfl));clear hown1 hb1)
 go_step3
 go_wp2
 have HC1:=Lib.hid (HC.out.below HB1.out)
 go_loopg [8,9] n (fun r s i wr => ∃ (k:Nat) (skip:Int),wr = w1∧k + r = n∧i = .int .i64 k∧s = .int .i64 skip∧Hid (firstOf M k skip (l.drop k) = firstOf M 0 0 l))
 case atStart => exact ⟨0,0,rfl,by omega,rfl,rfl,Lib.hid rfl⟩
 case round =>
  obtain ⟨k,skip,rfl,hk,rfl,rfl,HE⟩:=hrel
  by_cases hlt:k < n
  · have hxl:k < l.length:=by rw [← HN.out];exact hlt
    obtain ⟨x,hx⟩:∃ x,l[k]? = some x:=⟨_,List.getElem?_eq_getElem hxl⟩
    have hx23:=H23.out x (List.mem_of_getElem? hx)
    have HD:=Lib.hid (drop_get hx)
    obtain ⟨b,off,rfl,hcx⟩:=HC1.out.getm hx
    unfold u8V at hcx
    have hlti:(k:Int) < (n:Int):=by omega
    have hk0:(0:Int)≤(k:Int):=by omega
    by_cases hsk:(k:Int) < skip
    · go_wp2
      go_roundg (gk - 1)
      case rel =>
       refine ⟨k + 1,skip,rfl,by omega,by go_num,rfl,Lib.hid ?_⟩
       rw [← HE.out,HD.out,firstOf,if_pos hsk]
      case measure => omega
    · have hsk2:skip≤(k:Int):=by omega
      by_cases hs:x = 1∨x = 2∨x = 3
      · have HR:Hid (firstOf M 0 0 l = some k):=Lib.hid (by rw [← HE.out,HD.out,firstOf,if_neg hsk,if_pos hs])
        rcases hs with rfl | rfl | rfl
        all_goals
         go_wp2
         try rw [Exit.noGoto_ret]
         go_ret3
         exact ⟨by rw [HR.out];rfl,HB1.out⟩
      · have e1:((x:Int) == 1) = false:=by simp;omega
        have e2:((x:Int) == 2) = false:=by simp;omega
        have e3:((x:Int) == 3) = false:=by simp;omega
        have HBE:=Lib.hid (fun w => beginsP_any w x hx23.1 hx23.2)
        rw [contains_begins] at HBE
        by_cases hbe:(x == 20 || x == 21 || x == 22) = true
        · rw [hbe] at HBE
          have HBX:Hid (begins x = true):=Lib.hid hbe
          obtain ⟨y,hy⟩:∃ y,M[k]? = some y:=⟨_,List.getElem?_eq_getElem (by rw [HML.out];exact hxl)⟩
          have hcy:=(HO1.out.getm hy).1
          unfold i64V at hcy
          have HY:=Lib.hid hy
          have HS:=Lib.hid hs
          have HK:=Lib.hid hsk
          clear hy hbe hs hsk hx
          go_wp2_with (go_at_call 110;refine (HBE.out _).mono ?_;rintro e w2 ⟨rfl,rfl⟩)
          go_roundg (gk - 1)
          case rel =>
           refine ⟨k + 1,y,rfl,by omega,by go_num,rfl,Lib.hid ?_⟩
           rw [← HE.out,HD.out,firstOf,if_neg (by have:=HK.out;omega),if_neg HS.out,if_pos HBX.out,getD_of HY.out]
          case measure => omega
        · have hbf:(x == 20 || x == 21 || x == 22) = false:=by simpa using hbe
          rw [hbf] at HBE
          have HBX:Hid (¬ begins x = true):=Lib.hid hbe
          have HS:=Lib.hid hs
          have HK:=Lib.hid hsk
          clear hbe hbf hs hsk hx
          go_wp2_with (go_at_call 110;refine (HBE.out _).mono ?_;rintro e w2 ⟨rfl,rfl⟩)
          go_roundg (gk - 1)
          case rel =>
           refine ⟨k + 1,skip,rfl,by omega,by go_num,rfl,Lib.hid ?_⟩
           rw [← HE.out,HD.out,firstOf,if_neg (by have:=HK.out;omega),if_neg HS.out,if_neg HBX.out]
          case measure => omega
  · have hnl:(n:Int)≤(k:Int):=by omega
    have HR:Hid (firstOf M 0 0 l = none):=Lib.hid (by rw [← HE.out,List.drop_eq_nil_of_le (by rw [← HN.out];omega)];rfl)
    go_wp2
    try rw [Exit.noGoto_ret]
    go_ret3
    exact ⟨by rw [HR.out];rfl,HB1.out⟩
theorem strong_kind (l:List Nat):∀ d c,strong d l = some c→c = 1∨c = 2∨c = 3:=by
 induction l with
 | nil => intro d c h;cases h
 | cons x l ih =>
  intro d c h
  rw [strong] at h
  split at h
  · exact ih _ c h
  · split at h
    · exact ih _ c h
    · split at h
      · rename_i hd
        cases h
        exact hd.2
      · exact ih _ c h
set_option maxRecDepth 20000 in
set_option maxHeartbeats 4000000 in
/-- A paragraph's level. -/
theorem level_any (w:World) (a:Option Addr) (c:Nat) (l:List Nat) (b:Int) (hb:b = -1∨b = 0∨b = 1) (hn:l.length≤1099511627776) (hc:Cells w a (l.map u8V)) (h23:∀ x∈l,1≤x∧x≤23) (hB:BLast l):
 Calls Tryz.prog 39 #[.slice a l.length c,.int .i8 b] w fun e w' => e = .returned (.tuple #[.int .i8 (baseOf b l),.int .i64 0])∧Below w.heap.size w w':=by
 rcases hb with rfl | rfl | rfl
 · have HF:=Lib.hid (fun w' hc => first_any w' a c l hn hc h23)
   have HC:=Lib.hid hc
   have hst:=first_strong l hB l.length l [] 0 (Nat.le_refl _) rfl (by simp)
   rw [List.length_nil] at hst
   have hbo:baseOf (-1) l = match strong 0 l with | some c => if c = 1 then 0 else 1 | none => 0:=rfl
   cases hf:firstOf (matchOf l) 0 0 l with
   | none =>
    rw [hf] at HF hst
    simp only [Option.bind_none] at hst
    rw [← hst] at hbo
    rw [hbo]
    unfold firstV at HF
    clear hst hf hbo hB h23 hc hn
    go_enter Tryz.func39,Tryz.ntmps39
    go_wp2_with (go_at_call 65;refine (HF.out _ HC.out).mono ?_;rintro e w1 ⟨rfl,hb1⟩)
    go_ret2
    exact ⟨rfl,hb1⟩
   | some i =>
    rw [hf] at HF hst
    simp only [Option.bind_some] at hst
    cases hx:l[i]? with
    | none =>
     exfalso
     have:∀ (l2:List Nat) (k:Nat) (s:Int) (j:Nat),firstOf (matchOf l) k s l2 = some j→j < k + l2.length:=by
      intro l2
      induction l2 with
      | nil => intro k s j h;cases h
      | cons y l2 ih =>
       intro k s j h
       rw [firstOf] at h
       simp only [List.length_cons]
       split at h
       · have:=ih _ _ _ h;omega
       · split at h
         · cases h;omega
         · split at h
           · have:=ih _ _ _ h;omega
           · have:=ih _ _ _ h;omega
     have:=this l 0 0 i hf
     rw [List.getElem?_eq_none_iff] at hx
     omega
    | some x =>
     rw [hx] at hst
     have hk:=strong_kind l 0 x hst.symm
     rw [← hst] at hbo
     have hil:=(List.getElem?_eq_some_iff.1 hx).1
     obtain ⟨bb,off,rfl,hcx⟩:=hc.getm hx
     unfold u8V at hcx
     unfold firstV at HF
     have hi0:(0:Int)≤(i:Int):=by omega
     have hil2:(i:Int) < (l.length:Int):=by omega
     rw [hbo]
     clear hst hf hbo hB h23 hc
     rcases hk with rfl | rfl | rfl
     all_goals
      go_enter Tryz.func39,Tryz.ntmps39
      go_wp2_with (go_at_call 65;refine (HF.out _ HC.out).mono ?_;rintro e w1 ⟨rfl,hb1⟩;have hcx1:=(hb1.cell (World.block_lt_of_cell? w _ hcx)).trans hcx)
      go_ret2
      exact ⟨rfl,hb1⟩
 · clear hc h23 hB
   have e:baseOf 0 l = 0:=rfl
   rw [e]
   go_enter Tryz.func39,Tryz.ntmps39
   go_wp2
   go_ret2
   exact ⟨rfl,Below.refl _ _⟩
 · clear hc h23 hB
   have e:baseOf 1 l = 1:=rfl
   rw [e]
   go_enter Tryz.func39,Tryz.ntmps39
   go_wp2
   go_ret2
   exact ⟨rfl,Below.refl _ _⟩
end Go.Proofs.YtjnidopbdjbbgaaGreat
end
/-
  What stands for each FSI: walked.
-/
section
namespace Go.Proofs.YtjnidopbdjbbgaaGreat
open Go.RowKit
set_option linter.unusedVariables false
theorem info26:(Tryz.prog.info? 26).map (fun i => (i.zero,i.size,i.bytes)) = some (some (.int .i8 0),1,1):=by kernel_rfl
def n8V (x:Nat):Value:=.int .i8 x
/-- Between two rounds of autos: places from k on are known. -/
def AutAt (w:World) (B g n k:Nat) (M:List Int) (l:List Nat):Prop:=Own w B 1 (some ⟨g,0,none⟩) (n + 1) (n + 1) ((List.replicate k 0 ++ autosOf M k (l.drop k)).map n8V)
theorem set_rep (k:Nat) (v:Nat) (r:List Nat):(List.replicate (k + 1) 0 ++ r).set k v = List.replicate k 0 ++ v :: r:=by
 rw [List.replicate_succ',List.append_assoc,List.set_append_right _ _ (by simp)]
 simp
theorem AutAt.store {w:World} {B g n k:Nat} {M:List Int} {l:List Nat} {x:Nat} (h:AutAt w B g n (k + 1) M l) (hk:k < n) (hx:l[k]? = some x) (v:Nat) (hv:autosOf M k (l.drop k) = v :: autosOf M (k + 1) (l.drop (k + 1))):
 AutAt (w.setCell ⟨g,k,none⟩ (n8V v)) B g n k M l:=by
 have:=h.stored k (by omega) (n8V v)
 unfold AutAt
 refine this.eqL ?_
 rw [← List.map_set,set_rep,hv]
theorem AutAt.same {w:World} {B g n k:Nat} {M:List Int} {l:List Nat} (h:AutAt w B g n (k + 1) M l) (hv:autosOf M k (l.drop k) = 0 :: autosOf M (k + 1) (l.drop (k + 1))):AutAt w B g n k M l:=by
 unfold AutAt at h ⊢
 refine h.eqL ?_
 rw [hv,List.replicate_succ',List.append_assoc]
 rfl
theorem AutAt.get {w:World} {B g n k:Nat} {M:List Int} {l:List Nat} (h:AutAt w B g n (k + 1) M l) (hl:l.length = n) (hk:k < n) (j:Nat) (hj:k + 1≤j) (hj2:j≤n):w.cell? ⟨g,j,none⟩ = some (n8V ((autosOf M (k + 1) (l.drop (k + 1))).getD (j - (k + 1)) 0)):=by
 refine (h.getm (x:=(autosOf M (k + 1) (l.drop (k + 1))).getD (j - (k + 1)) 0) ?_).1
 have hlen:=autos_len M (l.drop (k + 1)) (k + 1)
 rw [List.length_drop] at hlen
 rw [List.getElem?_append_right (by simp;omega),List.length_replicate,List.getD_eq_getElem?_getD,List.getElem?_eq_getElem (by omega)]
 rfl
theorem AutAt.here {w:World} {B g n k:Nat} {M:List Int} {l:List Nat} (h:AutAt w B g n (k + 1) M l) (hk:k < n):w.cell? ⟨g,k,none⟩ = some (n8V 0)∧w.frozen? ⟨g,k,none⟩ = false:=by
 refine h.getm ?_
 rw [List.getElem?_append_left (by simp)]
 simp
set_option maxRecDepth 20000 in
set_option maxHeartbeats 4000000 in
theorem autos_any (w:World) (a:Option Addr) (c mg:Nat) (l:List Nat) (M:List Int) (hn:l.length≤1099511627776) (hc:Cells w a (l.map u8V)) (hm:Cells w (some ⟨mg,0,none⟩) (M.map i64V)) (hML:M.length = l.length)
 (hM:∀ (i x:Nat) (m:Int),l[i]? = some x→M[i]? = some m→x≠23→0≤m→i < m):
 Calls Tryz.prog 69 #[.slice a l.length c,.slice (some ⟨mg,0,none⟩) l.length l.length] w fun e w' => ∃ g,e = .returned (.slice (some ⟨g,0,none⟩) (l.length + 1) (l.length + 1))∧Own w' w.heap.size 1 (some ⟨g,0,none⟩) (l.length + 1) (l.length + 1) ((autosOf M 0 l).map n8V)∧Below w.heap.size w w':=by
 obtain ⟨i0,hi,hz0,hz1,hz2⟩:=info_parts info26
 have HC:=Lib.hid hc
 have HM:=Lib.hid hm
 have HMM:=Lib.hid hM
 obtain ⟨n,hnn⟩:∃ n,n = l.length:=⟨_,rfl⟩
 have HN:=Lib.hid hnn
 rw [← hnn] at hn hML ⊢
 have HML:=Lib.hid hML
 clear hc hm hM hnn hML
 go_enter Tryz.func69,Tryz.ntmps69
 go_wp2_with (at_make;refine wpList_mk rfl _ _ 27 26 rfl i0 (.int .i8 0) 1 Tryz.underlying27 hi hz0 hz1 hz2 rfl (n + 1) (by go_num) (by go_num) (by omega) (by simp only [maxLen];omega) ?_;intro g w1 hown1 hb1;have HO1:=Lib.hid hown1;have HB1:=Lib.hid hb1;clear hown1 hb1)
 go_loopg [6] n (fun k i wr => k≤n∧i = .int .i64 ((k:Int) - 1)∧AutAt wr w.heap.size g n k M l∧Below w.heap.size w wr)
 case atStart =>
  refine ⟨Nat.le_refl _,by first | rfl | go_num,?_,HB1.out⟩
  unfold AutAt
  refine HO1.out.eqL ?_
  rw [List.drop_eq_nil_of_le (by rw [← HN.out];omega)]
  show List.replicate (n + 1) (n8V 0) = _
  rw [show autosOf M n [] = [0] from rfl,List.map_append,List.map_replicate,List.replicate_succ']
  rfl
 case round =>
  obtain ⟨hk,rfl,hA,hb⟩:=hrel
  cases gk with
  | zero =>
   have HB:=Lib.hid hb
   have HA:=Lib.hid hA
   clear hb hA hk
   go_wp2
   go_ret
   refine ⟨g,rfl,HA.out.eqL ?_,HB.out⟩
   rw [List.drop_zero]
   rfl
  | succ k =>
   have hxl:k < l.length:=by rw [← HN.out];omega
   obtain ⟨x,hx⟩:∃ x,l[k]? = some x:=⟨_,List.getElem?_eq_getElem hxl⟩
   obtain ⟨m,hm⟩:∃ m,M[k]? = some m:=⟨_,List.getElem?_eq_getElem (by rw [HML.out];omega)⟩
   obtain ⟨b,off,rfl,hcx⟩:=(HC.out.below hb).getm hx
   obtain ⟨_,_,hmg,hcm⟩:=(HM.out.below hb).getm hm
   cases hmg
   have hmm:=HMM.out k x m hx hm
   obtain ⟨hck,hfk⟩:=hA.here (by omega:k < n)
   have hget:=hA.get HN.out.symm (by omega:k < n)
   have hdr:=drop_get hx
   have hau:autosOf M k (l.drop k) = (if x = 2∨x = 3 then 1 else if x = 1∨x = 11∨x = 23∧0≤m then 0 else if x≠23∧0≤m∧m < (n:Int) then (autosOf M (k + 1) (l.drop (k + 1))).getD (m.toNat - k) 0 else if m < 0 then (autosOf M (k + 1) (l.drop (k + 1))).getD 0 0 else 0) :: autosOf M (k + 1) (l.drop (k + 1)):=by
    rw [hdr,autosOf,getD_of hm]
    have:k + 1 + (l.drop (k + 1)).length = n:=by rw [List.length_drop,← HN.out];omega
    rw [this]
   unfold u8V at hcx
   unfold i64V at hcm
   rw [Nat.zero_add] at hcm
   unfold n8V at hck hget
   have HX:=Lib.hid hx
   have HA:=Lib.hid hA
   have HB:=Lib.hid hb
   have hk0:(0:Int)≤(k:Int):=by omega
   have hk1:(k:Int) < (n:Int):=by omega
   have hk2:((k:Int)).toNat = k:=by omega
   have hkn:k < n:=by omega
   have HST:Hid (∀ v,autosOf M k (l.drop k) = v :: autosOf M (k + 1) (l.drop (k + 1))→k≤n∧AutAt (wr.setCell ⟨g,k,none⟩ (.int .i8 v)) w.heap.size g n k M l∧Below w.heap.size w (wr.setCell ⟨g,k,none⟩ (.int .i8 v))):=
    Lib.hid fun v hv => ⟨by omega,hA.store hkn hx v hv,hA.storeBelow hb k (.int .i8 v)⟩
   have HSA:Hid (autosOf M k (l.drop k) = 0 :: autosOf M (k + 1) (l.drop (k + 1))→k≤n∧AutAt wr w.heap.size g n k M l∧Below w.heap.size w wr):=
    Lib.hid fun hv => ⟨by omega,hA.same hv,hb⟩
   have hsub:((k + 1:Nat):Int) - 1 = (k:Int):=by omega
   simp only [hsub]
   clear hx hdr hb hm hA
   by_cases hs:x = 2∨x = 3
   · rw [if_pos hs] at hau
     have HAU:=Lib.hid hau
     clear hau hmm hget
     rcases hs with rfl | rfl
     all_goals
      go_wp2
      go_roundg k
      case measure => omega
      case rel =>
       obtain ⟨r1,r2,r3⟩:=HST.out 1 HAU.out
       exact ⟨r1,by first | rfl | go_num,r2,r3⟩
   · rw [if_neg hs] at hau
     have e2:((x:Int) == 2) = false:=by simp;omega
     have e3:((x:Int) == 3) = false:=by simp;omega
     by_cases ht:x = 1∨x = 11∨x = 23∧0≤m
     · rw [if_pos ht] at hau
       have HAU:=Lib.hid hau
       clear hau hmm hget hs
       rcases ht with rfl | rfl | ⟨rfl,hm0⟩
       all_goals
        go_wp2
        go_roundg k
        case measure => omega
        case rel =>
         obtain ⟨r1,r2,r3⟩:=HSA.out HAU.out
         exact ⟨r1,by first | rfl | go_num,r2,r3⟩
     · rw [if_neg ht] at hau
       have e1:((x:Int) == 1) = false:=by simp;omega
       have e11:((x:Int) == 11) = false:=by simp;omega
       by_cases hm0:m < 0
       · rw [if_neg (by omega),if_pos hm0] at hau
         have hg1:=hget (k + 1) (by omega) (by omega)
         rw [Nat.sub_self] at hg1
         have HAU:=Lib.hid hau
         obtain ⟨v,hv⟩:∃ v,v = (autosOf M (k + 1) (l.drop (k + 1))).getD 0 0:=⟨_,rfl⟩
         rw [← hv] at hg1 HAU
         have hk3:((k:Int) + 1).toNat = k + 1:=by omega
         clear hau hmm hget hs ht hv
         by_cases h23:x = 23
         · subst h23
           go_wp2
           go_roundg k
           case measure => omega
           case rel =>
            obtain ⟨r1,r2,r3⟩:=HST.out v HAU.out
            exact ⟨r1,by first | rfl | go_num,r2,r3⟩
         · have e23:((x:Int) == 23) = false:=by simp;omega
           have f23:((x:Int) != 23) = true:=by simp;omega
           go_wp2
           go_roundg k
           case measure => omega
           case rel =>
            obtain ⟨r1,r2,r3⟩:=HST.out v HAU.out
            exact ⟨r1,by first | rfl | go_num,r2,r3⟩
       · have h23:x≠23:=by omega
         have e23:((x:Int) == 23) = false:=by simp;omega
         have f23:((x:Int) != 23) = true:=by simp;omega
         obtain ⟨q,rfl⟩:=Int.eq_ofNat_of_zero_le (Int.not_lt.1 hm0)
         have hmk:=hmm h23 (by omega)
         have hq0:(0:Int)≤(q:Int):=by omega
         by_cases hmn:q < n
         · rw [if_pos ⟨h23,by omega,by omega⟩,Int.toNat_natCast] at hau
           have hg1:=hget (q + 1) (by omega) (by omega)
           rw [show q + 1 - (k + 1) = q - k from by omega] at hg1
           have HAU:=Lib.hid hau
           obtain ⟨v,hv⟩:∃ v,v = (autosOf M (k + 1) (l.drop (k + 1))).getD (q - k) 0:=⟨_,rfl⟩
           rw [← hv] at hg1 HAU
           have hq1:(q:Int) < (n:Int):=by omega
           have hq3:((q:Int) + 1).toNat = q + 1:=by omega
           clear hau hmm hget hs ht hv hm0 h23
           go_wp2
           go_roundg k
           case measure => omega
           case rel =>
            obtain ⟨r1,r2,r3⟩:=HST.out v HAU.out
            exact ⟨r1,by first | rfl | go_num,r2,r3⟩
         · rw [if_neg (by omega),if_neg (by omega)] at hau
           have hq1:(n:Int)≤(q:Int):=by omega
           have HAU:=Lib.hid hau
           clear hau hmm hget hs ht hm0 h23
           go_wp2
           go_roundg k
           case measure => omega
           case rel =>
            obtain ⟨r1,r2,r3⟩:=HSA.out HAU.out
            exact ⟨r1,by first | rfl | go_num,r2,r3⟩
end Go.Proofs.YtjnidopbdjbbgaaGreat
end
