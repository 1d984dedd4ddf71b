/-
  Slices that a call itself makes ('Own') and slices that are read ('Cells'): what append, make, conversions and stores do to them. Over any program; no function of the program in sight.
-/
import Derived.WalkKit
import Derived.WalkSpells
import Derived.WalkLawsBesides
import Derived.Lib.Hide
import Derived.Deep.AppendSrc
import Derived.Laws.IdiomStrings
namespace Go.Proofs.YtjnidopbdjbbgaaGreat
open Go.RowKit
/-- The cells of a slice that is read: where it is not empty they lie behind its address. -/
def Cells (w:World) (a:Option Addr) (xs:List Value):Prop:=
 xs≠[]→∃ b off,a = some ⟨b,off,none⟩∧∀ j u,xs[j]? = some u→w.cell? ⟨b,off + j,none⟩ = some u
theorem Cells.at {α:Type} {w:World} {a:Option Addr} {f:α→Value} {l:List α} (h:Cells w a (l.map f)) {k:Nat} (hk:k < l.length):
 ∃ b off x,a = some ⟨b,off,none⟩∧l[k]? = some x∧w.cell? ⟨b,off + k,none⟩ = some (f x):=by
 obtain ⟨b,off,ha,hc⟩:=h (by intro e;have:=congrArg List.length e;simp at this;subst this;simp at hk)
 exact ⟨b,off,l[k],ha,by simp [hk],hc k _ (by simp [hk])⟩
theorem Cells.below {w w':World} {a:Option Addr} {xs:List Value} (h:Cells w a xs) (hb:Below w.heap.size w w'):Cells w' a xs:=by
 intro hne
 obtain ⟨b,off,ha,hc⟩:=h hne
 refine ⟨b,off,ha,fun j u hu => ?_⟩
 have h1:=hc j u hu
 rw [hb.cell (World.block_lt_of_cell? w _ h1)]
 exact h1
/-- One call behind another. -/
theorem after {w w1 w2:World} (h:Below w.heap.size w w1) (h2:Below w1.heap.size w1 w2):Below w.heap.size w w2:=h.trans (h2.mono h.size)
theorem Cells.nil (w:World) (a:Option Addr):Cells w a []:=fun h => (h rfl).elim
theorem Cells.new (w:World) (l:List Value) (e:TypeId):Cells (w.alloc (.cells l.toArray e)) (some ⟨w.heap.size,0,none⟩) l:=by
 intro _
 refine ⟨w.heap.size,0,rfl,fun j u hu => ?_⟩
 rw [Nat.zero_add,World.cell?_alloc_new]
 simpa using hu
theorem Cells.drop {w:World} {b off:Nat} {xs:List Value} (h:Cells w (some ⟨b,off,none⟩) xs) (k:Nat):Cells w (some ⟨b,off + k,none⟩) (xs.drop k):=by
 intro hne
 have hx:xs≠[]:=by rintro rfl;simp at hne
 obtain ⟨b',off',ha,hc⟩:=h hx
 simp only [Option.some.injEq,Addr.mk.injEq] at ha
 obtain ⟨rfl,rfl,_⟩:=ha
 refine ⟨b,off + k,rfl,fun j u hu => ?_⟩
 rw [Nat.add_assoc]
 exact hc (k + j) u (by simpa using hu)
/-- A slice of the call's own: n elements of 'size' cells each; its cells lie in a block from B on and may be written. -/
structure Own (w:World) (B size:Nat) (a:Option Addr) (n c:Nat) (xs:List Value):Prop where
 len:xs.length = n * size
 le:n≤c
 ml:c≤maxLen
 row:(a = none∧c = 0)∨∃ g,a = some ⟨g,0,none⟩∧B≤g∧g < w.heap.size∧(∀ j u,xs[j]? = some u→w.cell? ⟨g,j,none⟩ = some u) ∧
  (∀ j,j < c * size→(w.cell? ⟨g,j,none⟩).isSome = true∧w.frozen? ⟨g,j,none⟩ = false)
theorem Own.nil (w:World) (B size:Nat):Own w B size none 0 0 []:=⟨by simp,Nat.le_refl _,by simp [maxLen],.inl ⟨rfl,rfl⟩⟩
/-- Where neither this slice's block nor the marks turn, it stays. -/
theorem Own.same {w w':World} {B size:Nat} {a:Option Addr} {n c:Nat} {xs:List Value} (h:Own w B size a n c xs) (hs:w.heap.size≤w'.heap.size)
 (hb:∀ g,a = some ⟨g,0,none⟩→w'.heap[g]? = w.heap[g]?):Own w' B size a n c xs:=by
 refine ⟨h.len,h.le,h.ml,?_⟩
 rcases h.row with h0 | ⟨g,ha,h1,h2,h3,h4⟩
 · exact .inl h0
 · have hg:=hb g ha
   refine .inr ⟨g,ha,h1,Nat.lt_of_lt_of_le h2 hs,fun j u hu => ?_,fun j hj => ?_⟩
   · rw [World.cell?_of_block (w:=w) hg];exact h3 j u hu
   · rw [World.cell?_of_block (w:=w) hg,World.frozen?_of_block (w:=w) hg];exact h4 j hj
theorem Own.below {w w':World} {B size:Nat} {a:Option Addr} {n c:Nat} {xs:List Value} (h:Own w B size a n c xs) (hb:Below w.heap.size w w'):Own w' B size a n c xs:=
 h.same hb.size fun g hg => by
  rcases h.row with ⟨h0,_⟩ | ⟨g',ha,_,h2,_⟩
  · rw [h0] at hg;cases hg
  · rw [ha] at hg
    simp at hg
    subst hg
    exact hb.block g' h2
theorem Own.alloc {w:World} {B size:Nat} {a:Option Addr} {n c:Nat} {xs:List Value} (h:Own w B size a n c xs) (o:Obj):Own (w.alloc o) B size a n c xs:=
 h.below ((Below.refl _ _).alloc (Nat.le_refl _) o)
theorem Own.drew {w:World} {B size:Nat} {a:Option Addr} {n c:Nat} {xs:List Value} (h:Own w B size a n c xs):Own w.drew B size a n c xs:=
 h.below ((Below.refl _ _).drew)
theorem Own.mono {w:World} {B B' size:Nat} {a:Option Addr} {n c:Nat} {xs:List Value} (h:Own w B size a n c xs) (hB:B'≤B):Own w B' size a n c xs:=
 ⟨h.len,h.le,h.ml,h.row.imp id fun ⟨g,ha,h1,r⟩ => ⟨g,ha,Nat.le_trans hB h1,r⟩⟩
theorem Own.toCells {w:World} {B size:Nat} {a:Option Addr} {n c:Nat} {xs:List Value} (h:Own w B size a n c xs):Cells w a xs:=by
 intro hne
 rcases h.row with ⟨_,h0⟩ | ⟨g,ha,h1,h2,h3,h4⟩
 · have:=h.len
   have:=h.le
   have:n = 0:=by omega
   subst this
   have h5:=h.len
   simp at h5
   exact (hne h5).elim
 · exact ⟨g,0,ha,fun j u hu => by rw [Nat.zero_add];exact h3 j u hu⟩
theorem Own.prefix {w:World} {B size:Nat} {a:Option Addr} {n c:Nat} {xs:List Value} (h:Own w B size a n c xs) (k:Nat) (hk:k≤n):Own w B size a k c (xs.take (k * size)):=by
 refine ⟨?_,Nat.le_trans hk h.le,h.ml,h.row.imp id fun ⟨g,ha,h1,h2,h3,h4⟩ => ⟨g,ha,h1,h2,fun j u hu => ?_,h4⟩⟩
 · rw [List.length_take,h.len,Nat.min_eq_left (Nat.mul_le_mul_right _ hk)]
 · rw [List.getElem?_take] at hu
   split at hu
   · exact h3 j u hu
   · cases hu
/-- Where there is an element there is an address. -/
theorem Own.addr {w:World} {B size:Nat} {a:Option Addr} {n c:Nat} {xs:List Value} (h:Own w B size a n c xs) (hn:0 < c):
 ∃ g,a = some ⟨g,0,none⟩∧B≤g∧g < w.heap.size∧(∀ j u,xs[j]? = some u→w.cell? ⟨g,j,none⟩ = some u) ∧
 (∀ j,j < c * size→(w.cell? ⟨g,j,none⟩).isSome = true∧w.frozen? ⟨g,j,none⟩ = false):=by
 rcases h.row with ⟨_,h0⟩ | h1
 · omega
 · exact h1
/-- A store into it (elements of one cell). -/
theorem Own.stored {w:World} {B g n c:Nat} {xs:List Value} (h:Own w B 1 (some ⟨g,0,none⟩) n c xs) (i:Nat) (hi:i < n) (v:Value):
 Own (w.setCell ⟨g,i,none⟩ v) B 1 (some ⟨g,0,none⟩) n c (xs.set i v):=by
 refine ⟨by simpa using h.len,h.le,h.ml,?_⟩
 rcases h.row with ⟨h0,_⟩ | ⟨g',ha,h1,h2,h3,h4⟩
 · cases h0
 · simp at ha
   subst ha
   have hle:=h.le
   refine .inr ⟨g,rfl,h1,by simpa using h2,fun j u hu => ?_,fun j hj => ?_⟩
   · by_cases hij:i = j
     · subst hij
       obtain ⟨u',hu'⟩:=Option.isSome_iff_exists.1 (h4 i (by omega)).1
       rw [World.cell?_setCell_same _ _ _ hu']
       rw [List.getElem?_set_self' ] at hu
       cases hx:xs[i]? with
       | none => simp [hx] at hu
       | some y => simp [hx] at hu;rw [hu]
     · rw [World.cell?_setCell_other _ _ _ _ (fun e => hij (by simpa using congrArg Addr.off e))]
       rw [List.getElem?_set_ne (by omega)] at hu
       exact h3 j u hu
   · rw [World.frozen?_setCell]
     refine ⟨?_,(h4 j hj).2⟩
     by_cases hij:i = j
     · subst hij
       obtain ⟨u',hu'⟩:=Option.isSome_iff_exists.1 (h4 i hj).1
       rw [World.cell?_setCell_same _ _ _ hu']
       rfl
     · rw [World.cell?_setCell_other _ _ _ _ (fun e => hij (by simpa using congrArg Addr.off e))]
       exact (h4 j hj).1
/-- A store into another block leaves it. -/
theorem Own.stored_other {w:World} {B size:Nat} {a:Option Addr} {n c:Nat} {xs:List Value} (h:Own w B size a n c xs) (p:Addr) (v:Value) (hp:∀ g,a = some ⟨g,0,none⟩→g≠p.block):
 Own (w.setCell p v) B size a n c xs:=
 h.same (by simp) fun g hg => Below.heap_setCell w p v g (hp g hg)
/-- The block that a slice's address names. -/
def blockOf:Option Addr→Option Nat
 | some a => some a.block
 | none => none
/-- What append leaves: the old memory but for the slice's own block; and where the slice lies now. -/
structure Apped (w w':World) (a a':Option Addr):Prop where
 grown:w.grownBy w' (blockOf a)
 place:blockOf a' = blockOf a∨∃ g,blockOf a' = some g∧w.heap.size≤g
theorem Apped.below {w w':World} {B size:Nat} {a a':Option Addr} {n c:Nat} {xs:List Value} (h:Apped w w' a a') (ho:Own w B size a n c xs) (hB:B≤w.heap.size):Below B w w':=
 (Below.refl B w).grown h.grown hB fun k hk => by
  rcases ho.row with ⟨h0,_⟩ | ⟨g,ha,h1,_⟩
  · rw [h0] at hk;cases hk
  · rw [ha] at hk
    simp [blockOf] at hk
    omega
/-- Another slice of the call's own stays, where the two lie in unlike blocks. -/
theorem Apped.other {w w':World} {a a':Option Addr} {B size:Nat} {b:Option Addr} {n c:Nat} {xs:List Value} (h:Apped w w' a a') (ho:Own w B size b n c xs) (hne:b = none∨blockOf b≠blockOf a):Own w' B size b n c xs:=
 ho.same h.grown.size fun g hg => by
  rcases ho.row with ⟨h0,_⟩ | ⟨g',ha,_,h2,_⟩
  · rw [h0] at hg;cases hg
  · rw [ha] at hg
    simp at hg
    subst hg
    refine h.grown.block g' h2 ?_
    rcases hne with h0 | h0
    · rw [h0] at ha;cases ha
    · rw [ha] at h0
      exact h0
section
variable {P:Program} {w:World}
/-- append, of whatever is appended. -/
theorem run_app (t tx ty e:TypeId) (i:TypeInfo) (z:Value) (size bytes:Nat) (ht:P.underlying t = some (.slice e)) (hi:P.info? e = some i) (hz:i.zero = some z) (hsize:i.size = size) (hby:i.bytes = bytes) (hzs:z.cells.size = size)
 (_hz1:∀ u∈z.cells.toList,u.oneCell' = true)
 (B:Nat) (a:Option Addr) (n c:Nat) (xs:List Value) (hown:Own w B size a n c xs) (x:Value) (m:Nat) (news:List Value) (hs:Src P size tx x m news w)
 (h63:n + m≤maxLen) (hb:(n + m) * bytes≤140737488355328) (hB:B≤w.heap.size):
 ∃ a' c' w',(Builtin.append_ #[t,tx] ty #[.slice a n c,x]).run P w = .ok (.slice a' (n + m) c') w'∧Own w' B size a' (n + m) c' (xs ++ news)∧Apped w w' a a':=by
 subst hsize
 subst hby
 have hlen:(xs ++ news).length = (n + m) * i.size:=by rw [List.length_append,hown.len,hs.newsLen,Nat.add_mul]
 have hsmall:n + m≤9223372036854775807:=by simp only [maxLen] at h63;omega
 by_cases hroom:n + m≤c
 · rcases hown.row with ⟨rfl,rfl⟩ | ⟨g,rfl,h1,h2,h3,h4⟩
   · have hn0:n = 0:=by omega
     have hm0:m = 0:=by omega
     subst hn0;subst hm0
     have hx:xs = []:=by have:=hown.len;simpa using this
     have hnews:news = []:=by have:=hs.newsLen;simpa using this
     subst hx;subst hnews
     refine ⟨none,0,w,?_,Own.nil w B i.size,⟨⟨rfl,rfl,rfl,Nat.le_refl _,fun _ _ _ => rfl⟩,.inl rfl⟩⟩
     rcases hs.kind with ⟨e',hk⟩ | hk <;> simp [Builtin.append_,run_underlying ht,run_underlying hk,sizeOf,typeInfo,hi,hs.len,hs.cells]
   · have hle:∀ j,j < news.length→n * i.size + j < c * i.size:=by
      intro j hj
      rw [hs.newsLen] at hj
      have:(n + m) * i.size≤c * i.size:=Nat.mul_le_mul_right _ hroom
      rw [Nat.add_mul] at this
      omega
     have hr:=run_append_room_src (P:=P) w t tx ty e i ht hi g 0 n c x m news hs hroom
      (fun j hj => by rw [Nat.zero_add];exact (h4 _ (hle j hj)).1) (fun j hj => by rw [Nat.zero_add];exact (h4 _ (hle j hj)).2)
     have hcs:∀ j,j < news.length→(w.cell? ⟨g,0 + n * i.size + j,none⟩).isSome = true:=fun j hj => by rw [Nat.zero_add];exact (h4 _ (hle j hj)).1
     have hsize':∀ (vs:List Value) (o:Nat) (u:World),(u.setCells g o vs).heap.size = u.heap.size:=by
      intro vs
      induction vs with
      | nil => intro o u;rfl
      | cons v r ih => intro o u;rw [World.setCells,ih];simp
     have hkept:∀ (vs:List Value) (o:Nat) (u:World),u.grownBy (u.setCells g o vs) (some g):=by
      intro vs
      induction vs with
      | nil => intro o u;exact ⟨rfl,rfl,rfl,Nat.le_refl _,fun _ _ _ => rfl⟩
      | cons v r ih =>
       intro o u
       rw [World.setCells]
       have h:=ih (o + 1) (u.setCell ⟨g,o,none⟩ v)
       refine ⟨h.os.trans rfl,h.tape.trans rfl,h.output.trans rfl,by have:=h.size;simpa using this,fun k hk hne => ?_⟩
       rw [h.block k (by simpa using hk) hne]
       exact Below.heap_setCell u ⟨g,o,none⟩ v k (by simpa using hne)
     refine ⟨_,_,_,hr,⟨hlen,hroom,hown.ml,.inr ⟨g,rfl,h1,by rw [hsize'];exact h2,fun j u hu => ?_,fun j hj => ?_⟩⟩,⟨by simpa [blockOf] using hkept news _ w,.inl rfl⟩⟩
     · by_cases hj:j < xs.length
       · rw [List.getElem?_append_left hj] at hu
         rw [World.cell?_setCells_out]
         · exact h3 j u hu
         · intro _ _
           left
           simp only
           rw [hown.len] at hj
           omega
       · rw [List.getElem?_append_right (by omega)] at hu
         have hjn:j - xs.length < news.length:=by
          have:=(List.getElem?_eq_some_iff.1 hu).1
          exact this
         have:=World.cell?_setCells_in g news (0 + n * i.size) w hcs (j - xs.length) hjn
         rw [show 0 + n * i.size + (j - xs.length) = j from by have:=hown.len;omega] at this
         rw [this]
         rw [List.getElem?_eq_getElem hjn] at hu
         exact hu
     · rw [World.frozen?_setCells]
       refine ⟨?_,(h4 j hj).2⟩
       by_cases hin:0 + n * i.size≤j∧j < 0 + n * i.size + news.length
       · have:=World.cell?_setCells_in g news (0 + n * i.size) w hcs (j - n * i.size) (by omega)
         rw [show 0 + n * i.size + (j - n * i.size) = j from by omega] at this
         rw [this]
         rfl
       · rw [World.cell?_setCells_out]
         · exact (h4 j hj).1
         · intro _ _
           simp only
           omega
 · have hold:(Builtin.firstCells i.size n (.slice a n c)).run P w.drew = .ok xs.toArray w.drew:=by
    rcases hown.row with ⟨rfl,rfl⟩ | ⟨g,rfl,h1,h2,h3,h4⟩
    · have hn0:n = 0:=by have:=hown.le;omega
      subst hn0
      have hx:xs = []:=by have:=hown.len;simpa using this
      subst hx
      exact run_firstCells_none w.drew i.size 0 0 0
    · exact run_firstCells_some w.drew i.size n ⟨g,0,none⟩ n c xs hown.len (fun j u hu => by rw [Addr.add_lit,Nat.zero_add];exact h3 j u hu)
   have hr:=run_append_grow_src (P:=P) w t tx ty e i z ht hi hz a n c xs hold x m news hs (by omega) (by omega) (growslice_fits (by omega) hb)
   have hge:=grownCap_ge w (n + m) c e
   have hcm:grownCap w (n + m) c e≤maxLen:=grownCap_le_maxLen w (n + m) c e h63
   have hcell:∀ j,(w.drew.alloc (.cells ((xs ++ news).toArray ++ Builtin.zeroCells z.cells (grownCap w (n + m) c e - (n + m))) e)).cell? ⟨w.heap.size,j,none⟩ = ((xs ++ news).toArray ++ Builtin.zeroCells z.cells (grownCap w (n + m) c e - (n + m)))[j]?:=
    fun j => World.cell?_alloc_new w.drew _ e j
   have hfz:∀ j,(w.drew.alloc (.cells ((xs ++ news).toArray ++ Builtin.zeroCells z.cells (grownCap w (n + m) c e - (n + m))) e)).frozen? ⟨w.heap.size,j,none⟩ = false:=
    fun j => World.frozen?_alloc_new w.drew _ e j
   refine ⟨_,_,_,hr,⟨hlen,hge,hcm,.inr ⟨w.heap.size,rfl,hB,by simp,fun j u hu => ?_,fun j hj => ⟨?_,hfz j⟩⟩⟩,⟨⟨rfl,rfl,rfl,by simp,fun k hk _ => Below.heap_alloc w.drew _ k hk⟩,.inr ⟨_,rfl,Nat.le_refl _⟩⟩⟩
   · rw [hcell,Array.getElem?_append_left (by
      have:=(List.getElem?_eq_some_iff.1 hu).1
      simpa using this)]
     simpa using hu
   · rw [hcell]
     have hsz:j < ((xs ++ news).toArray ++ Builtin.zeroCells z.cells (grownCap w (n + m) c e - (n + m))).size:=by
      rw [Array.size_append,size_zeroCells,hzs,List.size_toArray,hlen,← Nat.add_mul]
      rw [show n + m + (grownCap w (n + m) c e - (n + m)) = grownCap w (n + m) c e from by omega]
      exact hj
     rw [Array.getElem?_eq_getElem hsz]
     rfl
/-- append, in the walk. -/
theorem wpList_app {ops:Array Oper} {rest:List Oper} {o:Oper} {act:Act} {Q:Exit→Act→World→Prop} (hgd:o.guard = none) (s x:Operand) (t tx:TypeId)
 (ho:o.op = .call { callee:=.builtin .append,args:=#[s,x],argTypes:=#[t,tx] })
 (e:TypeId) (i:TypeInfo) (z:Value) (size bytes:Nat) (ht:P.underlying t = some (.slice e)) (hi:P.info? e = some i) (hz:i.zero = some z) (hsize:i.size = size) (hby:i.bytes = bytes) (hzs:z.cells.size = size)
 (hz1:∀ u∈z.cells.toList,u.oneCell' = true)
 (B:Nat) (a:Option Addr) (n c:Nat) (xs:List Value) (hs:act.eval s = .slice a n c) (hown:Own w B size a n c xs) (xv:Value) (m:Nat) (news:List Value) (hx:act.eval x = xv) (hsrc:Src P size tx xv m news w)
 (h63:n + m≤maxLen) (hb:(n + m) * bytes≤140737488355328) (hB:B≤w.heap.size)
 (h:∀ a' c' w',Own w' B size a' (n + m) c' (xs ++ news)→Apped w w' a a'→wpList P ops Q rest (act.put o.dst (.slice a' (n + m) c')) w'):wpList P ops Q (o :: rest) act w:=by
 obtain ⟨a',c',w',hr,h2,h3⟩:=run_app (P:=P) (w:=w) t tx o.type e i z size bytes ht hi hz hsize hby hzs hz1 B a n c xs hown xv m news hsrc h63 hb hB
 refine wpList_plain hgd fun _ hK => ?_
 unfold Oper.wp execOp
 simp only [ho,resolve,invoke,builtin,Sem.run_bind,Sem.run_pure,Result.andThen_ok,List.map_toArray,List.map_cons,List.map_nil,hs,hx,hr]
 exact hK _ _ (h a' c' w' h2 h3)
/-- What is appended: a slice that is read. -/
theorem Src.ofCells {size:Nat} {tx e':TypeId} (hk:P.underlying tx = some (.slice e')) (a:Option Addr) (n c:Nat) (news:List Value) (hl:news.length = n * size) (hnews:Cells w a news)
 (h1:∀ u∈news,u.oneCell' = true) (hn:0 < size):Src P size tx (.slice a n c) n news w:=by
 by_cases h0:news = []
 · subst h0
   have hn0:n = 0:=by
    rcases Nat.mul_eq_zero.1 hl.symm with h | h
    · exact h
    · omega
   subst hn0
   refine ⟨.inl ⟨e',hk⟩,fun _ => rfl,?_,?_,hl,h1⟩
   · cases a with
     | none => exact run_firstCells_none w size 0 0 c
     | some a => exact run_firstCells_some w size 0 a 0 c [] (by simp) (by simp)
   · cases a with
     | none => exact run_firstCells_none w.drew size 0 0 c
     | some a => exact run_firstCells_some w.drew size 0 a 0 c [] (by simp) (by simp)
 · obtain ⟨b,off,rfl,hc⟩:=hnews h0
   exact Src.ofSlice w hk ⟨b,off,none⟩ n c news hl (fun j u hu => by rw [Addr.add_lit];exact hc j u hu) h1
/-- 'make([]T, n)', in the walk (elements of one cell). -/
theorem wpList_mk {ops:Array Oper} {rest:List Oper} {o:Oper} {act:Act} {Q:Exit→Act→World→Prop} (hgd:o.guard = none) (l c:Operand) (t e:TypeId) (ho:o.op = .makeSlice t l c)
 (i:TypeInfo) (z:Value) (bytes:Nat) (ht:P.underlying t = some (.slice e)) (hi:P.info? e = some i) (hz:i.zero = some z) (hsize:i.size = 1) (hby:i.bytes = bytes) (hzs:z.cells = #[z])
 (n:Nat) (hl:act.eval l = .int .i64 n) (hc:act.eval c = .int .i64 n) (hb:bytes * n≤281474976710656) (hm:n≤maxLen)
 (h:∀ g w',Own w' w.heap.size 1 (some ⟨g,0,none⟩) n n (List.replicate n z)→Below w.heap.size w w'→wpList P ops Q rest (act.put o.dst (.slice (some ⟨g,0,none⟩) n n)) w'):wpList P ops Q (o :: rest) act w:=by
 subst hby
 have hr:=run_make (P:=P) w t e i z ht hi hz .i64 .i64 (n:Int) (n:Int) (by omega) (Int.le_refl _) (by omega) (by simp only [maxLen] at hm;omega)
 simp only [Int.toNat_natCast,hsize,Nat.mul_one,hzs] at hr
 refine wpList_plain hgd fun _ hK => ?_
 unfold Oper.wp execOp
 simp only [ho,hl,hc,Sem.run_bind,Sem.run_pure,hr,Result.andThen_ok]
 have hcell:∀ j,j < n→(w.alloc (.cells (madeCells #[z] n) e)).cell? ⟨w.heap.size,j,none⟩ = some z:=by
  intro j hj
  rw [World.cell?_alloc_new,← Array.getElem?_toList,toList_madeCells_one,List.getElem?_replicate,if_pos hj]
 refine hK _ _ (h _ _ ⟨by simp,Nat.le_refl _,hm,.inr ⟨_,rfl,Nat.le_refl _,by simp,fun j u hu => ?_,fun j hj => ⟨?_,World.frozen?_alloc_new _ _ _ _⟩⟩⟩ ((Below.refl _ _).alloc (Nat.le_refl _) _))
 · rw [List.getElem?_replicate] at hu
   split at hu
   · rename_i hj
     rw [hcell j hj]
     exact hu
   · cases hu
 · rw [hcell j (by omega)];rfl
end
end Go.Proofs.YtjnidopbdjbbgaaGreat
