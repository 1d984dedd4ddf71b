/-
  The reference's Step: walked.
-/
import Derived.Test.YtjnidopbdjbbgaaGreatB12
import Derived.Test.YtjnidopbdjbbgaaGreatB08
namespace Go.Proofs.YtjnidopbdjbbgaaGreat
open Go.RowKit
set_option linter.unusedVariables false
attribute [local go_sem] field196_0 field196_2
theorem results_cell_tmp3 {fn:Func} {p u v x:Tmp} {ty:TypeId} (h:fn.results = #[.cell p ty,.tmp u,.tmp v,.tmp x]) (tmps:Array Value) (P:Program) (w:World):
 (results fn tmps).run P w =
  ((asAddr (tmps.getD p undef)).run P w).andThen fun a w₁ => ((loadVar ty a).run P w₁).andThen fun y w₂ => .ok (.tuple #[y,tmps.getD u undef,tmps.getD v undef,tmps.getD x undef]) w₂:=by
 simp only [results,h]
 simp [Sem.run_bind,Result.andThen]
theorem res89 {B:Nat} (x0 x1 x2 x3 x4 y1 y2 y3:Value):∀ (tmps:Array Value) (W':World),W'.heap[B]? = some (.cells #[x0,x1,x2,x3,x4] 155)→tmps.getD 6 undef = .pointer (some ⟨B,0,none⟩)→tmps.getD 7 undef = y1→tmps.getD 8 undef = y2→tmps.getD 9 undef = y3→(results Tryz.f89 tmps).run Tryz.prog W' = .ok (.tuple #[.agg #[x0,x1,x2,x3,x4],y1,y2,y3]) W':=by
 intro tmps W' h1 h2 h3 h4 h5
 rw [results_cell_tmp3 rfl]
 have hlv:=run_loadVar_row (P:=Tryz.prog) _ B 155 155 _ _ _ h1 Tryz.underlying155 rfl (by kernel_rfl)
 rw [h2,h3,h4,h5]
 simp [asAddr,hlv]
/-- What a step of the reference leaves. -/
def RStepP (w:World) (B base:Nat) (s:St) (pa:Option Addr) (x:Ending) (w':World):Prop:=
 ∃ (t:St) (qa:Option Addr) (qc:Nat) (lv:Int) (k:Nat) (d:Bool),x = .returned (.tuple #[.agg #[.int .i8 base,.slice qa t.l.length qc,.int .i64 t.isos,.int .i64 t.embs,.int .i64 t.valid],.int .i8 lv,.int .u8 k,.bool d])∧Ok base t∧Cnt s t∧Own w' B 3 qa t.l.length qc (entsV t.l)∧(∀ g,qa = some ⟨g,0,none⟩→pa = some ⟨g,0,none⟩∨w.heap.size≤g)∧Below w.heap.size w w'
/-- What is known ahead of a step. -/
structure RPre (w V:World) (B base N:Nat) (s:St) (pa:Option Addr) (pc:Nat):Prop where
 ge:B≤w.heap.size
 eq:V = (w.alloc (.cells #[.int .i8 base,.slice pa s.l.length pc,.int .i64 s.isos,.int .i64 s.embs,.int .i64 s.valid] 155)).alloc (.cells #[.int .i8 0,.slice none 0 0,.int .i64 0,.int .i64 0,.int .i64 0] 155)
 n:N = w.heap.size
 own:Own w B 3 pa s.l.length pc (entsV s.l)
theorem RPre.box {w V:World} {B base N:Nat} {s:St} {pa:Option Addr} {pc:Nat} (h:RPre w V B base N s pa pc) {w':World} (hb:Below V.heap.size V w'):
 w'.heap[N]? = some (.cells #[.int .i8 base,.slice pa s.l.length pc,.int .i64 s.isos,.int .i64 s.embs,.int .i64 s.valid] 155)∧w'.heap[N + 1]? = some (.cells #[.int .i8 0,.slice none 0 0,.int .i64 0,.int .i64 0,.int .i64 0] 155):=by
 obtain ⟨b1,b2⟩:=alloc2_at w (.cells #[.int .i8 base,.slice pa s.l.length pc,.int .i64 s.isos,.int .i64 s.embs,.int .i64 s.valid] 155) (.cells #[.int .i8 0,.slice none 0 0,.int .i64 0,.int .i64 0,.int .i64 0] 155)
 rw [← h.eq,← h.n] at b1 b2
 exact ⟨(hb.block N (Array.getElem?_eq_some_iff.1 b1).1).trans b1,(hb.block (N + 1) (Array.getElem?_eq_some_iff.1 b2).1).trans b2⟩
theorem RPre.below {w V:World} {B base N:Nat} {s:St} {pa:Option Addr} {pc:Nat} (h:RPre w V B base N s pa pc):Below w.heap.size w V:=by
 rw [h.eq];exact below_alloc2 w _ _
theorem RPre.owns {w V:World} {B base N:Nat} {s:St} {pa:Option Addr} {pc:Nat} (h:RPre w V B base N s pa pc) {w':World} (hb:Below V.heap.size V w'):Own w' B 3 pa s.l.length pc (entsV s.l):=
 (h.own.below h.below).below hb
theorem RPre.size {w V:World} {B base N:Nat} {s:St} {pa:Option Addr} {pc:Nat} (h:RPre w V B base N s pa pc):V.heap.size = N + 2:=by rw [h.eq,h.n];simp
/-- The five cells of the result. -/
theorem RPre.fin {w V:World} {B base N:Nat} {s:St} {pa:Option Addr} {pc:Nat} (h:RPre w V B base N s pa pc) {w':World} (hb:Below w.heap.size w w') (x0 x1 x2 x3 x4:Value):Below w.heap.size w (((((w'.setCell ⟨N + 1,0,none⟩ x0).setCell ⟨N + 1,1,none⟩ x1).setCell ⟨N + 1,2,none⟩ x2).setCell ⟨N + 1,3,none⟩ x3).setCell ⟨N + 1,4,none⟩ x4):=by
 have hN:w.heap.size≤N + 1:=by have:=h.n;omega
 exact (((((hb.setCell (p:=⟨N + 1,0,none⟩) hN _).setCell (p:=⟨N + 1,1,none⟩) hN _).setCell (p:=⟨N + 1,2,none⟩) hN _).setCell (p:=⟨N + 1,3,none⟩) hN _).setCell (p:=⟨N + 1,4,none⟩) hN _)
theorem own_set5 {w':World} {B n c M:Nat} {qa:Option Addr} {xs:List Value} (h:Own w' B 3 qa n c xs) (hne:∀ g,qa = some ⟨g,0,none⟩→g≠M) (x0 x1 x2 x3 x4:Value):Own (((((w'.setCell ⟨M,0,none⟩ x0).setCell ⟨M,1,none⟩ x1).setCell ⟨M,2,none⟩ x2).setCell ⟨M,3,none⟩ x3).setCell ⟨M,4,none⟩ x4) B 3 qa n c xs:=
 ((((h.stored_other ⟨M,0,none⟩ _ hne).stored_other ⟨M,1,none⟩ _ hne).stored_other ⟨M,2,none⟩ _ hne).stored_other ⟨M,3,none⟩ _ hne).stored_other ⟨M,4,none⟩ _ hne
theorem own_lt3 {w:World} {B n c g:Nat} {a:Option Addr} {xs:List Value} (h:Own w B 3 a n c xs) (hg:a = some ⟨g,0,none⟩):g < w.heap.size:=by
 rcases h.row with ⟨h0,_⟩ | ⟨g',ha,_,h2,_⟩
 · rw [h0] at hg;cases hg
 · rw [ha] at hg;cases hg;exact h2
theorem ok_cons {base:Nat} {s:St} (h:Ok base s):∃ e r,s.l = e :: r:=by
 obtain ⟨r,hr,_⟩:=h.shape
 cases r with
 | nil => exact ⟨_,_,hr⟩
 | cons x r => exact ⟨x,r ++ [⟨base,0,false⟩],by rw [hr];rfl⟩
theorem next_room {s:St} {c auto:Nat} {odd:Bool} (h:c = 15∨c = 16∨c = 17∨c = 18) (ho:odd = (c == 17 || c == 18)) (hr:s.room odd = true):s.next c auto = s.put odd (if c = 18 then 2 else if c = 16 then 1 else 0) false:=by
 unfold St.next
 rw [if_pos h]
 subst ho
 simp only [hr,if_true]
theorem step_done {w V w4:World} {B base N pc qc:Nat} {s t:St} {pa qa:Option Addr} (hp:RPre w V B base N s pa pc) (hb:Below V.heap.size V w4) (hok:Ok base t) (hcnt:Cnt s t) {n:Nat} {i em va:Int} (hn:t.l.length = n) (hi:(t.isos:Int) = i) (he:(t.embs:Int) = em) (hv:(t.valid:Int) = va)
 (own:Own w4 B 3 qa n qc (entsV t.l)) (hne:∀ g,qa = some ⟨g,0,none⟩→g≠N + 1∧(pa = some ⟨g,0,none⟩∨w.heap.size≤g)) (hx:w4.heap[N + 1]? = some (.cells #[.int .i8 0,.slice none 0 0,.int .i64 0,.int .i64 0,.int .i64 0] 155)) (lv:Int) (k:Nat) (d:Bool) (tmps:Array Value) (h6:tmps.getD 6 undef = .pointer (some ⟨N + 1,0,none⟩)) (h7:tmps.getD 7 undef = .int .i8 lv) (h8:tmps.getD 8 undef = .int .u8 k) (h9:tmps.getD 9 undef = .bool d):
 bodyPost Tryz.prog Tryz.f89 (RStepP w B base s pa) Exit.ret ⟨tmps,[]⟩ (((((w4.setCell ⟨N + 1,0,none⟩ (.int .i8 base)).setCell ⟨N + 1,1,none⟩ (.slice qa n qc)).setCell ⟨N + 1,2,none⟩ (.int .i64 i)).setCell ⟨N + 1,3,none⟩ (.int .i64 em)).setCell ⟨N + 1,4,none⟩ (.int .i64 va)):=by
 have hr:=set_all5 hx (.int .i8 base) (.slice qa n qc) (.int .i64 i) (.int .i64 em) (.int .i64 va)
 refine bodyPost_ret (res89 _ _ _ _ _ _ _ _ _ _ hr h6 h7 h8 h9) rfl ⟨t,qa,qc,lv,k,d,?_,hok,hcnt,?_,fun g hg => (hne g hg).2,hp.fin (hp.below.trans (hb.mono hp.below.size)) _ _ _ _ _⟩
 · rw [hn,hi,he,hv]
 · rw [hn];exact own_set5 own (fun g hg => (hne g hg).1) _ _ _ _ _
theorem RPre.apart {w V:World} {B base N:Nat} {s:St} {pa:Option Addr} {pc:Nat} (h:RPre w V B base N s pa pc):∀ g,pa = some ⟨g,0,none⟩→g≠N + 1∧(pa = some ⟨g,0,none⟩∨w.heap.size≤g):=fun g hg => by
 have:=own_lt3 h.own hg
 have:=h.n
 exact ⟨by omega,.inl hg⟩
theorem RPre.apart2 {w V w':World} {B base N n c:Nat} {s:St} {pa qa:Option Addr} {pc:Nat} {xs:List Value} (h:RPre w V B base N s pa pc) {C:Nat} (hC:V.heap.size≤C) (ho:Own w' C 3 qa n c xs):∀ g,qa = some ⟨g,0,none⟩→g≠N + 1∧(pa = some ⟨g,0,none⟩∨w.heap.size≤g):=fun g hg => by
 have:=own_ge ho hg
 have:=h.size
 have:=h.n
 exact ⟨by omega,.inr (by omega)⟩
/-- A cell of the stack's own box is stored. -/
theorem RPre.stored {w V:World} {B base N:Nat} {s:St} {pa:Option Addr} {pc:Nat} (h:RPre w V B base N s pa pc) {w':World} (hb:Below V.heap.size V w') (j:Nat) (v:Value):(w'.setCell ⟨N,j,none⟩ v).heap[N + 1]? = some (.cells #[.int .i8 0,.slice none 0 0,.int .i64 0,.int .i64 0,.int .i64 0] 155)∧Below w.heap.size w (w'.setCell ⟨N,j,none⟩ v):=
 ⟨heap_other (h.box hb).2 (by omega) v,(h.below.trans (hb.mono h.below.size)).setCell (p:=⟨N,j,none⟩) (by have:=h.n;show w.heap.size≤N;omega) v⟩
theorem step_doneW {w V w4:World} {B base N pc qc:Nat} {s t:St} {pa qa:Option Addr} (hp:RPre w V B base N s pa pc) (hb:Below w.heap.size w w4) (hok:Ok base t) (hcnt:Cnt s t) {n:Nat} {i em va:Int} (hn:t.l.length = n) (hi:(t.isos:Int) = i) (he:(t.embs:Int) = em) (hv:(t.valid:Int) = va)
 (own:Own w4 B 3 qa n qc (entsV t.l)) (hne:∀ g,qa = some ⟨g,0,none⟩→g≠N + 1∧(pa = some ⟨g,0,none⟩∨w.heap.size≤g)) (hx:w4.heap[N + 1]? = some (.cells #[.int .i8 0,.slice none 0 0,.int .i64 0,.int .i64 0,.int .i64 0] 155)) (lv:Int) (k:Nat) (d:Bool) (tmps:Array Value) (h6:tmps.getD 6 undef = .pointer (some ⟨N + 1,0,none⟩)) (h7:tmps.getD 7 undef = .int .i8 lv) (h8:tmps.getD 8 undef = .int .u8 k) (h9:tmps.getD 9 undef = .bool d):
 bodyPost Tryz.prog Tryz.f89 (RStepP w B base s pa) Exit.ret ⟨tmps,[]⟩ (((((w4.setCell ⟨N + 1,0,none⟩ (.int .i8 base)).setCell ⟨N + 1,1,none⟩ (.slice qa n qc)).setCell ⟨N + 1,2,none⟩ (.int .i64 i)).setCell ⟨N + 1,3,none⟩ (.int .i64 em)).setCell ⟨N + 1,4,none⟩ (.int .i64 va)):=by
 have hr:=set_all5 hx (.int .i8 base) (.slice qa n qc) (.int .i64 i) (.int .i64 em) (.int .i64 va)
 refine bodyPost_ret (res89 _ _ _ _ _ _ _ _ _ _ hr h6 h7 h8 h9) rfl ⟨t,qa,qc,lv,k,d,?_,hok,hcnt,?_,fun g hg => (hne g hg).2,hp.fin hb _ _ _ _ _⟩
 · rw [hn,hi,he,hv]
 · rw [hn];exact own_set5 own (fun g hg => (hne g hg).1) _ _ _ _ _
theorem next_no {s:St} {c auto:Nat} {odd:Bool} (h:c = 15∨c = 16∨c = 17∨c = 18) (ho:odd = (c == 17 || c == 18)) (hr:s.room odd = false):s.next c auto = if s.isos = 0 then { s with embs:=s.embs + 1 } else s:=by
 unfold St.next
 rw [if_pos h]
 subst ho
 simp [hr]
theorem set2_of5 {w:World} {N:Nat} {a b c d e:Value} {t:TypeId} {fr:Nat × Nat} (h:w.heap[N]? = some (.cells #[a,b,c,d,e] t fr)) (v:Value):(w.setCell ⟨N,2,none⟩ v).heap[N]? = some (.cells #[a,b,v,d,e] t fr):=heap_set h v
theorem set3_of5 {w:World} {N:Nat} {a b c d e:Value} {t:TypeId} {fr:Nat × Nat} (h:w.heap[N]? = some (.cells #[a,b,c,d,e] t fr)) (v:Value):(w.setCell ⟨N,3,none⟩ v).heap[N]? = some (.cells #[a,b,c,v,e] t fr):=heap_set h v
theorem set4_of5 {w:World} {N:Nat} {a b c d e:Value} {t:TypeId} {fr:Nat × Nat} (h:w.heap[N]? = some (.cells #[a,b,c,d,e] t fr)) (v:Value):(w.setCell ⟨N,4,none⟩ v).heap[N]? = some (.cells #[a,b,c,d,v] t fr):=heap_set h v
theorem RPre.apart0 {w V:World} {B base N:Nat} {s:St} {pa:Option Addr} {pc:Nat} (h:RPre w V B base N s pa pc):∀ g,pa = some ⟨g,0,none⟩→g≠N:=fun g hg => by
 have:=own_lt3 h.own hg
 have:=h.n
 omega
theorem next_iso {s:St} {c auto:Nat} {odd:Bool} (h:begins c = true) (ho:odd = (c == 21 || c == 22 && auto == 1)) (hr:s.room odd = true):s.next c auto = { s.put odd 0 true with valid:=s.valid + 1 }:=by
 have hn:¬ (c = 15∨c = 16∨c = 17∨c = 18):=by simp only [begins,Bool.or_eq_true,beq_iff_eq] at h;omega
 unfold St.next
 rw [if_neg hn,if_pos h]
 subst ho
 simp only [hr,if_true]
theorem next_iso_no {s:St} {c auto:Nat} {odd:Bool} (h:begins c = true) (ho:odd = (c == 21 || c == 22 && auto == 1)) (hr:s.room odd = false):s.next c auto = { s with isos:=s.isos + 1 }:=by
 have hn:¬ (c = 15∨c = 16∨c = 17∨c = 18):=by simp only [begins,Bool.or_eq_true,beq_iff_eq] at h;omega
 unfold St.next
 rw [if_neg hn,if_pos h]
 subst ho
 simp [hr]
theorem valid_le {base:Nat} {s:St} (h:Ok base s):s.valid≤s.l.length:=by
 obtain ⟨r,hr,hv,_⟩:=h.shape
 rw [hr,hv,List.length_append]
 have:=List.countP_le_length (p:=fun e:Ent => e.iso) (l:=r)
 omega
theorem entsV_take (e:Ent) (r:List Ent):(entsV (e :: r)).take (r.length * 3) = entsV r:=by
 rw [entsV_cons,List.take_append,entsV_len,Nat.sub_self,List.take_zero,List.append_nil,List.take_of_length_le (by rw [entsV_len];exact Nat.le_refl _)]
theorem next_19 (s:St) (auto:Nat):s.next 19 auto = if 0 < s.isos then s else if 0 < s.embs then { s with embs:=s.embs - 1 } else if 1 < s.l.length∧s.top.iso = false then { s with l:=s.l.tail } else s:=rfl
theorem once2 {G T:Prop} (h:G→T) (g:G):T:=h g
theorem next_11 {base:Nat} {s:St} (h:Ok base s) (auto:Nat):s.next 11 auto = { l:=[⟨base,0,false⟩],isos:=0,embs:=0,valid:=0 }:=by
 obtain ⟨r,hr,_⟩:=h.shape
 have e:s.next 11 auto = { l:=s.l.drop (s.l.length - 1),isos:=0,embs:=0,valid:=0 }:=rfl
 rw [e,hr,List.length_append,List.length_singleton,Nat.add_sub_cancel,List.drop_append,List.drop_of_length_le (Nat.le_refl _),Nat.sub_self]
 rfl
theorem next_23 (s:St) (auto:Nat):s.next 23 auto = if 0 < s.isos then { s with isos:=s.isos - 1 } else if 0 < s.valid then { l:=(s.l.dropWhile fun e => !e.iso).tail,isos:=0,embs:=0,valid:=s.valid - 1 } else s:=by
 have e:s.next 23 auto = s.pop:=by simp [St.next,begins]
 rw [e]
 rfl
/-- What each step lays ahead of its walk. -/
theorem rall {w V:World} {B base N:Nat} {s:St} {pa:Option Addr} {pc:Nat} (hp:RPre w V B base N s pa pc) (hb1:base≤1) (hok:Ok base s) (hl:s.l.length≤1048590):
 ∃ (e:Ent) (r:List Ent) (n:Nat) (kp:Nat→Nat),s.l = e :: r∧s.top = e∧e.level≤125∧n = s.l.length∧r.length + 1 = n∧Hid (RPre w V B base N s pa pc) ∧
  Hid (∀ w',Below V.heap.size V w'→w'.heap[N]? = some (.cells #[.int .i8 base,.slice pa n pc,.int .i64 s.isos,.int .i64 s.embs,.int .i64 s.valid] 155)∧w'.heap[N + 1]? = some (.cells #[.int .i8 0,.slice none 0 0,.int .i64 0,.int .i64 0,.int .i64 0] 155)) ∧
  Hid (∀ w',Below V.heap.size V w'→Own w' B 3 pa n pc (entsV s.l)) ∧
  Hid (∀ (w':World) (odd:Bool),Own w' B 3 pa n pc (entsV (e :: r))→Calls Tryz.prog 119 #[.agg #[.int .i8 base,.slice pa n pc,.int .i64 s.isos,.int .i64 s.embs,.int .i64 s.valid],.bool odd] w' fun x w'' => x = .returned (.int .i64 (nextLevel e.level odd))∧Below w'.heap.size w' w'') ∧
  Hid (∀ (w':World) (k:Nat),Calls Tryz.prog 120 #[.agg #[.int .i8 base,.slice pa n pc,.int .i64 s.isos,.int .i64 s.embs,.int .i64 s.valid],.int .i64 k] w' fun x w'' => x = .returned (.bool (decide (k≤125) && s.isos == 0 && s.embs == 0))∧Below w'.heap.size w' w'') ∧
  Hid (∀ (w':World) (e:Ent),Own w' B 3 pa n pc (entsV s.l)→Calls Tryz.prog 121 #[.agg #[.int .i8 base,.slice pa n pc,.int .i64 s.isos,.int .i64 s.embs,.int .i64 s.valid],.agg #[.int .i8 e.level,.int .u8 e.over,.bool e.iso]] w' fun x w'' => ∃ qa qc,x = .returned (.agg #[.int .i8 base,.slice qa (n + 1:Nat) qc,.int .i64 s.isos,.int .i64 s.embs,.int .i64 s.valid])∧Own w'' w'.heap.size 3 qa (n + 1) qc (entsV (e :: s.l))∧Below w'.heap.size w' w'') ∧
  Hid (∀ (w':World) (c:Nat),1≤c→c≤23→Own w' B 3 pa n pc (entsV (e :: r))→Calls Tryz.prog 122 #[.agg #[.int .i8 base,.slice pa n pc,.int .i64 s.isos,.int .i64 s.embs,.int .i64 s.valid],.int .u8 c] w' fun x w'' => x = .returned (.tuple #[.int .i8 e.level,.int .u8 (kp c)])∧Below w'.heap.size w' w'') ∧
  Hid (∀ (w':World),Own w' B 3 pa n pc (entsV (e :: r))→Calls Tryz.prog 123 #[.agg #[.int .i8 base,.slice pa n pc,.int .i64 s.isos,.int .i64 s.embs,.int .i64 s.valid]] w' fun x w'' => x = .returned (.agg #[.int .i8 e.level,.int .u8 e.over,.bool e.iso])∧Below w'.heap.size w' w'') ∧
  Hid (V = (w.alloc (.cells #[.int .i8 base,.slice pa n pc,.int .i64 s.isos,.int .i64 s.embs,.int .i64 s.valid] 155)).alloc (.cells #[.int .i8 0,.slice none 0 0,.int .i64 0,.int .i64 0,.int .i64 0] 155))∧Hid (N = w.heap.size)∧Hid (s.l = e :: r):=by
 obtain ⟨e,r,hs⟩:=ok_cons hok
 have htop:=top_of hs
 have hlev:e.level≤125:=by have:=(hok.top (by omega)).2;rw [htop] at this;exact this
 obtain ⟨n,hn⟩:∃ n,n = s.l.length:=⟨_,rfl⟩
 have hrn:r.length + 1 = n:=by rw [hn,hs];rfl
 have HP:=Lib.hid hp
 have HBX:=Lib.hid (fun w' h => hp.box (w':=w') h)
 have HOW:=Lib.hid (fun w' h => hp.owns (w':=w') h)
 have HNX:=Lib.hid (fun (w':World) odd h => rnext_any w' B base s.isos s.embs s.valid pa pc e r n odd hrn (by omega) hlev h)
 have HRM:=Lib.hid (fun (w':World) k => rroom_any w' base s.valid s.isos s.embs pa pc n k)
 have HWI:=Lib.hid (fun (w':World) e h => rwith_any w' B base s.isos s.embs s.valid pa pc s.l e n hn.symm (by omega) h)
 obtain ⟨kp,hkp⟩:∃ kp:Nat→Nat,kp = fun c => if e.over = 0 then c else e.over:=⟨_,rfl⟩
 have HPL:=Lib.hid (show ∀ (w':World) (c:Nat),1≤c→c≤23→Own w' B 3 pa n pc (entsV (e :: r))→Calls Tryz.prog 122 #[.agg #[.int .i8 base,.slice pa n pc,.int .i64 s.isos,.int .i64 s.embs,.int .i64 s.valid],.int .u8 c] w' fun x w'' => x = .returned (.tuple #[.int .i8 e.level,.int .u8 (kp c)])∧Below w'.heap.size w' w'' from fun w' c h1 h2 h => by rw [hkp];exact rplain_any w' B base s.isos s.embs s.valid pa pc e r n c hrn (by omega) h1 h2 h)
 clear hkp
 have HLA:=Lib.hid (fun (w':World) h => rlast_any w' B base s.isos s.embs s.valid pa pc e r n hrn (by omega) h)
 have HEQ:=Lib.hid hp.eq
 have HNN:=Lib.hid hp.n
 have HS:=Lib.hid hs
 rw [← hn] at HBX HOW HEQ
 exact ⟨e,r,n,kp,hs,htop,hlev,hn,hrn,HP,HBX,HOW,HNX,HRM,HWI,HPL,HLA,HEQ,HNN,HS⟩
set_option maxRecDepth 20000 in
set_option maxHeartbeats 8000000 in
theorem rstep_other (w V:World) (B base N:Nat) (s:St) (pa:Option Addr) (pc auto c:Nat) (hp:RPre w V B base N s pa pc) (hb1:base≤1) (hok:Ok base s) (hl:s.l.length≤1048590) (hi:s.isos≤1048590) (he:s.embs≤1048590) (hc1:1≤c) (hc2:c≤23) (hc:c≤9∨(12≤c∧c≤14)):
 Calls Tryz.prog 89 #[.agg #[.int .i8 base,.slice pa s.l.length pc,.int .i64 s.isos,.int .i64 s.embs,.int .i64 s.valid],.int .u8 c,.int .i8 auto] w (RStepP w B base s pa):=by
 obtain ⟨e,r,n,kp,hs,htop,hlev,hn,hrn,HP,HBX,HOW,HNX,HRM,HWI,HPL,HLA,HEQ,HNN,HS⟩:=rall hp hb1 hok hl
 rw [← hn]
 have HOK:=Lib.hid hok
 have z10:((c:Int) == 10) = false:=by simp <;> omega
 have z11:((c:Int) == 11) = false:=by simp <;> omega
 have z15:((c:Int) == 15) = false:=by simp <;> omega
 have z16:((c:Int) == 16) = false:=by simp <;> omega
 have z17:((c:Int) == 17) = false:=by simp <;> omega
 have z18:((c:Int) == 18) = false:=by simp <;> omega
 have z19:((c:Int) == 19) = false:=by simp <;> omega
 have z20:((c:Int) == 20) = false:=by simp <;> omega
 have z21:((c:Int) == 21) = false:=by simp <;> omega
 have z22:((c:Int) == 22) = false:=by simp <;> omega
 have z23:((c:Int) == 23) = false:=by simp <;> omega
 have HNL:=Lib.hid hn
 have HCNT:Hid (Cnt s s):=Lib.hid (by unfold Cnt;omega)
 clear hp hok hs htop hlev hn hrn
 go_enter Tryz.func89,Tryz.ntmps89
 go_upto_region 1 with (fail)
 rw [← HNN.out,← HEQ.out]
 go_wp2_with (first
  | (with_reducible refine wpList_load_row rfl 155 _ rfl N rfl 155 _ (0,0) _ (HBX.out _ (by first | exact HB3.out | exact HB2.out | exact HB1.out | exact Below.refl _ _)).1 Tryz.underlying155 rfl (by kernel_rfl) ?_)
  | (go_at_call 122;refine (HPL.out _ c (by omega) (by omega) (by rw [← HS.out];exact HOW.out _ (by first | exact HB4.out | exact HB5.out _ _ | exact HB3.out _ | exact HB2.out | exact HB1.out | exact Below.refl _ _))).mono ?_;rintro x w1 ⟨rfl,b1⟩;have HB1:Hid (Below V.heap.size V w1):=Lib.hid b1;have m0:=cells_at ((HBX.out _ HB1.out).2) 0;have m1:=cells_at ((HBX.out _ HB1.out).2) 1;have m2:=cells_at ((HBX.out _ HB1.out).2) 2;have m3:=cells_at ((HBX.out _ HB1.out).2) 3;have m4:=cells_at ((HBX.out _ HB1.out).2) 4;have l0:=frozen_at ((HBX.out _ HB1.out).2) 0;have l1:=frozen_at ((HBX.out _ HB1.out).2) 1;have l2:=frozen_at ((HBX.out _ HB1.out).2) 2;have l3:=frozen_at ((HBX.out _ HB1.out).2) 3;have l4:=frozen_at ((HBX.out _ HB1.out).2) 4;clear b1))
 exact step_done (t:=s) HP.out HB1.out HOK.out HCNT.out HNL.out.symm rfl rfl rfl (HOW.out _ HB1.out) HP.out.apart (HBX.out _ HB1.out).2 e.level (kp c) true _ rfl rfl rfl rfl
set_option maxRecDepth 20000 in
set_option maxHeartbeats 8000000 in
theorem rstep_10 (w V:World) (B base N:Nat) (s:St) (pa:Option Addr) (pc auto:Nat) (hp:RPre w V B base N s pa pc) (hb1:base≤1) (hok:Ok base s) (hl:s.l.length≤1048590) (hi:s.isos≤1048590) (he:s.embs≤1048590):
 Calls Tryz.prog 89 #[.agg #[.int .i8 base,.slice pa s.l.length pc,.int .i64 s.isos,.int .i64 s.embs,.int .i64 s.valid],.int .u8 10,.int .i8 auto] w (RStepP w B base s pa):=by
 obtain ⟨e,r,n,kp,hs,htop,hlev,hn,hrn,HP,HBX,HOW,HNX,HRM,HWI,HPL,HLA,HEQ,HNN,HS⟩:=rall hp hb1 hok hl
 rw [← hn]
 have HOK:=Lib.hid hok
 have HNL:=Lib.hid hn
 have HCNT:Hid (Cnt s s):=Lib.hid (by unfold Cnt;omega)
 have m0:=cells_at ((HBX.out _ (Below.refl _ _)).2) 0;have m1:=cells_at ((HBX.out _ (Below.refl _ _)).2) 1;have m2:=cells_at ((HBX.out _ (Below.refl _ _)).2) 2;have m3:=cells_at ((HBX.out _ (Below.refl _ _)).2) 3;have m4:=cells_at ((HBX.out _ (Below.refl _ _)).2) 4;have l0:=frozen_at ((HBX.out _ (Below.refl _ _)).2) 0;have l1:=frozen_at ((HBX.out _ (Below.refl _ _)).2) 1;have l2:=frozen_at ((HBX.out _ (Below.refl _ _)).2) 2;have l3:=frozen_at ((HBX.out _ (Below.refl _ _)).2) 3;have l4:=frozen_at ((HBX.out _ (Below.refl _ _)).2) 4
 clear hp hok hs htop hlev hn hrn
 go_enter Tryz.func89,Tryz.ntmps89
 go_upto_region 1 with (fail)
 rw [← HNN.out,← HEQ.out]
 go_wp2_with (first
  | (with_reducible refine wpList_load_row rfl 155 _ rfl N rfl 155 _ (0,0) _ (HBX.out _ (by first | exact HB3.out | exact HB2.out | exact HB1.out | exact Below.refl _ _)).1 Tryz.underlying155 rfl (by kernel_rfl) ?_))
 exact step_done (t:=s) HP.out (Below.refl _ _) HOK.out HCNT.out HNL.out.symm rfl rfl rfl (HOW.out _ (Below.refl _ _)) HP.out.apart (HBX.out _ (Below.refl _ _)).2 (-1) 10 false _ rfl rfl rfl rfl
set_option maxRecDepth 20000 in
set_option maxHeartbeats 8000000 in
theorem rstep_23i (w V:World) (B base N:Nat) (s:St) (pa:Option Addr) (pc auto:Nat) (hp:RPre w V B base N s pa pc) (hb1:base≤1) (hok:Ok base s) (hl:s.l.length≤1048590) (hi:s.isos≤1048590) (he:s.embs≤1048590) (hz:0 < s.isos):
 Calls Tryz.prog 89 #[.agg #[.int .i8 base,.slice pa s.l.length pc,.int .i64 s.isos,.int .i64 s.embs,.int .i64 s.valid],.int .u8 23,.int .i8 auto] w (RStepP w B base s pa):=by
 obtain ⟨e,r,n,kp,hs,htop,hlev,hn,hrn,HP,HBX,HOW,HNX,HRM,HWI,HPL,HLA,HEQ,HNN,HS⟩:=rall hp hb1 hok hl
 rw [← hn]
 have HNEXT:=Lib.hid (next_23 s auto)
 rw [if_pos hz] at HNEXT
 have HOK:=Lib.hid (hok.next (by omega) 23 auto)
 have HCNT:=Lib.hid (next_counts s 23 auto)
 have HNL:=Lib.hid hn
 have hx0:=(HBX.out V (Below.refl _ _)).1
 have c2:=cells_at hx0 2
 have c4:=cells_at hx0 4
 have f2:=frozen_at hx0 2
 have hi2:(s.isos:Int)≤1048590:=by omega
 have hi3:(0:Int)≤(s.isos:Int):=by omega
 have hz2:(s.isos:Int) > 0:=by omega
 obtain ⟨V2,hV2⟩:∃ V2,V2 = V.setCell ⟨N,2,none⟩ (.int .i64 ((s.isos:Int) - 1)):=⟨_,rfl⟩
 have HX2:=Lib.hid (show V2.heap[N]? = some (.cells #[.int .i8 base,.slice pa n pc,.int .i64 ((s.isos:Int) - 1),.int .i64 s.embs,.int .i64 s.valid] 155) from by rw [hV2];exact set2_of5 hx0 _)
 have HY2:=Lib.hid (show V2.heap[N + 1]? = some (.cells #[.int .i8 0,.slice none 0 0,.int .i64 0,.int .i64 0,.int .i64 0] 155) from by rw [hV2];exact (HP.out.stored (Below.refl _ _) 2 _).1)
 have HB2:=Lib.hid (show Below w.heap.size w V2 from by rw [hV2];exact (HP.out.stored (Below.refl _ _) 2 _).2)
 have HO2:=Lib.hid (show Own V2 B 3 pa n pc (entsV s.l) from by rw [hV2];exact (HOW.out V (Below.refl _ _)).stored_other ⟨N,2,none⟩ _ HP.out.apart0)
 have HVV:=Lib.hid hV2
 clear hV2
 have HPL2:=Lib.hid (show Calls Tryz.prog 122 #[.agg #[.int .i8 base,.slice pa n pc,.int .i64 ((s.isos:Int) - 1),.int .i64 s.embs,.int .i64 s.valid],.int .u8 ((23:Nat):Int)] V2 fun x w'' => (∃ k:Nat,x = .returned (.tuple #[.int .i8 e.level,.int .u8 k]))∧Below V2.heap.size V2 w'' from (rplain_any V2 B base ((s.isos:Int) - 1) s.embs s.valid pa pc e r n 23 hrn (by omega) (by omega) (by omega) (by rw [← hs];exact HO2.out)).mono (by rintro x w2 ⟨rfl,h⟩;exact ⟨⟨_,rfl⟩,h⟩))
 clear hp hok hrn hn hs htop hlev hx0 hz
 go_enter Tryz.func89,Tryz.ntmps89
 go_upto_region 1 with (fail)
 rw [← HNN.out,← HEQ.out]
 go_wp2_with (first
  | (with_reducible refine wpList_load_row rfl 155 _ rfl N rfl 155 _ (0,0) _ HX3.out Tryz.underlying155 rfl (by kernel_rfl) ?_)
  | (with_reducible refine wpList_load_row rfl 155 _ rfl N rfl 155 _ (0,0) _ (set2_of5 (HBX.out V (Below.refl _ _)).1 _) Tryz.underlying155 rfl (by kernel_rfl) ?_)
  | (go_at_call 122;rw [← HVV.out];refine HPL2.out.mono ?_;rintro x w3 ⟨⟨kk,rfl⟩,b3⟩;have HX3:=Lib.hid ((b3.block N (Array.getElem?_eq_some_iff.1 HX2.out).1).trans HX2.out);have HY3:=Lib.hid ((b3.block (N + 1) (Array.getElem?_eq_some_iff.1 HY2.out).1).trans HY2.out);have HB3:=Lib.hid (HB2.out.trans (b3.mono HB2.out.size));have HO3:=Lib.hid (HO2.out.below b3);have m0:=cells_at (HY3.out) 0;have m1:=cells_at (HY3.out) 1;have m2:=cells_at (HY3.out) 2;have m3:=cells_at (HY3.out) 3;have m4:=cells_at (HY3.out) 4;have l0:=frozen_at (HY3.out) 0;have l1:=frozen_at (HY3.out) 1;have l2:=frozen_at (HY3.out) 2;have l3:=frozen_at (HY3.out) 3;have l4:=frozen_at (HY3.out) 4;clear b3))
 exact step_doneW (t:=s.next 23 auto) HP.out HB3.out HOK.out HCNT.out (by rw [HNEXT.out,HNL.out]) (by rw [HNEXT.out];show ((s.isos - 1:Nat):Int) = (s.isos:Int) - 1;have:=hz2;omega) (by rw [HNEXT.out]) (by rw [HNEXT.out]) (by rw [HNEXT.out];exact HO3.out) HP.out.apart HY3.out e.level kk true _ rfl rfl rfl rfl
set_option maxRecDepth 20000 in
set_option maxHeartbeats 8000000 in
theorem rstep_23n (w V:World) (B base N:Nat) (s:St) (pa:Option Addr) (pc auto:Nat) (hp:RPre w V B base N s pa pc) (hb1:base≤1) (hok:Ok base s) (hl:s.l.length≤1048590) (hi:s.isos≤1048590) (he:s.embs≤1048590) (hz:s.isos = 0) (hz3:s.valid = 0):
 Calls Tryz.prog 89 #[.agg #[.int .i8 base,.slice pa s.l.length pc,.int .i64 s.isos,.int .i64 s.embs,.int .i64 s.valid],.int .u8 23,.int .i8 auto] w (RStepP w B base s pa):=by
 obtain ⟨e,r,n,kp,hs,htop,hlev,hn,hrn,HP,HBX,HOW,HNX,HRM,HWI,HPL,HLA,HEQ,HNN,HS⟩:=rall hp hb1 hok hl
 rw [← hn]
 have HNEXT:=Lib.hid (next_23 s auto)
 rw [if_neg (by omega),if_neg (by omega)] at HNEXT
 have HOK:=Lib.hid (hok.next (by omega) 23 auto)
 have HCNT:=Lib.hid (next_counts s 23 auto)
 have HNL:=Lib.hid hn
 have hx0:=(HBX.out V (Below.refl _ _)).1
 have c2:=cells_at hx0 2
 have c4:=cells_at hx0 4
 have f2:=frozen_at hx0 2
 have hi2:(s.isos:Int)≤1048590:=by omega
 have hi3:(0:Int)≤(s.isos:Int):=by omega
 have hz2:¬ (s.isos:Int) > 0:=by omega
 have hz4:¬ (s.valid:Int) > 0:=by omega
 clear hp hok hrn hn hs htop hlev hx0 hz hz3
 go_enter Tryz.func89,Tryz.ntmps89
 go_upto_region 1 with (fail)
 rw [← HNN.out,← HEQ.out]
 go_wp2_with (first
  | (with_reducible refine wpList_load_row rfl 155 _ rfl N rfl 155 _ (0,0) _ (HBX.out _ (by first | exact HB3.out | exact HB2.out | exact HB1.out | exact Below.refl _ _)).1 Tryz.underlying155 rfl (by kernel_rfl) ?_)
  | (go_at_call 122;refine (HPL.out _ 23 (by omega) (by omega) (by rw [← HS.out];exact HOW.out _ (by first | exact HB4.out | exact HB5.out _ _ | exact HB3.out _ | exact HB2.out | exact HB1.out | exact Below.refl _ _))).mono ?_;rintro x w1 ⟨rfl,b1⟩;have HB1:Hid (Below V.heap.size V w1):=Lib.hid b1;have m0:=cells_at ((HBX.out _ HB1.out).2) 0;have m1:=cells_at ((HBX.out _ HB1.out).2) 1;have m2:=cells_at ((HBX.out _ HB1.out).2) 2;have m3:=cells_at ((HBX.out _ HB1.out).2) 3;have m4:=cells_at ((HBX.out _ HB1.out).2) 4;have l0:=frozen_at ((HBX.out _ HB1.out).2) 0;have l1:=frozen_at ((HBX.out _ HB1.out).2) 1;have l2:=frozen_at ((HBX.out _ HB1.out).2) 2;have l3:=frozen_at ((HBX.out _ HB1.out).2) 3;have l4:=frozen_at ((HBX.out _ HB1.out).2) 4;clear b1))
 exact step_done (t:=s.next 23 auto) HP.out HB1.out HOK.out HCNT.out (by rw [HNEXT.out,HNL.out]) (by rw [HNEXT.out]) (by rw [HNEXT.out]) (by rw [HNEXT.out]) (by rw [HNEXT.out];exact HOW.out _ HB1.out) HP.out.apart (HBX.out _ HB1.out).2 e.level (kp 23) true _ rfl rfl rfl rfl
set_option maxRecDepth 20000 in
set_option maxHeartbeats 8000000 in
theorem rstep_11 (w V:World) (B base N:Nat) (s:St) (pa:Option Addr) (pc auto:Nat) (hp:RPre w V B base N s pa pc) (hb1:base≤1) (hok:Ok base s) (hl:s.l.length≤1048590) (hi:s.isos≤1048590) (he:s.embs≤1048590):
 Calls Tryz.prog 89 #[.agg #[.int .i8 base,.slice pa s.l.length pc,.int .i64 s.isos,.int .i64 s.embs,.int .i64 s.valid],.int .u8 11,.int .i8 auto] w (RStepP w B base s pa):=by
 obtain ⟨e,r,n,kp,hs,htop,hlev,hn,hrn,HP,HBX,HOW,HNX,HRM,HWI,HPL,HLA,HEQ,HNN,HS⟩:=rall hp hb1 hok hl
 rw [← hn]
 have HNEXT:=Lib.hid (next_11 hok auto)
 have HOK:=Lib.hid (hok.next (by omega) 11 auto)
 have HCNT:=Lib.hid (next_counts s 11 auto)
 have HNW:=Lib.hid (fun w' => rnew_any w' base (by omega))
 have c0:=cells_at (HBX.out V (Below.refl _ _)).1 0
 clear hp hok hs htop hlev hn hrn
 go_enter Tryz.func89,Tryz.ntmps89
 go_upto_region 1 with (fail)
 rw [← HNN.out,← HEQ.out]
 go_wp2_with (first
  | (go_at_call 86;refine (HNW.out _).mono ?_;rintro x w1 ⟨g,rfl,o1,b1⟩;have HB1:Hid (Below V.heap.size V w1):=Lib.hid b1;have HO1:=Lib.hid o1;clear b1 o1))
 obtain ⟨V2,hV2⟩:∃ V2,V2 = w1.alloc (.cells #[.int .i8 base,.slice (some ⟨g,0,none⟩) 1 1,.int .i64 0,.int .i64 0,.int .i64 0] 155):=⟨_,rfl⟩
 have HB2:Hid (Below V.heap.size V V2):=Lib.hid (by rw [hV2];exact HB1.out.alloc HB1.out.size _)
 have t2:=heap_alloc_new w1 (.cells #[.int .i8 base,.slice (some ⟨g,0,none⟩) 1 1,.int .i64 0,.int .i64 0,.int .i64 0] 155)
 have HO2:=Lib.hid (show Own V2 V.heap.size 3 (some ⟨g,0,none⟩) 1 1 (entsV [⟨base,0,false⟩]) from by rw [hV2];exact HO1.out.alloc _)
 rw [← hV2] at t2 ⊢
 clear hV2 c0
 have c0:=cells_at (HBX.out _ HB2.out).1 0
 have k0:=cells_at t2 0
 have k1:=cells_at t2 1
 have k2:=cells_at t2 2
 have k3:=cells_at t2 3
 have k4:=cells_at t2 4
 have m0:=cells_at ((HBX.out _ HB2.out).2) 0
 have m1:=cells_at ((HBX.out _ HB2.out).2) 1
 have m2:=cells_at ((HBX.out _ HB2.out).2) 2
 have m3:=cells_at ((HBX.out _ HB2.out).2) 3
 have m4:=cells_at ((HBX.out _ HB2.out).2) 4
 have l0:=frozen_at ((HBX.out _ HB2.out).2) 0
 have l1:=frozen_at ((HBX.out _ HB2.out).2) 1
 have l2:=frozen_at ((HBX.out _ HB2.out).2) 2
 have l3:=frozen_at ((HBX.out _ HB2.out).2) 3
 have l4:=frozen_at ((HBX.out _ HB2.out).2) 4
 clear t2
 apply once2
 case h =>
  intro hh
  go_region_with (fail)
  all_goals exact hh
 go_wp2
 exact step_done (t:=s.next 11 auto) (n:=1) (qc:=1) HP.out HB2.out.drew HOK.out HCNT.out (by rw [HNEXT.out];rfl) (by rw [HNEXT.out];rfl) (by rw [HNEXT.out];rfl) (by rw [HNEXT.out];rfl) (by rw [HNEXT.out];exact (HO2.out.mono (Nat.le_trans HP.out.ge HP.out.below.size)).drew) (HP.out.apart2 (Nat.le_refl _) HO2.out) (HBX.out _ HB2.out.drew).2 base 11 true _ rfl rfl rfl rfl
set_option maxRecDepth 20000 in
set_option maxHeartbeats 8000000 in
theorem rstep_19i (w V:World) (B base N:Nat) (s:St) (pa:Option Addr) (pc auto:Nat) (hp:RPre w V B base N s pa pc) (hb1:base≤1) (hok:Ok base s) (hl:s.l.length≤1048590) (hi:s.isos≤1048590) (he:s.embs≤1048590) (hz:0 < s.isos):
 Calls Tryz.prog 89 #[.agg #[.int .i8 base,.slice pa s.l.length pc,.int .i64 s.isos,.int .i64 s.embs,.int .i64 s.valid],.int .u8 19,.int .i8 auto] w (RStepP w B base s pa):=by
 obtain ⟨e,r,n,kp,hs,htop,hlev,hn,hrn,HP,HBX,HOW,HNX,HRM,HWI,HPL,HLA,HEQ,HNN,HS⟩:=rall hp hb1 hok hl
 rw [← hn]
 have HNEXT:=Lib.hid (next_19 s auto)
 rw [if_pos hz] at HNEXT
 have HOK:=Lib.hid (hok.next (by omega) 19 auto)
 have HCNT:=Lib.hid (next_counts s 19 auto)
 have HNL:=Lib.hid hn
 have hx0:=(HBX.out V (Below.refl _ _)).1
 have c1:=cells_at hx0 1
 have c2:=cells_at hx0 2
 have c3:=cells_at hx0 3
 have f3:=frozen_at hx0 3
 have hz2:(s.isos:Int) > 0:=by omega
 have hz4:0 < s.isos:=hz
 have m0:=cells_at ((HBX.out V (Below.refl _ _)).2) 0
 have m1:=cells_at ((HBX.out V (Below.refl _ _)).2) 1
 have m2:=cells_at ((HBX.out V (Below.refl _ _)).2) 2
 have m3:=cells_at ((HBX.out V (Below.refl _ _)).2) 3
 have m4:=cells_at ((HBX.out V (Below.refl _ _)).2) 4
 have l0:=frozen_at ((HBX.out V (Below.refl _ _)).2) 0
 have l1:=frozen_at ((HBX.out V (Below.refl _ _)).2) 1
 have l2:=frozen_at ((HBX.out V (Below.refl _ _)).2) 2
 have l3:=frozen_at ((HBX.out V (Below.refl _ _)).2) 3
 have l4:=frozen_at ((HBX.out V (Below.refl _ _)).2) 4
 clear hp hok hrn hn hs htop hlev hx0 hz
 go_enter Tryz.func89,Tryz.ntmps89
 go_upto_region 1 with (fail)
 rw [← HNN.out,← HEQ.out]
 go_wp2_with (first
  | (with_reducible refine wpList_load_row rfl 155 _ rfl N rfl 155 _ (0,0) _ (HBX.out _ (by first | exact HB3.out | exact HB2.out | exact HB1.out | exact Below.refl _ _)).1 Tryz.underlying155 rfl (by kernel_rfl) ?_) )
 exact step_done (t:=s.next 19 auto) HP.out (Below.refl _ _) HOK.out HCNT.out (by rw [HNEXT.out,HNL.out]) (by rw [HNEXT.out]) (by rw [HNEXT.out]) (by rw [HNEXT.out]) (by rw [HNEXT.out];exact HOW.out _ (Below.refl _ _)) HP.out.apart (HBX.out _ (Below.refl _ _)).2 (-1) 19 false _ rfl rfl rfl rfl
set_option maxRecDepth 20000 in
set_option maxHeartbeats 8000000 in
theorem rstep_19e (w V:World) (B base N:Nat) (s:St) (pa:Option Addr) (pc auto:Nat) (hp:RPre w V B base N s pa pc) (hb1:base≤1) (hok:Ok base s) (hl:s.l.length≤1048590) (hi:s.isos≤1048590) (he:s.embs≤1048590) (hz:s.isos = 0) (hz3:0 < s.embs):
 Calls Tryz.prog 89 #[.agg #[.int .i8 base,.slice pa s.l.length pc,.int .i64 s.isos,.int .i64 s.embs,.int .i64 s.valid],.int .u8 19,.int .i8 auto] w (RStepP w B base s pa):=by
 obtain ⟨e,r,n,kp,hs,htop,hlev,hn,hrn,HP,HBX,HOW,HNX,HRM,HWI,HPL,HLA,HEQ,HNN,HS⟩:=rall hp hb1 hok hl
 rw [← hn]
 have HNEXT:=Lib.hid (next_19 s auto)
 rw [if_neg (by omega),if_pos hz3] at HNEXT
 have HOK:=Lib.hid (hok.next (by omega) 19 auto)
 have HCNT:=Lib.hid (next_counts s 19 auto)
 have HNL:=Lib.hid hn
 have hx0:=(HBX.out V (Below.refl _ _)).1
 have c1:=cells_at hx0 1
 have c2:=cells_at hx0 2
 have c3:=cells_at hx0 3
 have f3:=frozen_at hx0 3
 have hz2:¬ (s.isos:Int) > 0:=by omega
 have hz4:(s.embs:Int) > 0:=by omega
 have hz5:0 < s.embs:=hz3
 have hz6:(s.embs:Int)≤1048590:=by omega
 have HSS:=Lib.hid (fun v => (HP.out.stored (Below.refl _ _) 3 v))
 have m0:=cells_at ((HSS.out (.int .i64 ((s.embs:Int) - 1))).1) 0
 have m1:=cells_at ((HSS.out (.int .i64 ((s.embs:Int) - 1))).1) 1
 have m2:=cells_at ((HSS.out (.int .i64 ((s.embs:Int) - 1))).1) 2
 have m3:=cells_at ((HSS.out (.int .i64 ((s.embs:Int) - 1))).1) 3
 have m4:=cells_at ((HSS.out (.int .i64 ((s.embs:Int) - 1))).1) 4
 have l0:=frozen_at ((HSS.out (.int .i64 ((s.embs:Int) - 1))).1) 0
 have l1:=frozen_at ((HSS.out (.int .i64 ((s.embs:Int) - 1))).1) 1
 have l2:=frozen_at ((HSS.out (.int .i64 ((s.embs:Int) - 1))).1) 2
 have l3:=frozen_at ((HSS.out (.int .i64 ((s.embs:Int) - 1))).1) 3
 have l4:=frozen_at ((HSS.out (.int .i64 ((s.embs:Int) - 1))).1) 4
 clear hp hok hrn hn hs htop hlev hx0 hz hz3
 go_enter Tryz.func89,Tryz.ntmps89
 go_upto_region 1 with (fail)
 rw [← HNN.out,← HEQ.out]
 go_wp2_with (first
  | (with_reducible refine wpList_load_row rfl 155 _ rfl N rfl 155 _ (0,0) _ (HBX.out _ (by first | exact HB3.out | exact HB2.out | exact HB1.out | exact Below.refl _ _)).1 Tryz.underlying155 rfl (by kernel_rfl) ?_) | (with_reducible refine wpList_load_row rfl 155 _ rfl N rfl 155 _ (0,0) _ (set3_of5 (HBX.out _ (Below.refl _ _)).1 _) Tryz.underlying155 rfl (by kernel_rfl) ?_))
 exact step_doneW (t:=s.next 19 auto) HP.out (HSS.out _).2 HOK.out HCNT.out (by rw [HNEXT.out,HNL.out]) (by rw [HNEXT.out]) (by rw [HNEXT.out];show ((s.embs - 1:Nat):Int) = _;omega) (by rw [HNEXT.out]) (by rw [HNEXT.out];exact (HOW.out _ (Below.refl _ _)).stored_other ⟨N,3,none⟩ _ HP.out.apart0) HP.out.apart (HSS.out _).1 (-1) 19 false _ rfl rfl rfl rfl
set_option maxRecDepth 20000 in
set_option maxHeartbeats 8000000 in
theorem rstep_19s (w V:World) (B base N:Nat) (s:St) (pa:Option Addr) (pc auto:Nat) (hp:RPre w V B base N s pa pc) (hb1:base≤1) (hok:Ok base s) (hl:s.l.length≤1048590) (hi:s.isos≤1048590) (he:s.embs≤1048590) (hz:s.isos = 0) (hz3:s.embs = 0) (hst:¬ (1 < s.l.length∧s.top.iso = false)):
 Calls Tryz.prog 89 #[.agg #[.int .i8 base,.slice pa s.l.length pc,.int .i64 s.isos,.int .i64 s.embs,.int .i64 s.valid],.int .u8 19,.int .i8 auto] w (RStepP w B base s pa):=by
 obtain ⟨e,r,n,kp,hs,htop,hlev,hn,hrn,HP,HBX,HOW,HNX,HRM,HWI,HPL,HLA,HEQ,HNN,HS⟩:=rall hp hb1 hok hl
 rw [← hn]
 have HNEXT:=Lib.hid (next_19 s auto)
 rw [if_neg (by omega),if_neg (by omega),if_neg hst] at HNEXT
 have HOK:=Lib.hid (hok.next (by omega) 19 auto)
 have HCNT:=Lib.hid (next_counts s 19 auto)
 have HNL:=Lib.hid hn
 have hx0:=(HBX.out V (Below.refl _ _)).1
 have c1:=cells_at hx0 1
 have c2:=cells_at hx0 2
 have c3:=cells_at hx0 3
 have f3:=frozen_at hx0 3
 have hz2:¬ (s.isos:Int) > 0:=by omega
 have hz4:¬ (s.embs:Int) > 0:=by omega
 rw [htop] at hst
 have hdd:e.iso = true∨¬ (n:Int) > 1:=by
  cases hi2:e.iso with
  | true => exact .inl rfl
  | false => right;intro h;exact hst ⟨by omega,hi2⟩
 clear hp hok hrn hn hs htop hlev hx0 hst hz hz3
 rcases hdd with hdd | hdd
 · rw [hdd] at HLA
   clear hdd
   go_enter Tryz.func89,Tryz.ntmps89
   go_upto_region 1 with (fail)
   rw [← HNN.out,← HEQ.out]
   go_wp2_with (first
    | (with_reducible refine wpList_load_row rfl 155 _ rfl N rfl 155 _ (0,0) _ (HBX.out _ (by first | exact HB3.out | exact HB2.out | exact HB1.out | exact Below.refl _ _)).1 Tryz.underlying155 rfl (by kernel_rfl) ?_) | (go_at_call 123;refine (HLA.out _ (by rw [← HS.out];exact HOW.out _ (Below.refl _ _))).mono ?_;rintro x w1 ⟨rfl,b1⟩;have HB1:Hid (Below V.heap.size V w1):=Lib.hid b1;have d1:=cells_at (HBX.out _ HB1.out).1 1;have g1:=frozen_at (HBX.out _ HB1.out).1 1;have m0:=cells_at ((HBX.out _ HB1.out).2) 0;have m1:=cells_at ((HBX.out _ HB1.out).2) 1;have m2:=cells_at ((HBX.out _ HB1.out).2) 2;have m3:=cells_at ((HBX.out _ HB1.out).2) 3;have m4:=cells_at ((HBX.out _ HB1.out).2) 4;have l0:=frozen_at ((HBX.out _ HB1.out).2) 0;have l1:=frozen_at ((HBX.out _ HB1.out).2) 1;have l2:=frozen_at ((HBX.out _ HB1.out).2) 2;have l3:=frozen_at ((HBX.out _ HB1.out).2) 3;have l4:=frozen_at ((HBX.out _ HB1.out).2) 4;clear b1))
   exact step_done (t:=s.next 19 auto) HP.out HB1.out HOK.out HCNT.out (by rw [HNEXT.out,HNL.out]) (by rw [HNEXT.out]) (by rw [HNEXT.out]) (by rw [HNEXT.out]) (by rw [HNEXT.out];exact HOW.out _ HB1.out) HP.out.apart (HBX.out _ HB1.out).2 (-1) 19 false _ rfl rfl rfl rfl
 · obtain ⟨lv,ov,io⟩:=e
   cases io
   · go_enter Tryz.func89,Tryz.ntmps89
     go_upto_region 1 with (fail)
     rw [← HNN.out,← HEQ.out]
     go_wp2_with (first
      | (with_reducible refine wpList_load_row rfl 155 _ rfl N rfl 155 _ (0,0) _ (HBX.out _ (by first | exact HB3.out | exact HB2.out | exact HB1.out | exact Below.refl _ _)).1 Tryz.underlying155 rfl (by kernel_rfl) ?_) | (go_at_call 123;refine (HLA.out _ (by rw [← HS.out];exact HOW.out _ (Below.refl _ _))).mono ?_;rintro x w1 ⟨rfl,b1⟩;have HB1:Hid (Below V.heap.size V w1):=Lib.hid b1;have d1:=cells_at (HBX.out _ HB1.out).1 1;have g1:=frozen_at (HBX.out _ HB1.out).1 1;have m0:=cells_at ((HBX.out _ HB1.out).2) 0;have m1:=cells_at ((HBX.out _ HB1.out).2) 1;have m2:=cells_at ((HBX.out _ HB1.out).2) 2;have m3:=cells_at ((HBX.out _ HB1.out).2) 3;have m4:=cells_at ((HBX.out _ HB1.out).2) 4;have l0:=frozen_at ((HBX.out _ HB1.out).2) 0;have l1:=frozen_at ((HBX.out _ HB1.out).2) 1;have l2:=frozen_at ((HBX.out _ HB1.out).2) 2;have l3:=frozen_at ((HBX.out _ HB1.out).2) 3;have l4:=frozen_at ((HBX.out _ HB1.out).2) 4;clear b1))
     exact step_done (t:=s.next 19 auto) HP.out HB1.out HOK.out HCNT.out (by rw [HNEXT.out,HNL.out]) (by rw [HNEXT.out]) (by rw [HNEXT.out]) (by rw [HNEXT.out]) (by rw [HNEXT.out];exact HOW.out _ HB1.out) HP.out.apart (HBX.out _ HB1.out).2 (-1) 19 false _ rfl rfl rfl rfl
   · go_enter Tryz.func89,Tryz.ntmps89
     go_upto_region 1 with (fail)
     rw [← HNN.out,← HEQ.out]
     go_wp2_with (first
      | (with_reducible refine wpList_load_row rfl 155 _ rfl N rfl 155 _ (0,0) _ (HBX.out _ (by first | exact HB3.out | exact HB2.out | exact HB1.out | exact Below.refl _ _)).1 Tryz.underlying155 rfl (by kernel_rfl) ?_) | (go_at_call 123;refine (HLA.out _ (by rw [← HS.out];exact HOW.out _ (Below.refl _ _))).mono ?_;rintro x w1 ⟨rfl,b1⟩;have HB1:Hid (Below V.heap.size V w1):=Lib.hid b1;have d1:=cells_at (HBX.out _ HB1.out).1 1;have g1:=frozen_at (HBX.out _ HB1.out).1 1;have m0:=cells_at ((HBX.out _ HB1.out).2) 0;have m1:=cells_at ((HBX.out _ HB1.out).2) 1;have m2:=cells_at ((HBX.out _ HB1.out).2) 2;have m3:=cells_at ((HBX.out _ HB1.out).2) 3;have m4:=cells_at ((HBX.out _ HB1.out).2) 4;have l0:=frozen_at ((HBX.out _ HB1.out).2) 0;have l1:=frozen_at ((HBX.out _ HB1.out).2) 1;have l2:=frozen_at ((HBX.out _ HB1.out).2) 2;have l3:=frozen_at ((HBX.out _ HB1.out).2) 3;have l4:=frozen_at ((HBX.out _ HB1.out).2) 4;clear b1))
     exact step_done (t:=s.next 19 auto) HP.out HB1.out HOK.out HCNT.out (by rw [HNEXT.out,HNL.out]) (by rw [HNEXT.out]) (by rw [HNEXT.out]) (by rw [HNEXT.out]) (by rw [HNEXT.out];exact HOW.out _ HB1.out) HP.out.apart (HBX.out _ HB1.out).2 (-1) 19 false _ rfl rfl rfl rfl
set_option maxRecDepth 20000 in
set_option maxHeartbeats 8000000 in
theorem rstep_19p (w V:World) (B base N:Nat) (s:St) (pa:Option Addr) (pc auto:Nat) (hp:RPre w V B base N s pa pc) (hb1:base≤1) (hok:Ok base s) (hl:s.l.length≤1048590) (hi:s.isos≤1048590) (he:s.embs≤1048590) (hz:s.isos = 0) (hz3:s.embs = 0) (hst:1 < s.l.length∧s.top.iso = false):
 Calls Tryz.prog 89 #[.agg #[.int .i8 base,.slice pa s.l.length pc,.int .i64 s.isos,.int .i64 s.embs,.int .i64 s.valid],.int .u8 19,.int .i8 auto] w (RStepP w B base s pa):=by
 obtain ⟨e,r,n,kp,hs,htop,hlev,hn,hrn,HP,HBX,HOW,HNX,HRM,HWI,HPL,HLA,HEQ,HNN,HS⟩:=rall hp hb1 hok hl
 rw [← hn]
 have HNEXT:=Lib.hid (next_19 s auto)
 rw [if_neg (by omega),if_neg (by omega),if_pos hst] at HNEXT
 have HOK:=Lib.hid (hok.next (by omega) 19 auto)
 have HCNT:=Lib.hid (next_counts s 19 auto)
 have HNL:=Lib.hid hn
 have hx0:=(HBX.out V (Below.refl _ _)).1
 have c1:=cells_at hx0 1
 have c2:=cells_at hx0 2
 have c3:=cells_at hx0 3
 have f3:=frozen_at hx0 3
 have hz2:¬ (s.isos:Int) > 0:=by omega
 have hz4:¬ (s.embs:Int) > 0:=by omega
 rw [htop] at hst
 have hq1:(n:Int) > 1:=by omega
 have hq4:(n:Int)≤1048590:=by omega
 have hq2:e.iso = false:=hst.2
 have hq3:((n - 1:Nat):Int) = (n:Int) - 1:=by omega
 have hcap:n≤pc:=(HOW.out V (Below.refl _ _)).le
 have hcap2:(n:Int) - 1≤(pc:Int):=by omega
 have hrl:r.length = n - 1:=by omega
 have HRL:=Lib.hid hrl
 rw [hq2] at HLA
 clear hp hok hrn hn hs htop hlev hx0 hst hq2 hrl hz hz3
 go_enter Tryz.func89,Tryz.ntmps89
 go_upto_region 1 with (fail)
 rw [← HNN.out,← HEQ.out]
 go_wp2_with (first
  | (with_reducible refine wpList_load_row rfl 155 _ rfl N rfl 155 _ (0,0) _ (HBX.out _ (by first | exact HB3.out | exact HB2.out | exact HB1.out | exact Below.refl _ _)).1 Tryz.underlying155 rfl (by kernel_rfl) ?_) | (with_reducible refine wpList_load_row rfl 155 _ rfl N rfl 155 _ (0,0) _ (set1_of5 (HBX.out _ HB1.out).1 _) Tryz.underlying155 rfl (by kernel_rfl) ?_) | (go_at_call 123;refine (HLA.out _ (by rw [← HS.out];exact HOW.out _ (Below.refl _ _))).mono ?_;rintro x w1 ⟨rfl,b1⟩;have HB1:Hid (Below V.heap.size V w1):=Lib.hid b1;have d1:=cells_at (HBX.out _ HB1.out).1 1;have g1:=frozen_at (HBX.out _ HB1.out).1 1;have HSS:=Lib.hid (fun v => (HP.out.stored HB1.out 1 v));have m0:=cells_at ((HSS.out (.slice pa (n - 1) pc)).1) 0;have m1:=cells_at ((HSS.out (.slice pa (n - 1) pc)).1) 1;have m2:=cells_at ((HSS.out (.slice pa (n - 1) pc)).1) 2;have m3:=cells_at ((HSS.out (.slice pa (n - 1) pc)).1) 3;have m4:=cells_at ((HSS.out (.slice pa (n - 1) pc)).1) 4;have l0:=frozen_at ((HSS.out (.slice pa (n - 1) pc)).1) 0;have l1:=frozen_at ((HSS.out (.slice pa (n - 1) pc)).1) 1;have l2:=frozen_at ((HSS.out (.slice pa (n - 1) pc)).1) 2;have l3:=frozen_at ((HSS.out (.slice pa (n - 1) pc)).1) 3;have l4:=frozen_at ((HSS.out (.slice pa (n - 1) pc)).1) 4;clear b1))
 exact step_doneW (t:=s.next 19 auto) (n:=n - 1) (qc:=pc) HP.out (HSS.out _).2 HOK.out HCNT.out (by rw [HNEXT.out];show s.l.tail.length = n - 1;rw [HS.out];exact HRL.out) (by rw [HNEXT.out]) (by rw [HNEXT.out]) (by rw [HNEXT.out]) (by rw [HNEXT.out];show Own _ B 3 pa (n - 1) pc (entsV s.l.tail);rw [HS.out];exact (((Own.prefix (HOW.out _ HB1.out) (n - 1) (Nat.sub_le _ _)).eqL (by rw [HS.out,← HRL.out,entsV_take];rfl)).stored_other ⟨N,1,none⟩ _ HP.out.apart0)) HP.out.apart (HSS.out _).1 (-1) 19 false _ rfl rfl rfl rfl
set_option maxRecDepth 20000 in
set_option maxHeartbeats 8000000 in
theorem rstep_iso20y (w V:World) (B base N:Nat) (s:St) (pa:Option Addr) (pc auto:Nat) (hp:RPre w V B base N s pa pc) (hb1:base≤1) (hok:Ok base s) (hl:s.l.length≤1048590) (hi:s.isos≤1048590) (he:s.embs≤1048590) (hr:s.room false = true):
 Calls Tryz.prog 89 #[.agg #[.int .i8 base,.slice pa s.l.length pc,.int .i64 s.isos,.int .i64 s.embs,.int .i64 s.valid],.int .u8 20,.int .i8 auto] w (RStepP w B base s pa):=by
 obtain ⟨e,r,n,kp,hs,htop,hlev,hn,hrn,HP,HBX,HOW,HNX,HRM,HWI,HPL,HLA,HEQ,HNN,HS⟩:=rall hp hb1 hok hl
 rw [← hn]
 have hroom:(decide (nextLevel e.level false≤125) && s.isos == 0 && s.embs == 0) = true:=by rw [← htop];exact hr
 obtain ⟨K,hK⟩:∃ K,K = nextLevel e.level false:=⟨_,rfl⟩
 rw [← hK] at hroom
 have hK2:K≤125:=by simp at hroom;exact hroom.1.1
 have hK3:(K:Int)≤125:=by omega
 have hK4:(0:Int)≤(K:Int):=by omega
 have hva:=valid_le hok
 have he2:(s.isos:Int)≤1048590:=by omega
 have he3:(0:Int)≤(s.isos:Int):=by omega
 have he4:(s.valid:Int)≤1048590:=by omega
 have he5:(0:Int)≤(s.valid:Int):=by omega
 have HN1:=Lib.hid (fun w' h => HNX.out w' false h)
 rw [← hK] at HN1
 have HR1:=Lib.hid (fun w' => HRM.out w' K)
 rw [hroom] at HR1
 have HNEXT:=Lib.hid (next_iso (s:=s) (auto:=auto) (c:=20) (odd:=false) rfl rfl hr)
 have HOK:=Lib.hid (hok.next (by omega) 20 auto)
 have HCNT:=Lib.hid (next_counts s 20 auto)
 have HPUT:Hid (s.put false 0 true = { s with l:=⟨K,0,true⟩ :: s.l }):=Lib.hid (by unfold St.put;rw [htop,hK])
 have HW2:=Lib.hid (fun (w':World) e h => rwith_any w' B base s.isos s.embs ((s.valid:Int) + 1) pa pc s.l e n hn.symm (by omega) h)
 have HNL:=Lib.hid hn
 clear hp hok hr hroom hs htop hlev hn hrn hK hva
 go_enter Tryz.func89,Tryz.ntmps89
 go_upto_region 1 with (fail)
 rw [← HNN.out,← HEQ.out]
 go_wp2_with (first
  | (with_reducible refine wpList_load_row rfl 155 _ rfl N rfl 155 _ (0,0) _ (HBX.out _ (by first | exact HB3.out | exact HB2.out | exact HB1.out | exact Below.refl _ _)).1 Tryz.underlying155 rfl (by kernel_rfl) ?_)
  | (with_reducible refine wpList_load_row rfl 155 _ rfl N rfl 155 _ (0,0) _ (set4_of5 (HBX.out _ HB3.out).1 _) Tryz.underlying155 rfl (by kernel_rfl) ?_)
  | (go_at_call 122;refine (HPL.out _ 20 (by omega) (by omega) (by rw [← HS.out];exact HOW.out _ (by first | exact HB4.out | exact HB5.out _ _ | exact HB3.out _ | exact HB2.out | exact HB1.out | exact Below.refl _ _))).mono ?_;rintro x w1 ⟨rfl,b1⟩;have HB1:Hid (Below V.heap.size V w1):=Lib.hid b1;clear b1)
  | (go_at_call 119;refine (HN1.out _ (by rw [← HS.out];exact HOW.out _ (by first | exact HB4.out | exact HB5.out _ _ | exact HB3.out _ | exact HB2.out | exact HB1.out | exact Below.refl _ _))).mono ?_;rintro x w2 ⟨rfl,b2⟩;have HB2:Hid (Below V.heap.size V w2):=Lib.hid (HB1.out.trans (b2.mono HB1.out.size));clear b2)
  | (go_at_call 120;refine (HR1.out _).mono ?_;rintro x w3 ⟨rfl,b3⟩;have HB3:Hid (Below V.heap.size V w3):=Lib.hid (HB2.out.trans (b3.mono HB2.out.size));have c2:=cells_at (HBX.out _ HB3.out).1 4;have f2:=frozen_at (HBX.out _ HB3.out).1 4;have HSS:=Lib.hid (fun v => (HP.out.stored HB3.out 4 v));skip;clear b3)
  | (go_at_call 121;refine (HW2.out _ ⟨K,0,true⟩ ((HOW.out _ HB3.out).stored_other ⟨N,4,none⟩ _ HP.out.apart0)).mono ?_;rintro x w5 ⟨qa,qc,rfl,o5,b5⟩;have hlt:N + 1 < (w3.setCell ⟨N,4,none⟩ (.int .i64 ((s.valid:Int) + 1))).heap.size:=(Array.getElem?_eq_some_iff.1 (HSS.out _).1).1;have HX5:=Lib.hid ((b5.block (N + 1) hlt).trans (HSS.out _).1);have HB5:=Lib.hid ((HSS.out _).2.trans (b5.mono (HSS.out _).2.size));have HNE:=Lib.hid (HP.out.apart2 (show V.heap.size≤(w3.setCell ⟨N,4,none⟩ (.int .i64 ((s.valid:Int) + 1))).heap.size from by rw [World.size_setCell];exact HB3.out.size) o5);have HO5:=Lib.hid (o5.mono (show B≤_ from Nat.le_trans HP.out.ge (HSS.out (.int .i64 ((s.valid:Int) + 1))).2.size));have m0:=cells_at (HX5.out) 0;have m1:=cells_at (HX5.out) 1;have m2:=cells_at (HX5.out) 2;have m3:=cells_at (HX5.out) 3;have m4:=cells_at (HX5.out) 4;have l0:=frozen_at (HX5.out) 0;have l1:=frozen_at (HX5.out) 1;have l2:=frozen_at (HX5.out) 2;have l3:=frozen_at (HX5.out) 3;have l4:=frozen_at (HX5.out) 4;clear o5 b5 hlt))
 exact step_doneW (t:=s.next 20 auto) HP.out HB5.out HOK.out HCNT.out (by rw [HNEXT.out];show (s.put false 0 true).l.length = n + 1;rw [HPUT.out,HNL.out];rfl) (by rw [HNEXT.out];rfl) (by rw [HNEXT.out];rfl) (by rw [HNEXT.out];rfl) (by rw [HNEXT.out];show Own w5 B 3 qa (n + 1) qc (entsV (s.put false 0 true).l);rw [HPUT.out];exact HO5.out) HNE.out HX5.out e.level (kp 20) true _ rfl rfl rfl rfl
set_option maxRecDepth 20000 in
set_option maxHeartbeats 8000000 in
theorem rstep_iso20n (w V:World) (B base N:Nat) (s:St) (pa:Option Addr) (pc auto:Nat) (hp:RPre w V B base N s pa pc) (hb1:base≤1) (hok:Ok base s) (hl:s.l.length≤1048590) (hi:s.isos≤1048590) (he:s.embs≤1048590) (hr:s.room false = false):
 Calls Tryz.prog 89 #[.agg #[.int .i8 base,.slice pa s.l.length pc,.int .i64 s.isos,.int .i64 s.embs,.int .i64 s.valid],.int .u8 20,.int .i8 auto] w (RStepP w B base s pa):=by
 obtain ⟨e,r,n,kp,hs,htop,hlev,hn,hrn,HP,HBX,HOW,HNX,HRM,HWI,HPL,HLA,HEQ,HNN,HS⟩:=rall hp hb1 hok hl
 rw [← hn]
 have hroom:(decide (nextLevel e.level false≤125) && s.isos == 0 && s.embs == 0) = false:=by rw [← htop];exact hr
 obtain ⟨K,hK⟩:∃ K,K = nextLevel e.level false:=⟨_,rfl⟩
 rw [← hK] at hroom
 have hK2:K≤127:=by rw [hK];unfold nextLevel;split <;> omega
 have hK3:(K:Int)≤127:=by omega
 have hK4:(0:Int)≤(K:Int):=by omega
 have hva:=valid_le hok
 have he2:(s.isos:Int)≤1048590:=by omega
 have he3:(0:Int)≤(s.isos:Int):=by omega
 have he4:(s.valid:Int)≤1048590:=by omega
 have he5:(0:Int)≤(s.valid:Int):=by omega
 have HN1:=Lib.hid (fun w' h => HNX.out w' false h)
 rw [← hK] at HN1
 have HR1:=Lib.hid (fun w' => HRM.out w' K)
 rw [hroom] at HR1
 have HNEXT:=Lib.hid (next_iso_no (s:=s) (auto:=auto) (c:=20) (odd:=false) rfl rfl hr)
 have HOK:=Lib.hid (hok.next (by omega) 20 auto)
 have HCNT:=Lib.hid (next_counts s 20 auto)
 have HPUT:Hid (s.put false 0 true = { s with l:=⟨K,0,true⟩ :: s.l }):=Lib.hid (by unfold St.put;rw [htop,hK])
 have HW2:=Lib.hid (fun (w':World) e h => rwith_any w' B base s.isos s.embs ((s.valid:Int) + 1) pa pc s.l e n hn.symm (by omega) h)
 have HNL:=Lib.hid hn
 clear hp hok hr hroom hs htop hlev hn hrn hK hva
 go_enter Tryz.func89,Tryz.ntmps89
 go_upto_region 1 with (fail)
 rw [← HNN.out,← HEQ.out]
 go_wp2_with (first
  | (with_reducible refine wpList_load_row rfl 155 _ rfl N rfl 155 _ (0,0) _ (HBX.out _ (by first | exact HB3.out | exact HB2.out | exact HB1.out | exact Below.refl _ _)).1 Tryz.underlying155 rfl (by kernel_rfl) ?_)
  | (with_reducible refine wpList_load_row rfl 155 _ rfl N rfl 155 _ (0,0) _ (set2_of5 (HBX.out _ HB3.out).1 _) Tryz.underlying155 rfl (by kernel_rfl) ?_)
  | (go_at_call 122;refine (HPL.out _ 20 (by omega) (by omega) (by rw [← HS.out];exact HOW.out _ (by first | exact HB4.out | exact HB5.out _ _ | exact HB3.out _ | exact HB2.out | exact HB1.out | exact Below.refl _ _))).mono ?_;rintro x w1 ⟨rfl,b1⟩;have HB1:Hid (Below V.heap.size V w1):=Lib.hid b1;clear b1)
  | (go_at_call 119;refine (HN1.out _ (by rw [← HS.out];exact HOW.out _ (by first | exact HB4.out | exact HB5.out _ _ | exact HB3.out _ | exact HB2.out | exact HB1.out | exact Below.refl _ _))).mono ?_;rintro x w2 ⟨rfl,b2⟩;have HB2:Hid (Below V.heap.size V w2):=Lib.hid (HB1.out.trans (b2.mono HB1.out.size));clear b2)
  | (go_at_call 120;refine (HR1.out _).mono ?_;rintro x w3 ⟨rfl,b3⟩;have HB3:Hid (Below V.heap.size V w3):=Lib.hid (HB2.out.trans (b3.mono HB2.out.size));have c2:=cells_at (HBX.out _ HB3.out).1 2;have f2:=frozen_at (HBX.out _ HB3.out).1 2;have HSS:=Lib.hid (fun v => (HP.out.stored HB3.out 2 v));have m0:=cells_at ((HSS.out (.int .i64 ((s.isos:Int) + 1))).1) 0;have m1:=cells_at ((HSS.out (.int .i64 ((s.isos:Int) + 1))).1) 1;have m2:=cells_at ((HSS.out (.int .i64 ((s.isos:Int) + 1))).1) 2;have m3:=cells_at ((HSS.out (.int .i64 ((s.isos:Int) + 1))).1) 3;have m4:=cells_at ((HSS.out (.int .i64 ((s.isos:Int) + 1))).1) 4;have l0:=frozen_at ((HSS.out (.int .i64 ((s.isos:Int) + 1))).1) 0;have l1:=frozen_at ((HSS.out (.int .i64 ((s.isos:Int) + 1))).1) 1;have l2:=frozen_at ((HSS.out (.int .i64 ((s.isos:Int) + 1))).1) 2;have l3:=frozen_at ((HSS.out (.int .i64 ((s.isos:Int) + 1))).1) 3;have l4:=frozen_at ((HSS.out (.int .i64 ((s.isos:Int) + 1))).1) 4;clear b3))
 exact step_doneW (t:=s.next 20 auto) HP.out (HSS.out _).2 HOK.out HCNT.out (by rw [HNEXT.out,HNL.out]) (by rw [HNEXT.out];rfl) (by rw [HNEXT.out]) (by rw [HNEXT.out]) (by rw [HNEXT.out];exact (HOW.out _ HB3.out).stored_other ⟨N,2,none⟩ _ HP.out.apart0) HP.out.apart (HSS.out _).1 e.level (kp 20) true _ rfl rfl rfl rfl
set_option maxRecDepth 20000 in
set_option maxHeartbeats 8000000 in
theorem rstep_iso21y (w V:World) (B base N:Nat) (s:St) (pa:Option Addr) (pc auto:Nat) (hp:RPre w V B base N s pa pc) (hb1:base≤1) (hok:Ok base s) (hl:s.l.length≤1048590) (hi:s.isos≤1048590) (he:s.embs≤1048590) (hr:s.room true = true):
 Calls Tryz.prog 89 #[.agg #[.int .i8 base,.slice pa s.l.length pc,.int .i64 s.isos,.int .i64 s.embs,.int .i64 s.valid],.int .u8 21,.int .i8 auto] w (RStepP w B base s pa):=by
 obtain ⟨e,r,n,kp,hs,htop,hlev,hn,hrn,HP,HBX,HOW,HNX,HRM,HWI,HPL,HLA,HEQ,HNN,HS⟩:=rall hp hb1 hok hl
 rw [← hn]
 have hroom:(decide (nextLevel e.level true≤125) && s.isos == 0 && s.embs == 0) = true:=by rw [← htop];exact hr
 obtain ⟨K,hK⟩:∃ K,K = nextLevel e.level true:=⟨_,rfl⟩
 rw [← hK] at hroom
 have hK2:K≤125:=by simp at hroom;exact hroom.1.1
 have hK3:(K:Int)≤125:=by omega
 have hK4:(0:Int)≤(K:Int):=by omega
 have hva:=valid_le hok
 have he2:(s.isos:Int)≤1048590:=by omega
 have he3:(0:Int)≤(s.isos:Int):=by omega
 have he4:(s.valid:Int)≤1048590:=by omega
 have he5:(0:Int)≤(s.valid:Int):=by omega
 have HN1:=Lib.hid (fun w' h => HNX.out w' true h)
 rw [← hK] at HN1
 have HR1:=Lib.hid (fun w' => HRM.out w' K)
 rw [hroom] at HR1
 have HNEXT:=Lib.hid (next_iso (s:=s) (auto:=auto) (c:=21) (odd:=true) rfl rfl hr)
 have HOK:=Lib.hid (hok.next (by omega) 21 auto)
 have HCNT:=Lib.hid (next_counts s 21 auto)
 have HPUT:Hid (s.put true 0 true = { s with l:=⟨K,0,true⟩ :: s.l }):=Lib.hid (by unfold St.put;rw [htop,hK])
 have HW2:=Lib.hid (fun (w':World) e h => rwith_any w' B base s.isos s.embs ((s.valid:Int) + 1) pa pc s.l e n hn.symm (by omega) h)
 have HNL:=Lib.hid hn
 clear hp hok hr hroom hs htop hlev hn hrn hK hva
 go_enter Tryz.func89,Tryz.ntmps89
 go_upto_region 1 with (fail)
 rw [← HNN.out,← HEQ.out]
 go_wp2_with (first
  | (with_reducible refine wpList_load_row rfl 155 _ rfl N rfl 155 _ (0,0) _ (HBX.out _ (by first | exact HB3.out | exact HB2.out | exact HB1.out | exact Below.refl _ _)).1 Tryz.underlying155 rfl (by kernel_rfl) ?_)
  | (with_reducible refine wpList_load_row rfl 155 _ rfl N rfl 155 _ (0,0) _ (set4_of5 (HBX.out _ HB3.out).1 _) Tryz.underlying155 rfl (by kernel_rfl) ?_)
  | (go_at_call 122;refine (HPL.out _ 21 (by omega) (by omega) (by rw [← HS.out];exact HOW.out _ (by first | exact HB4.out | exact HB5.out _ _ | exact HB3.out _ | exact HB2.out | exact HB1.out | exact Below.refl _ _))).mono ?_;rintro x w1 ⟨rfl,b1⟩;have HB1:Hid (Below V.heap.size V w1):=Lib.hid b1;clear b1)
  | (go_at_call 119;refine (HN1.out _ (by rw [← HS.out];exact HOW.out _ (by first | exact HB4.out | exact HB5.out _ _ | exact HB3.out _ | exact HB2.out | exact HB1.out | exact Below.refl _ _))).mono ?_;rintro x w2 ⟨rfl,b2⟩;have HB2:Hid (Below V.heap.size V w2):=Lib.hid (HB1.out.trans (b2.mono HB1.out.size));clear b2)
  | (go_at_call 120;refine (HR1.out _).mono ?_;rintro x w3 ⟨rfl,b3⟩;have HB3:Hid (Below V.heap.size V w3):=Lib.hid (HB2.out.trans (b3.mono HB2.out.size));have c2:=cells_at (HBX.out _ HB3.out).1 4;have f2:=frozen_at (HBX.out _ HB3.out).1 4;have HSS:=Lib.hid (fun v => (HP.out.stored HB3.out 4 v));skip;clear b3)
  | (go_at_call 121;refine (HW2.out _ ⟨K,0,true⟩ ((HOW.out _ HB3.out).stored_other ⟨N,4,none⟩ _ HP.out.apart0)).mono ?_;rintro x w5 ⟨qa,qc,rfl,o5,b5⟩;have hlt:N + 1 < (w3.setCell ⟨N,4,none⟩ (.int .i64 ((s.valid:Int) + 1))).heap.size:=(Array.getElem?_eq_some_iff.1 (HSS.out _).1).1;have HX5:=Lib.hid ((b5.block (N + 1) hlt).trans (HSS.out _).1);have HB5:=Lib.hid ((HSS.out _).2.trans (b5.mono (HSS.out _).2.size));have HNE:=Lib.hid (HP.out.apart2 (show V.heap.size≤(w3.setCell ⟨N,4,none⟩ (.int .i64 ((s.valid:Int) + 1))).heap.size from by rw [World.size_setCell];exact HB3.out.size) o5);have HO5:=Lib.hid (o5.mono (show B≤_ from Nat.le_trans HP.out.ge (HSS.out (.int .i64 ((s.valid:Int) + 1))).2.size));have m0:=cells_at (HX5.out) 0;have m1:=cells_at (HX5.out) 1;have m2:=cells_at (HX5.out) 2;have m3:=cells_at (HX5.out) 3;have m4:=cells_at (HX5.out) 4;have l0:=frozen_at (HX5.out) 0;have l1:=frozen_at (HX5.out) 1;have l2:=frozen_at (HX5.out) 2;have l3:=frozen_at (HX5.out) 3;have l4:=frozen_at (HX5.out) 4;clear o5 b5 hlt))
 exact step_doneW (t:=s.next 21 auto) HP.out HB5.out HOK.out HCNT.out (by rw [HNEXT.out];show (s.put true 0 true).l.length = n + 1;rw [HPUT.out,HNL.out];rfl) (by rw [HNEXT.out];rfl) (by rw [HNEXT.out];rfl) (by rw [HNEXT.out];rfl) (by rw [HNEXT.out];show Own w5 B 3 qa (n + 1) qc (entsV (s.put true 0 true).l);rw [HPUT.out];exact HO5.out) HNE.out HX5.out e.level (kp 21) true _ rfl rfl rfl rfl
set_option maxRecDepth 20000 in
set_option maxHeartbeats 8000000 in
theorem rstep_iso21n (w V:World) (B base N:Nat) (s:St) (pa:Option Addr) (pc auto:Nat) (hp:RPre w V B base N s pa pc) (hb1:base≤1) (hok:Ok base s) (hl:s.l.length≤1048590) (hi:s.isos≤1048590) (he:s.embs≤1048590) (hr:s.room true = false):
 Calls Tryz.prog 89 #[.agg #[.int .i8 base,.slice pa s.l.length pc,.int .i64 s.isos,.int .i64 s.embs,.int .i64 s.valid],.int .u8 21,.int .i8 auto] w (RStepP w B base s pa):=by
 obtain ⟨e,r,n,kp,hs,htop,hlev,hn,hrn,HP,HBX,HOW,HNX,HRM,HWI,HPL,HLA,HEQ,HNN,HS⟩:=rall hp hb1 hok hl
 rw [← hn]
 have hroom:(decide (nextLevel e.level true≤125) && s.isos == 0 && s.embs == 0) = false:=by rw [← htop];exact hr
 obtain ⟨K,hK⟩:∃ K,K = nextLevel e.level true:=⟨_,rfl⟩
 rw [← hK] at hroom
 have hK2:K≤127:=by rw [hK];unfold nextLevel;split <;> omega
 have hK3:(K:Int)≤127:=by omega
 have hK4:(0:Int)≤(K:Int):=by omega
 have hva:=valid_le hok
 have he2:(s.isos:Int)≤1048590:=by omega
 have he3:(0:Int)≤(s.isos:Int):=by omega
 have he4:(s.valid:Int)≤1048590:=by omega
 have he5:(0:Int)≤(s.valid:Int):=by omega
 have HN1:=Lib.hid (fun w' h => HNX.out w' true h)
 rw [← hK] at HN1
 have HR1:=Lib.hid (fun w' => HRM.out w' K)
 rw [hroom] at HR1
 have HNEXT:=Lib.hid (next_iso_no (s:=s) (auto:=auto) (c:=21) (odd:=true) rfl rfl hr)
 have HOK:=Lib.hid (hok.next (by omega) 21 auto)
 have HCNT:=Lib.hid (next_counts s 21 auto)
 have HPUT:Hid (s.put true 0 true = { s with l:=⟨K,0,true⟩ :: s.l }):=Lib.hid (by unfold St.put;rw [htop,hK])
 have HW2:=Lib.hid (fun (w':World) e h => rwith_any w' B base s.isos s.embs ((s.valid:Int) + 1) pa pc s.l e n hn.symm (by omega) h)
 have HNL:=Lib.hid hn
 clear hp hok hr hroom hs htop hlev hn hrn hK hva
 go_enter Tryz.func89,Tryz.ntmps89
 go_upto_region 1 with (fail)
 rw [← HNN.out,← HEQ.out]
 go_wp2_with (first
  | (with_reducible refine wpList_load_row rfl 155 _ rfl N rfl 155 _ (0,0) _ (HBX.out _ (by first | exact HB3.out | exact HB2.out | exact HB1.out | exact Below.refl _ _)).1 Tryz.underlying155 rfl (by kernel_rfl) ?_)
  | (with_reducible refine wpList_load_row rfl 155 _ rfl N rfl 155 _ (0,0) _ (set2_of5 (HBX.out _ HB3.out).1 _) Tryz.underlying155 rfl (by kernel_rfl) ?_)
  | (go_at_call 122;refine (HPL.out _ 21 (by omega) (by omega) (by rw [← HS.out];exact HOW.out _ (by first | exact HB4.out | exact HB5.out _ _ | exact HB3.out _ | exact HB2.out | exact HB1.out | exact Below.refl _ _))).mono ?_;rintro x w1 ⟨rfl,b1⟩;have HB1:Hid (Below V.heap.size V w1):=Lib.hid b1;clear b1)
  | (go_at_call 119;refine (HN1.out _ (by rw [← HS.out];exact HOW.out _ (by first | exact HB4.out | exact HB5.out _ _ | exact HB3.out _ | exact HB2.out | exact HB1.out | exact Below.refl _ _))).mono ?_;rintro x w2 ⟨rfl,b2⟩;have HB2:Hid (Below V.heap.size V w2):=Lib.hid (HB1.out.trans (b2.mono HB1.out.size));clear b2)
  | (go_at_call 120;refine (HR1.out _).mono ?_;rintro x w3 ⟨rfl,b3⟩;have HB3:Hid (Below V.heap.size V w3):=Lib.hid (HB2.out.trans (b3.mono HB2.out.size));have c2:=cells_at (HBX.out _ HB3.out).1 2;have f2:=frozen_at (HBX.out _ HB3.out).1 2;have HSS:=Lib.hid (fun v => (HP.out.stored HB3.out 2 v));have m0:=cells_at ((HSS.out (.int .i64 ((s.isos:Int) + 1))).1) 0;have m1:=cells_at ((HSS.out (.int .i64 ((s.isos:Int) + 1))).1) 1;have m2:=cells_at ((HSS.out (.int .i64 ((s.isos:Int) + 1))).1) 2;have m3:=cells_at ((HSS.out (.int .i64 ((s.isos:Int) + 1))).1) 3;have m4:=cells_at ((HSS.out (.int .i64 ((s.isos:Int) + 1))).1) 4;have l0:=frozen_at ((HSS.out (.int .i64 ((s.isos:Int) + 1))).1) 0;have l1:=frozen_at ((HSS.out (.int .i64 ((s.isos:Int) + 1))).1) 1;have l2:=frozen_at ((HSS.out (.int .i64 ((s.isos:Int) + 1))).1) 2;have l3:=frozen_at ((HSS.out (.int .i64 ((s.isos:Int) + 1))).1) 3;have l4:=frozen_at ((HSS.out (.int .i64 ((s.isos:Int) + 1))).1) 4;clear b3))
 exact step_doneW (t:=s.next 21 auto) HP.out (HSS.out _).2 HOK.out HCNT.out (by rw [HNEXT.out,HNL.out]) (by rw [HNEXT.out];rfl) (by rw [HNEXT.out]) (by rw [HNEXT.out]) (by rw [HNEXT.out];exact (HOW.out _ HB3.out).stored_other ⟨N,2,none⟩ _ HP.out.apart0) HP.out.apart (HSS.out _).1 e.level (kp 21) true _ rfl rfl rfl rfl
set_option maxRecDepth 20000 in
set_option maxHeartbeats 8000000 in
theorem rstep_iso22_0y (w V:World) (B base N:Nat) (s:St) (pa:Option Addr) (pc:Nat) (hp:RPre w V B base N s pa pc) (hb1:base≤1) (hok:Ok base s) (hl:s.l.length≤1048590) (hi:s.isos≤1048590) (he:s.embs≤1048590) (hr:s.room false = true):
 Calls Tryz.prog 89 #[.agg #[.int .i8 base,.slice pa s.l.length pc,.int .i64 s.isos,.int .i64 s.embs,.int .i64 s.valid],.int .u8 22,.int .i8 ((0:Nat):Int)] w (RStepP w B base s pa):=by
 obtain ⟨e,r,n,kp,hs,htop,hlev,hn,hrn,HP,HBX,HOW,HNX,HRM,HWI,HPL,HLA,HEQ,HNN,HS⟩:=rall hp hb1 hok hl
 rw [← hn]
 have hroom:(decide (nextLevel e.level false≤125) && s.isos == 0 && s.embs == 0) = true:=by rw [← htop];exact hr
 obtain ⟨K,hK⟩:∃ K,K = nextLevel e.level false:=⟨_,rfl⟩
 rw [← hK] at hroom
 have hK2:K≤125:=by simp at hroom;exact hroom.1.1
 have hK3:(K:Int)≤125:=by omega
 have hK4:(0:Int)≤(K:Int):=by omega
 have hva:=valid_le hok
 have he2:(s.isos:Int)≤1048590:=by omega
 have he3:(0:Int)≤(s.isos:Int):=by omega
 have he4:(s.valid:Int)≤1048590:=by omega
 have he5:(0:Int)≤(s.valid:Int):=by omega
 have HN1:=Lib.hid (fun w' h => HNX.out w' false h)
 rw [← hK] at HN1
 have HR1:=Lib.hid (fun w' => HRM.out w' K)
 rw [hroom] at HR1
 have HNEXT:=Lib.hid (next_iso (s:=s) (auto:=0) (c:=22) (odd:=false) rfl rfl hr)
 have HOK:=Lib.hid (hok.next (by omega) 22 0)
 have HCNT:=Lib.hid (next_counts s 22 0)
 have HPUT:Hid (s.put false 0 true = { s with l:=⟨K,0,true⟩ :: s.l }):=Lib.hid (by unfold St.put;rw [htop,hK])
 have HW2:=Lib.hid (fun (w':World) e h => rwith_any w' B base s.isos s.embs ((s.valid:Int) + 1) pa pc s.l e n hn.symm (by omega) h)
 have HNL:=Lib.hid hn
 clear hp hok hr hroom hs htop hlev hn hrn hK hva
 go_enter Tryz.func89,Tryz.ntmps89
 go_upto_region 1 with (fail)
 rw [← HNN.out,← HEQ.out]
 go_wp2_with (first
  | (with_reducible refine wpList_load_row rfl 155 _ rfl N rfl 155 _ (0,0) _ (HBX.out _ (by first | exact HB3.out | exact HB2.out | exact HB1.out | exact Below.refl _ _)).1 Tryz.underlying155 rfl (by kernel_rfl) ?_)
  | (with_reducible refine wpList_load_row rfl 155 _ rfl N rfl 155 _ (0,0) _ (set4_of5 (HBX.out _ HB3.out).1 _) Tryz.underlying155 rfl (by kernel_rfl) ?_)
  | (go_at_call 122;refine (HPL.out _ 22 (by omega) (by omega) (by rw [← HS.out];exact HOW.out _ (by first | exact HB4.out | exact HB5.out _ _ | exact HB3.out _ | exact HB2.out | exact HB1.out | exact Below.refl _ _))).mono ?_;rintro x w1 ⟨rfl,b1⟩;have HB1:Hid (Below V.heap.size V w1):=Lib.hid b1;clear b1)
  | (go_at_call 119;refine (HN1.out _ (by rw [← HS.out];exact HOW.out _ (by first | exact HB4.out | exact HB5.out _ _ | exact HB3.out _ | exact HB2.out | exact HB1.out | exact Below.refl _ _))).mono ?_;rintro x w2 ⟨rfl,b2⟩;have HB2:Hid (Below V.heap.size V w2):=Lib.hid (HB1.out.trans (b2.mono HB1.out.size));clear b2)
  | (go_at_call 120;refine (HR1.out _).mono ?_;rintro x w3 ⟨rfl,b3⟩;have HB3:Hid (Below V.heap.size V w3):=Lib.hid (HB2.out.trans (b3.mono HB2.out.size));have c2:=cells_at (HBX.out _ HB3.out).1 4;have f2:=frozen_at (HBX.out _ HB3.out).1 4;have HSS:=Lib.hid (fun v => (HP.out.stored HB3.out 4 v));skip;clear b3)
  | (go_at_call 121;refine (HW2.out _ ⟨K,0,true⟩ ((HOW.out _ HB3.out).stored_other ⟨N,4,none⟩ _ HP.out.apart0)).mono ?_;rintro x w5 ⟨qa,qc,rfl,o5,b5⟩;have hlt:N + 1 < (w3.setCell ⟨N,4,none⟩ (.int .i64 ((s.valid:Int) + 1))).heap.size:=(Array.getElem?_eq_some_iff.1 (HSS.out _).1).1;have HX5:=Lib.hid ((b5.block (N + 1) hlt).trans (HSS.out _).1);have HB5:=Lib.hid ((HSS.out _).2.trans (b5.mono (HSS.out _).2.size));have HNE:=Lib.hid (HP.out.apart2 (show V.heap.size≤(w3.setCell ⟨N,4,none⟩ (.int .i64 ((s.valid:Int) + 1))).heap.size from by rw [World.size_setCell];exact HB3.out.size) o5);have HO5:=Lib.hid (o5.mono (show B≤_ from Nat.le_trans HP.out.ge (HSS.out (.int .i64 ((s.valid:Int) + 1))).2.size));have m0:=cells_at (HX5.out) 0;have m1:=cells_at (HX5.out) 1;have m2:=cells_at (HX5.out) 2;have m3:=cells_at (HX5.out) 3;have m4:=cells_at (HX5.out) 4;have l0:=frozen_at (HX5.out) 0;have l1:=frozen_at (HX5.out) 1;have l2:=frozen_at (HX5.out) 2;have l3:=frozen_at (HX5.out) 3;have l4:=frozen_at (HX5.out) 4;clear o5 b5 hlt))
 exact step_doneW (t:=s.next 22 0) HP.out HB5.out HOK.out HCNT.out (by rw [HNEXT.out];show (s.put false 0 true).l.length = n + 1;rw [HPUT.out,HNL.out];rfl) (by rw [HNEXT.out];rfl) (by rw [HNEXT.out];rfl) (by rw [HNEXT.out];rfl) (by rw [HNEXT.out];show Own w5 B 3 qa (n + 1) qc (entsV (s.put false 0 true).l);rw [HPUT.out];exact HO5.out) HNE.out HX5.out e.level (kp 22) true _ rfl rfl rfl rfl
set_option maxRecDepth 20000 in
set_option maxHeartbeats 8000000 in
theorem rstep_iso22_0n (w V:World) (B base N:Nat) (s:St) (pa:Option Addr) (pc:Nat) (hp:RPre w V B base N s pa pc) (hb1:base≤1) (hok:Ok base s) (hl:s.l.length≤1048590) (hi:s.isos≤1048590) (he:s.embs≤1048590) (hr:s.room false = false):
 Calls Tryz.prog 89 #[.agg #[.int .i8 base,.slice pa s.l.length pc,.int .i64 s.isos,.int .i64 s.embs,.int .i64 s.valid],.int .u8 22,.int .i8 ((0:Nat):Int)] w (RStepP w B base s pa):=by
 obtain ⟨e,r,n,kp,hs,htop,hlev,hn,hrn,HP,HBX,HOW,HNX,HRM,HWI,HPL,HLA,HEQ,HNN,HS⟩:=rall hp hb1 hok hl
 rw [← hn]
 have hroom:(decide (nextLevel e.level false≤125) && s.isos == 0 && s.embs == 0) = false:=by rw [← htop];exact hr
 obtain ⟨K,hK⟩:∃ K,K = nextLevel e.level false:=⟨_,rfl⟩
 rw [← hK] at hroom
 have hK2:K≤127:=by rw [hK];unfold nextLevel;split <;> omega
 have hK3:(K:Int)≤127:=by omega
 have hK4:(0:Int)≤(K:Int):=by omega
 have hva:=valid_le hok
 have he2:(s.isos:Int)≤1048590:=by omega
 have he3:(0:Int)≤(s.isos:Int):=by omega
 have he4:(s.valid:Int)≤1048590:=by omega
 have he5:(0:Int)≤(s.valid:Int):=by omega
 have HN1:=Lib.hid (fun w' h => HNX.out w' false h)
 rw [← hK] at HN1
 have HR1:=Lib.hid (fun w' => HRM.out w' K)
 rw [hroom] at HR1
 have HNEXT:=Lib.hid (next_iso_no (s:=s) (auto:=0) (c:=22) (odd:=false) rfl rfl hr)
 have HOK:=Lib.hid (hok.next (by omega) 22 0)
 have HCNT:=Lib.hid (next_counts s 22 0)
 have HPUT:Hid (s.put false 0 true = { s with l:=⟨K,0,true⟩ :: s.l }):=Lib.hid (by unfold St.put;rw [htop,hK])
 have HW2:=Lib.hid (fun (w':World) e h => rwith_any w' B base s.isos s.embs ((s.valid:Int) + 1) pa pc s.l e n hn.symm (by omega) h)
 have HNL:=Lib.hid hn
 clear hp hok hr hroom hs htop hlev hn hrn hK hva
 go_enter Tryz.func89,Tryz.ntmps89
 go_upto_region 1 with (fail)
 rw [← HNN.out,← HEQ.out]
 go_wp2_with (first
  | (with_reducible refine wpList_load_row rfl 155 _ rfl N rfl 155 _ (0,0) _ (HBX.out _ (by first | exact HB3.out | exact HB2.out | exact HB1.out | exact Below.refl _ _)).1 Tryz.underlying155 rfl (by kernel_rfl) ?_)
  | (with_reducible refine wpList_load_row rfl 155 _ rfl N rfl 155 _ (0,0) _ (set2_of5 (HBX.out _ HB3.out).1 _) Tryz.underlying155 rfl (by kernel_rfl) ?_)
  | (go_at_call 122;refine (HPL.out _ 22 (by omega) (by omega) (by rw [← HS.out];exact HOW.out _ (by first | exact HB4.out | exact HB5.out _ _ | exact HB3.out _ | exact HB2.out | exact HB1.out | exact Below.refl _ _))).mono ?_;rintro x w1 ⟨rfl,b1⟩;have HB1:Hid (Below V.heap.size V w1):=Lib.hid b1;clear b1)
  | (go_at_call 119;refine (HN1.out _ (by rw [← HS.out];exact HOW.out _ (by first | exact HB4.out | exact HB5.out _ _ | exact HB3.out _ | exact HB2.out | exact HB1.out | exact Below.refl _ _))).mono ?_;rintro x w2 ⟨rfl,b2⟩;have HB2:Hid (Below V.heap.size V w2):=Lib.hid (HB1.out.trans (b2.mono HB1.out.size));clear b2)
  | (go_at_call 120;refine (HR1.out _).mono ?_;rintro x w3 ⟨rfl,b3⟩;have HB3:Hid (Below V.heap.size V w3):=Lib.hid (HB2.out.trans (b3.mono HB2.out.size));have c2:=cells_at (HBX.out _ HB3.out).1 2;have f2:=frozen_at (HBX.out _ HB3.out).1 2;have HSS:=Lib.hid (fun v => (HP.out.stored HB3.out 2 v));have m0:=cells_at ((HSS.out (.int .i64 ((s.isos:Int) + 1))).1) 0;have m1:=cells_at ((HSS.out (.int .i64 ((s.isos:Int) + 1))).1) 1;have m2:=cells_at ((HSS.out (.int .i64 ((s.isos:Int) + 1))).1) 2;have m3:=cells_at ((HSS.out (.int .i64 ((s.isos:Int) + 1))).1) 3;have m4:=cells_at ((HSS.out (.int .i64 ((s.isos:Int) + 1))).1) 4;have l0:=frozen_at ((HSS.out (.int .i64 ((s.isos:Int) + 1))).1) 0;have l1:=frozen_at ((HSS.out (.int .i64 ((s.isos:Int) + 1))).1) 1;have l2:=frozen_at ((HSS.out (.int .i64 ((s.isos:Int) + 1))).1) 2;have l3:=frozen_at ((HSS.out (.int .i64 ((s.isos:Int) + 1))).1) 3;have l4:=frozen_at ((HSS.out (.int .i64 ((s.isos:Int) + 1))).1) 4;clear b3))
 exact step_doneW (t:=s.next 22 0) HP.out (HSS.out _).2 HOK.out HCNT.out (by rw [HNEXT.out,HNL.out]) (by rw [HNEXT.out];rfl) (by rw [HNEXT.out]) (by rw [HNEXT.out]) (by rw [HNEXT.out];exact (HOW.out _ HB3.out).stored_other ⟨N,2,none⟩ _ HP.out.apart0) HP.out.apart (HSS.out _).1 e.level (kp 22) true _ rfl rfl rfl rfl
set_option maxRecDepth 20000 in
set_option maxHeartbeats 8000000 in
theorem rstep_iso22_1y (w V:World) (B base N:Nat) (s:St) (pa:Option Addr) (pc:Nat) (hp:RPre w V B base N s pa pc) (hb1:base≤1) (hok:Ok base s) (hl:s.l.length≤1048590) (hi:s.isos≤1048590) (he:s.embs≤1048590) (hr:s.room true = true):
 Calls Tryz.prog 89 #[.agg #[.int .i8 base,.slice pa s.l.length pc,.int .i64 s.isos,.int .i64 s.embs,.int .i64 s.valid],.int .u8 22,.int .i8 ((1:Nat):Int)] w (RStepP w B base s pa):=by
 obtain ⟨e,r,n,kp,hs,htop,hlev,hn,hrn,HP,HBX,HOW,HNX,HRM,HWI,HPL,HLA,HEQ,HNN,HS⟩:=rall hp hb1 hok hl
 rw [← hn]
 have hroom:(decide (nextLevel e.level true≤125) && s.isos == 0 && s.embs == 0) = true:=by rw [← htop];exact hr
 obtain ⟨K,hK⟩:∃ K,K = nextLevel e.level true:=⟨_,rfl⟩
 rw [← hK] at hroom
 have hK2:K≤125:=by simp at hroom;exact hroom.1.1
 have hK3:(K:Int)≤125:=by omega
 have hK4:(0:Int)≤(K:Int):=by omega
 have hva:=valid_le hok
 have he2:(s.isos:Int)≤1048590:=by omega
 have he3:(0:Int)≤(s.isos:Int):=by omega
 have he4:(s.valid:Int)≤1048590:=by omega
 have he5:(0:Int)≤(s.valid:Int):=by omega
 have HN1:=Lib.hid (fun w' h => HNX.out w' true h)
 rw [← hK] at HN1
 have HR1:=Lib.hid (fun w' => HRM.out w' K)
 rw [hroom] at HR1
 have HNEXT:=Lib.hid (next_iso (s:=s) (auto:=1) (c:=22) (odd:=true) rfl rfl hr)
 have HOK:=Lib.hid (hok.next (by omega) 22 1)
 have HCNT:=Lib.hid (next_counts s 22 1)
 have HPUT:Hid (s.put true 0 true = { s with l:=⟨K,0,true⟩ :: s.l }):=Lib.hid (by unfold St.put;rw [htop,hK])
 have HW2:=Lib.hid (fun (w':World) e h => rwith_any w' B base s.isos s.embs ((s.valid:Int) + 1) pa pc s.l e n hn.symm (by omega) h)
 have HNL:=Lib.hid hn
 clear hp hok hr hroom hs htop hlev hn hrn hK hva
 go_enter Tryz.func89,Tryz.ntmps89
 go_upto_region 1 with (fail)
 rw [← HNN.out,← HEQ.out]
 go_wp2_with (first
  | (with_reducible refine wpList_load_row rfl 155 _ rfl N rfl 155 _ (0,0) _ (HBX.out _ (by first | exact HB3.out | exact HB2.out | exact HB1.out | exact Below.refl _ _)).1 Tryz.underlying155 rfl (by kernel_rfl) ?_)
  | (with_reducible refine wpList_load_row rfl 155 _ rfl N rfl 155 _ (0,0) _ (set4_of5 (HBX.out _ HB3.out).1 _) Tryz.underlying155 rfl (by kernel_rfl) ?_)
  | (go_at_call 122;refine (HPL.out _ 22 (by omega) (by omega) (by rw [← HS.out];exact HOW.out _ (by first | exact HB4.out | exact HB5.out _ _ | exact HB3.out _ | exact HB2.out | exact HB1.out | exact Below.refl _ _))).mono ?_;rintro x w1 ⟨rfl,b1⟩;have HB1:Hid (Below V.heap.size V w1):=Lib.hid b1;clear b1)
  | (go_at_call 119;refine (HN1.out _ (by rw [← HS.out];exact HOW.out _ (by first | exact HB4.out | exact HB5.out _ _ | exact HB3.out _ | exact HB2.out | exact HB1.out | exact Below.refl _ _))).mono ?_;rintro x w2 ⟨rfl,b2⟩;have HB2:Hid (Below V.heap.size V w2):=Lib.hid (HB1.out.trans (b2.mono HB1.out.size));clear b2)
  | (go_at_call 120;refine (HR1.out _).mono ?_;rintro x w3 ⟨rfl,b3⟩;have HB3:Hid (Below V.heap.size V w3):=Lib.hid (HB2.out.trans (b3.mono HB2.out.size));have c2:=cells_at (HBX.out _ HB3.out).1 4;have f2:=frozen_at (HBX.out _ HB3.out).1 4;have HSS:=Lib.hid (fun v => (HP.out.stored HB3.out 4 v));skip;clear b3)
  | (go_at_call 121;refine (HW2.out _ ⟨K,0,true⟩ ((HOW.out _ HB3.out).stored_other ⟨N,4,none⟩ _ HP.out.apart0)).mono ?_;rintro x w5 ⟨qa,qc,rfl,o5,b5⟩;have hlt:N + 1 < (w3.setCell ⟨N,4,none⟩ (.int .i64 ((s.valid:Int) + 1))).heap.size:=(Array.getElem?_eq_some_iff.1 (HSS.out _).1).1;have HX5:=Lib.hid ((b5.block (N + 1) hlt).trans (HSS.out _).1);have HB5:=Lib.hid ((HSS.out _).2.trans (b5.mono (HSS.out _).2.size));have HNE:=Lib.hid (HP.out.apart2 (show V.heap.size≤(w3.setCell ⟨N,4,none⟩ (.int .i64 ((s.valid:Int) + 1))).heap.size from by rw [World.size_setCell];exact HB3.out.size) o5);have HO5:=Lib.hid (o5.mono (show B≤_ from Nat.le_trans HP.out.ge (HSS.out (.int .i64 ((s.valid:Int) + 1))).2.size));have m0:=cells_at (HX5.out) 0;have m1:=cells_at (HX5.out) 1;have m2:=cells_at (HX5.out) 2;have m3:=cells_at (HX5.out) 3;have m4:=cells_at (HX5.out) 4;have l0:=frozen_at (HX5.out) 0;have l1:=frozen_at (HX5.out) 1;have l2:=frozen_at (HX5.out) 2;have l3:=frozen_at (HX5.out) 3;have l4:=frozen_at (HX5.out) 4;clear o5 b5 hlt))
 exact step_doneW (t:=s.next 22 1) HP.out HB5.out HOK.out HCNT.out (by rw [HNEXT.out];show (s.put true 0 true).l.length = n + 1;rw [HPUT.out,HNL.out];rfl) (by rw [HNEXT.out];rfl) (by rw [HNEXT.out];rfl) (by rw [HNEXT.out];rfl) (by rw [HNEXT.out];show Own w5 B 3 qa (n + 1) qc (entsV (s.put true 0 true).l);rw [HPUT.out];exact HO5.out) HNE.out HX5.out e.level (kp 22) true _ rfl rfl rfl rfl
set_option maxRecDepth 20000 in
set_option maxHeartbeats 8000000 in
theorem rstep_iso22_1n (w V:World) (B base N:Nat) (s:St) (pa:Option Addr) (pc:Nat) (hp:RPre w V B base N s pa pc) (hb1:base≤1) (hok:Ok base s) (hl:s.l.length≤1048590) (hi:s.isos≤1048590) (he:s.embs≤1048590) (hr:s.room true = false):
 Calls Tryz.prog 89 #[.agg #[.int .i8 base,.slice pa s.l.length pc,.int .i64 s.isos,.int .i64 s.embs,.int .i64 s.valid],.int .u8 22,.int .i8 ((1:Nat):Int)] w (RStepP w B base s pa):=by
 obtain ⟨e,r,n,kp,hs,htop,hlev,hn,hrn,HP,HBX,HOW,HNX,HRM,HWI,HPL,HLA,HEQ,HNN,HS⟩:=rall hp hb1 hok hl
 rw [← hn]
 have hroom:(decide (nextLevel e.level true≤125) && s.isos == 0 && s.embs == 0) = false:=by rw [← htop];exact hr
 obtain ⟨K,hK⟩:∃ K,K = nextLevel e.level true:=⟨_,rfl⟩
 rw [← hK] at hroom
 have hK2:K≤127:=by rw [hK];unfold nextLevel;split <;> omega
 have hK3:(K:Int)≤127:=by omega
 have hK4:(0:Int)≤(K:Int):=by omega
 have hva:=valid_le hok
 have he2:(s.isos:Int)≤1048590:=by omega
 have he3:(0:Int)≤(s.isos:Int):=by omega
 have he4:(s.valid:Int)≤1048590:=by omega
 have he5:(0:Int)≤(s.valid:Int):=by omega
 have HN1:=Lib.hid (fun w' h => HNX.out w' true h)
 rw [← hK] at HN1
 have HR1:=Lib.hid (fun w' => HRM.out w' K)
 rw [hroom] at HR1
 have HNEXT:=Lib.hid (next_iso_no (s:=s) (auto:=1) (c:=22) (odd:=true) rfl rfl hr)
 have HOK:=Lib.hid (hok.next (by omega) 22 1)
 have HCNT:=Lib.hid (next_counts s 22 1)
 have HPUT:Hid (s.put true 0 true = { s with l:=⟨K,0,true⟩ :: s.l }):=Lib.hid (by unfold St.put;rw [htop,hK])
 have HW2:=Lib.hid (fun (w':World) e h => rwith_any w' B base s.isos s.embs ((s.valid:Int) + 1) pa pc s.l e n hn.symm (by omega) h)
 have HNL:=Lib.hid hn
 clear hp hok hr hroom hs htop hlev hn hrn hK hva
 go_enter Tryz.func89,Tryz.ntmps89
 go_upto_region 1 with (fail)
 rw [← HNN.out,← HEQ.out]
 go_wp2_with (first
  | (with_reducible refine wpList_load_row rfl 155 _ rfl N rfl 155 _ (0,0) _ (HBX.out _ (by first | exact HB3.out | exact HB2.out | exact HB1.out | exact Below.refl _ _)).1 Tryz.underlying155 rfl (by kernel_rfl) ?_)
  | (with_reducible refine wpList_load_row rfl 155 _ rfl N rfl 155 _ (0,0) _ (set2_of5 (HBX.out _ HB3.out).1 _) Tryz.underlying155 rfl (by kernel_rfl) ?_)
  | (go_at_call 122;refine (HPL.out _ 22 (by omega) (by omega) (by rw [← HS.out];exact HOW.out _ (by first | exact HB4.out | exact HB5.out _ _ | exact HB3.out _ | exact HB2.out | exact HB1.out | exact Below.refl _ _))).mono ?_;rintro x w1 ⟨rfl,b1⟩;have HB1:Hid (Below V.heap.size V w1):=Lib.hid b1;clear b1)
  | (go_at_call 119;refine (HN1.out _ (by rw [← HS.out];exact HOW.out _ (by first | exact HB4.out | exact HB5.out _ _ | exact HB3.out _ | exact HB2.out | exact HB1.out | exact Below.refl _ _))).mono ?_;rintro x w2 ⟨rfl,b2⟩;have HB2:Hid (Below V.heap.size V w2):=Lib.hid (HB1.out.trans (b2.mono HB1.out.size));clear b2)
  | (go_at_call 120;refine (HR1.out _).mono ?_;rintro x w3 ⟨rfl,b3⟩;have HB3:Hid (Below V.heap.size V w3):=Lib.hid (HB2.out.trans (b3.mono HB2.out.size));have c2:=cells_at (HBX.out _ HB3.out).1 2;have f2:=frozen_at (HBX.out _ HB3.out).1 2;have HSS:=Lib.hid (fun v => (HP.out.stored HB3.out 2 v));have m0:=cells_at ((HSS.out (.int .i64 ((s.isos:Int) + 1))).1) 0;have m1:=cells_at ((HSS.out (.int .i64 ((s.isos:Int) + 1))).1) 1;have m2:=cells_at ((HSS.out (.int .i64 ((s.isos:Int) + 1))).1) 2;have m3:=cells_at ((HSS.out (.int .i64 ((s.isos:Int) + 1))).1) 3;have m4:=cells_at ((HSS.out (.int .i64 ((s.isos:Int) + 1))).1) 4;have l0:=frozen_at ((HSS.out (.int .i64 ((s.isos:Int) + 1))).1) 0;have l1:=frozen_at ((HSS.out (.int .i64 ((s.isos:Int) + 1))).1) 1;have l2:=frozen_at ((HSS.out (.int .i64 ((s.isos:Int) + 1))).1) 2;have l3:=frozen_at ((HSS.out (.int .i64 ((s.isos:Int) + 1))).1) 3;have l4:=frozen_at ((HSS.out (.int .i64 ((s.isos:Int) + 1))).1) 4;clear b3))
 exact step_doneW (t:=s.next 22 1) HP.out (HSS.out _).2 HOK.out HCNT.out (by rw [HNEXT.out,HNL.out]) (by rw [HNEXT.out];rfl) (by rw [HNEXT.out]) (by rw [HNEXT.out]) (by rw [HNEXT.out];exact (HOW.out _ HB3.out).stored_other ⟨N,2,none⟩ _ HP.out.apart0) HP.out.apart (HSS.out _).1 e.level (kp 22) true _ rfl rfl rfl rfl
set_option maxRecDepth 20000 in
set_option maxHeartbeats 8000000 in
theorem rstep_no17z (w V:World) (B base N:Nat) (s:St) (pa:Option Addr) (pc auto:Nat) (hp:RPre w V B base N s pa pc) (hb1:base≤1) (hok:Ok base s) (hl:s.l.length≤1048590) (hi:s.isos≤1048590) (he:s.embs≤1048590) (hr:s.room true = false) (hz:s.isos = 0):
 Calls Tryz.prog 89 #[.agg #[.int .i8 base,.slice pa s.l.length pc,.int .i64 s.isos,.int .i64 s.embs,.int .i64 s.valid],.int .u8 17,.int .i8 auto] w (RStepP w B base s pa):=by
 obtain ⟨e,r,n,kp,hs,htop,hlev,hn,hrn,HP,HBX,HOW,HNX,HRM,HWI,HPL,HLA,HEQ,HNN,HS⟩:=rall hp hb1 hok hl
 rw [← hn]
 have hroom:(decide (nextLevel e.level true≤125) && s.isos == 0 && s.embs == 0) = false:=by rw [← htop];exact hr
 obtain ⟨K,hK⟩:∃ K,K = nextLevel e.level true:=⟨_,rfl⟩
 rw [← hK] at hroom
 have hK2:K≤127:=by rw [hK];unfold nextLevel;split <;> omega
 have hK3:(K:Int)≤127:=by omega
 have hK4:(0:Int)≤(K:Int):=by omega
 have he2:(s.embs:Int)≤1048590:=by omega
 have he3:(0:Int)≤(s.embs:Int):=by omega
 have hz2:((s.isos:Int) == 0) = true:=by simp <;> omega
 have HN1:=Lib.hid (fun w' h => HNX.out w' true h)
 rw [← hK] at HN1
 have HR1:=Lib.hid (fun w' => HRM.out w' K)
 rw [hroom] at HR1
 have HNEXT:=Lib.hid (next_no (s:=s) (auto:=auto) (c:=17) (odd:=true) (by omega) rfl hr)
 rw [if_pos hz] at HNEXT
 have HOK:=Lib.hid (hok.next (by omega) 17 auto)
 have HCNT:=Lib.hid (next_counts s 17 auto)
 have HNL:=Lib.hid hn
 clear hp hok hr hroom hs htop hlev hn hrn hK hz
 go_enter Tryz.func89,Tryz.ntmps89
 go_upto_region 1 with (fail)
 rw [← HNN.out,← HEQ.out]
 go_wp2_with (first
  | (with_reducible refine wpList_load_row rfl 155 _ rfl N rfl 155 _ (0,0) _ (HBX.out _ (by first | exact HB4.out | exact HB5.out _ _ | exact HB3.out _ | exact HB2.out | exact HB1.out | exact Below.refl _ _)).1 Tryz.underlying155 rfl (by kernel_rfl) ?_)
  | (with_reducible refine wpList_load_row rfl 155 _ rfl N rfl 155 _ (0,0) _ (set3_of5 (HBX.out _ HB2.out).1 _) Tryz.underlying155 rfl (by kernel_rfl) ?_)
  | (go_at_call 119;refine (HN1.out _ (by rw [← HS.out];exact HOW.out _ (by first | exact HB4.out | exact HB5.out _ _ | exact HB3.out _ | exact HB2.out | exact HB1.out | exact Below.refl _ _))).mono ?_;rintro x w1 ⟨rfl,b1⟩;have HB1:Hid (Below V.heap.size V w1):=Lib.hid b1;clear b1)
  | (go_at_call 120;refine (HR1.out _).mono ?_;rintro x w2 ⟨rfl,b2⟩;have HB2:Hid (Below V.heap.size V w2):=Lib.hid (HB1.out.trans (b2.mono HB1.out.size));have c2:=cells_at (HBX.out _ HB2.out).1 2;have c3:=cells_at (HBX.out _ HB2.out).1 3;have f3:=frozen_at (HBX.out _ HB2.out).1 3;have HSS:=Lib.hid (fun v => (HP.out.stored HB2.out 3 v));have m0:=cells_at ((HSS.out (.int .i64 ((s.embs:Int) + 1))).1) 0;have m1:=cells_at ((HSS.out (.int .i64 ((s.embs:Int) + 1))).1) 1;have m2:=cells_at ((HSS.out (.int .i64 ((s.embs:Int) + 1))).1) 2;have m3:=cells_at ((HSS.out (.int .i64 ((s.embs:Int) + 1))).1) 3;have m4:=cells_at ((HSS.out (.int .i64 ((s.embs:Int) + 1))).1) 4;have l0:=frozen_at ((HSS.out (.int .i64 ((s.embs:Int) + 1))).1) 0;have l1:=frozen_at ((HSS.out (.int .i64 ((s.embs:Int) + 1))).1) 1;have l2:=frozen_at ((HSS.out (.int .i64 ((s.embs:Int) + 1))).1) 2;have l3:=frozen_at ((HSS.out (.int .i64 ((s.embs:Int) + 1))).1) 3;have l4:=frozen_at ((HSS.out (.int .i64 ((s.embs:Int) + 1))).1) 4;clear b2))
 exact step_doneW (t:=s.next 17 auto) HP.out (HSS.out _).2 HOK.out HCNT.out (by rw [HNEXT.out,HNL.out]) (by rw [HNEXT.out]) (by rw [HNEXT.out];rfl) (by rw [HNEXT.out]) (by rw [HNEXT.out];exact (HOW.out _ HB2.out).stored_other ⟨N,3,none⟩ _ HP.out.apart0) HP.out.apart (HSS.out _).1 (-1) 17 false _ rfl rfl rfl rfl
set_option maxRecDepth 20000 in
set_option maxHeartbeats 8000000 in
theorem rstep_no17p (w V:World) (B base N:Nat) (s:St) (pa:Option Addr) (pc auto:Nat) (hp:RPre w V B base N s pa pc) (hb1:base≤1) (hok:Ok base s) (hl:s.l.length≤1048590) (hi:s.isos≤1048590) (he:s.embs≤1048590) (hr:s.room true = false) (hz:0 < s.isos):
 Calls Tryz.prog 89 #[.agg #[.int .i8 base,.slice pa s.l.length pc,.int .i64 s.isos,.int .i64 s.embs,.int .i64 s.valid],.int .u8 17,.int .i8 auto] w (RStepP w B base s pa):=by
 obtain ⟨e,r,n,kp,hs,htop,hlev,hn,hrn,HP,HBX,HOW,HNX,HRM,HWI,HPL,HLA,HEQ,HNN,HS⟩:=rall hp hb1 hok hl
 rw [← hn]
 have hroom:(decide (nextLevel e.level true≤125) && s.isos == 0 && s.embs == 0) = false:=by rw [← htop];exact hr
 obtain ⟨K,hK⟩:∃ K,K = nextLevel e.level true:=⟨_,rfl⟩
 rw [← hK] at hroom
 have hK2:K≤127:=by rw [hK];unfold nextLevel;split <;> omega
 have hK3:(K:Int)≤127:=by omega
 have hK4:(0:Int)≤(K:Int):=by omega
 have he2:(s.embs:Int)≤1048590:=by omega
 have he3:(0:Int)≤(s.embs:Int):=by omega
 have hz2:((s.isos:Int) == 0) = false:=by simp <;> omega
 have HN1:=Lib.hid (fun w' h => HNX.out w' true h)
 rw [← hK] at HN1
 have HR1:=Lib.hid (fun w' => HRM.out w' K)
 rw [hroom] at HR1
 have HNEXT:=Lib.hid (next_no (s:=s) (auto:=auto) (c:=17) (odd:=true) (by omega) rfl hr)
 rw [if_neg (by omega)] at HNEXT
 have HOK:=Lib.hid (hok.next (by omega) 17 auto)
 have HCNT:=Lib.hid (next_counts s 17 auto)
 have HNL:=Lib.hid hn
 clear hp hok hr hroom hs htop hlev hn hrn hK hz
 go_enter Tryz.func89,Tryz.ntmps89
 go_upto_region 1 with (fail)
 rw [← HNN.out,← HEQ.out]
 go_wp2_with (first
  | (with_reducible refine wpList_load_row rfl 155 _ rfl N rfl 155 _ (0,0) _ (HBX.out _ (by first | exact HB4.out | exact HB5.out _ _ | exact HB3.out _ | exact HB2.out | exact HB1.out | exact Below.refl _ _)).1 Tryz.underlying155 rfl (by kernel_rfl) ?_)
  | fail
  | (go_at_call 119;refine (HN1.out _ (by rw [← HS.out];exact HOW.out _ (by first | exact HB4.out | exact HB5.out _ _ | exact HB3.out _ | exact HB2.out | exact HB1.out | exact Below.refl _ _))).mono ?_;rintro x w1 ⟨rfl,b1⟩;have HB1:Hid (Below V.heap.size V w1):=Lib.hid b1;clear b1)
  | (go_at_call 120;refine (HR1.out _).mono ?_;rintro x w2 ⟨rfl,b2⟩;have HB2:Hid (Below V.heap.size V w2):=Lib.hid (HB1.out.trans (b2.mono HB1.out.size));have c2:=cells_at (HBX.out _ HB2.out).1 2;have c3:=cells_at (HBX.out _ HB2.out).1 3;have f3:=frozen_at (HBX.out _ HB2.out).1 3;have HSS:=Lib.hid (fun v => (HP.out.stored HB2.out 3 v));have m0:=cells_at ((HBX.out _ HB2.out).2) 0;have m1:=cells_at ((HBX.out _ HB2.out).2) 1;have m2:=cells_at ((HBX.out _ HB2.out).2) 2;have m3:=cells_at ((HBX.out _ HB2.out).2) 3;have m4:=cells_at ((HBX.out _ HB2.out).2) 4;have l0:=frozen_at ((HBX.out _ HB2.out).2) 0;have l1:=frozen_at ((HBX.out _ HB2.out).2) 1;have l2:=frozen_at ((HBX.out _ HB2.out).2) 2;have l3:=frozen_at ((HBX.out _ HB2.out).2) 3;have l4:=frozen_at ((HBX.out _ HB2.out).2) 4;clear b2))
 exact step_done (t:=s.next 17 auto) HP.out HB2.out HOK.out HCNT.out (by rw [HNEXT.out,HNL.out]) (by rw [HNEXT.out]) (by rw [HNEXT.out]) (by rw [HNEXT.out]) (by rw [HNEXT.out];exact HOW.out _ HB2.out) HP.out.apart (HBX.out _ HB2.out).2 (-1) 17 false _ rfl rfl rfl rfl
set_option maxRecDepth 20000 in
set_option maxHeartbeats 8000000 in
theorem rstep_no15z (w V:World) (B base N:Nat) (s:St) (pa:Option Addr) (pc auto:Nat) (hp:RPre w V B base N s pa pc) (hb1:base≤1) (hok:Ok base s) (hl:s.l.length≤1048590) (hi:s.isos≤1048590) (he:s.embs≤1048590) (hr:s.room false = false) (hz:s.isos = 0):
 Calls Tryz.prog 89 #[.agg #[.int .i8 base,.slice pa s.l.length pc,.int .i64 s.isos,.int .i64 s.embs,.int .i64 s.valid],.int .u8 15,.int .i8 auto] w (RStepP w B base s pa):=by
 obtain ⟨e,r,n,kp,hs,htop,hlev,hn,hrn,HP,HBX,HOW,HNX,HRM,HWI,HPL,HLA,HEQ,HNN,HS⟩:=rall hp hb1 hok hl
 rw [← hn]
 have hroom:(decide (nextLevel e.level false≤125) && s.isos == 0 && s.embs == 0) = false:=by rw [← htop];exact hr
 obtain ⟨K,hK⟩:∃ K,K = nextLevel e.level false:=⟨_,rfl⟩
 rw [← hK] at hroom
 have hK2:K≤127:=by rw [hK];unfold nextLevel;split <;> omega
 have hK3:(K:Int)≤127:=by omega
 have hK4:(0:Int)≤(K:Int):=by omega
 have he2:(s.embs:Int)≤1048590:=by omega
 have he3:(0:Int)≤(s.embs:Int):=by omega
 have hz2:((s.isos:Int) == 0) = true:=by simp <;> omega
 have HN1:=Lib.hid (fun w' h => HNX.out w' false h)
 rw [← hK] at HN1
 have HR1:=Lib.hid (fun w' => HRM.out w' K)
 rw [hroom] at HR1
 have HNEXT:=Lib.hid (next_no (s:=s) (auto:=auto) (c:=15) (odd:=false) (by omega) rfl hr)
 rw [if_pos hz] at HNEXT
 have HOK:=Lib.hid (hok.next (by omega) 15 auto)
 have HCNT:=Lib.hid (next_counts s 15 auto)
 have HNL:=Lib.hid hn
 clear hp hok hr hroom hs htop hlev hn hrn hK hz
 go_enter Tryz.func89,Tryz.ntmps89
 go_upto_region 1 with (fail)
 rw [← HNN.out,← HEQ.out]
 go_wp2_with (first
  | (with_reducible refine wpList_load_row rfl 155 _ rfl N rfl 155 _ (0,0) _ (HBX.out _ (by first | exact HB4.out | exact HB5.out _ _ | exact HB3.out _ | exact HB2.out | exact HB1.out | exact Below.refl _ _)).1 Tryz.underlying155 rfl (by kernel_rfl) ?_)
  | (with_reducible refine wpList_load_row rfl 155 _ rfl N rfl 155 _ (0,0) _ (set3_of5 (HBX.out _ HB2.out).1 _) Tryz.underlying155 rfl (by kernel_rfl) ?_)
  | (go_at_call 119;refine (HN1.out _ (by rw [← HS.out];exact HOW.out _ (by first | exact HB4.out | exact HB5.out _ _ | exact HB3.out _ | exact HB2.out | exact HB1.out | exact Below.refl _ _))).mono ?_;rintro x w1 ⟨rfl,b1⟩;have HB1:Hid (Below V.heap.size V w1):=Lib.hid b1;clear b1)
  | (go_at_call 120;refine (HR1.out _).mono ?_;rintro x w2 ⟨rfl,b2⟩;have HB2:Hid (Below V.heap.size V w2):=Lib.hid (HB1.out.trans (b2.mono HB1.out.size));have c2:=cells_at (HBX.out _ HB2.out).1 2;have c3:=cells_at (HBX.out _ HB2.out).1 3;have f3:=frozen_at (HBX.out _ HB2.out).1 3;have HSS:=Lib.hid (fun v => (HP.out.stored HB2.out 3 v));have m0:=cells_at ((HSS.out (.int .i64 ((s.embs:Int) + 1))).1) 0;have m1:=cells_at ((HSS.out (.int .i64 ((s.embs:Int) + 1))).1) 1;have m2:=cells_at ((HSS.out (.int .i64 ((s.embs:Int) + 1))).1) 2;have m3:=cells_at ((HSS.out (.int .i64 ((s.embs:Int) + 1))).1) 3;have m4:=cells_at ((HSS.out (.int .i64 ((s.embs:Int) + 1))).1) 4;have l0:=frozen_at ((HSS.out (.int .i64 ((s.embs:Int) + 1))).1) 0;have l1:=frozen_at ((HSS.out (.int .i64 ((s.embs:Int) + 1))).1) 1;have l2:=frozen_at ((HSS.out (.int .i64 ((s.embs:Int) + 1))).1) 2;have l3:=frozen_at ((HSS.out (.int .i64 ((s.embs:Int) + 1))).1) 3;have l4:=frozen_at ((HSS.out (.int .i64 ((s.embs:Int) + 1))).1) 4;clear b2))
 exact step_doneW (t:=s.next 15 auto) HP.out (HSS.out _).2 HOK.out HCNT.out (by rw [HNEXT.out,HNL.out]) (by rw [HNEXT.out]) (by rw [HNEXT.out];rfl) (by rw [HNEXT.out]) (by rw [HNEXT.out];exact (HOW.out _ HB2.out).stored_other ⟨N,3,none⟩ _ HP.out.apart0) HP.out.apart (HSS.out _).1 (-1) 15 false _ rfl rfl rfl rfl
set_option maxRecDepth 20000 in
set_option maxHeartbeats 8000000 in
theorem rstep_no15p (w V:World) (B base N:Nat) (s:St) (pa:Option Addr) (pc auto:Nat) (hp:RPre w V B base N s pa pc) (hb1:base≤1) (hok:Ok base s) (hl:s.l.length≤1048590) (hi:s.isos≤1048590) (he:s.embs≤1048590) (hr:s.room false = false) (hz:0 < s.isos):
 Calls Tryz.prog 89 #[.agg #[.int .i8 base,.slice pa s.l.length pc,.int .i64 s.isos,.int .i64 s.embs,.int .i64 s.valid],.int .u8 15,.int .i8 auto] w (RStepP w B base s pa):=by
 obtain ⟨e,r,n,kp,hs,htop,hlev,hn,hrn,HP,HBX,HOW,HNX,HRM,HWI,HPL,HLA,HEQ,HNN,HS⟩:=rall hp hb1 hok hl
 rw [← hn]
 have hroom:(decide (nextLevel e.level false≤125) && s.isos == 0 && s.embs == 0) = false:=by rw [← htop];exact hr
 obtain ⟨K,hK⟩:∃ K,K = nextLevel e.level false:=⟨_,rfl⟩
 rw [← hK] at hroom
 have hK2:K≤127:=by rw [hK];unfold nextLevel;split <;> omega
 have hK3:(K:Int)≤127:=by omega
 have hK4:(0:Int)≤(K:Int):=by omega
 have he2:(s.embs:Int)≤1048590:=by omega
 have he3:(0:Int)≤(s.embs:Int):=by omega
 have hz2:((s.isos:Int) == 0) = false:=by simp <;> omega
 have HN1:=Lib.hid (fun w' h => HNX.out w' false h)
 rw [← hK] at HN1
 have HR1:=Lib.hid (fun w' => HRM.out w' K)
 rw [hroom] at HR1
 have HNEXT:=Lib.hid (next_no (s:=s) (auto:=auto) (c:=15) (odd:=false) (by omega) rfl hr)
 rw [if_neg (by omega)] at HNEXT
 have HOK:=Lib.hid (hok.next (by omega) 15 auto)
 have HCNT:=Lib.hid (next_counts s 15 auto)
 have HNL:=Lib.hid hn
 clear hp hok hr hroom hs htop hlev hn hrn hK hz
 go_enter Tryz.func89,Tryz.ntmps89
 go_upto_region 1 with (fail)
 rw [← HNN.out,← HEQ.out]
 go_wp2_with (first
  | (with_reducible refine wpList_load_row rfl 155 _ rfl N rfl 155 _ (0,0) _ (HBX.out _ (by first | exact HB4.out | exact HB5.out _ _ | exact HB3.out _ | exact HB2.out | exact HB1.out | exact Below.refl _ _)).1 Tryz.underlying155 rfl (by kernel_rfl) ?_)
  | fail
  | (go_at_call 119;refine (HN1.out _ (by rw [← HS.out];exact HOW.out _ (by first | exact HB4.out | exact HB5.out _ _ | exact HB3.out _ | exact HB2.out | exact HB1.out | exact Below.refl _ _))).mono ?_;rintro x w1 ⟨rfl,b1⟩;have HB1:Hid (Below V.heap.size V w1):=Lib.hid b1;clear b1)
  | (go_at_call 120;refine (HR1.out _).mono ?_;rintro x w2 ⟨rfl,b2⟩;have HB2:Hid (Below V.heap.size V w2):=Lib.hid (HB1.out.trans (b2.mono HB1.out.size));have c2:=cells_at (HBX.out _ HB2.out).1 2;have c3:=cells_at (HBX.out _ HB2.out).1 3;have f3:=frozen_at (HBX.out _ HB2.out).1 3;have HSS:=Lib.hid (fun v => (HP.out.stored HB2.out 3 v));have m0:=cells_at ((HBX.out _ HB2.out).2) 0;have m1:=cells_at ((HBX.out _ HB2.out).2) 1;have m2:=cells_at ((HBX.out _ HB2.out).2) 2;have m3:=cells_at ((HBX.out _ HB2.out).2) 3;have m4:=cells_at ((HBX.out _ HB2.out).2) 4;have l0:=frozen_at ((HBX.out _ HB2.out).2) 0;have l1:=frozen_at ((HBX.out _ HB2.out).2) 1;have l2:=frozen_at ((HBX.out _ HB2.out).2) 2;have l3:=frozen_at ((HBX.out _ HB2.out).2) 3;have l4:=frozen_at ((HBX.out _ HB2.out).2) 4;clear b2))
 exact step_done (t:=s.next 15 auto) HP.out HB2.out HOK.out HCNT.out (by rw [HNEXT.out,HNL.out]) (by rw [HNEXT.out]) (by rw [HNEXT.out]) (by rw [HNEXT.out]) (by rw [HNEXT.out];exact HOW.out _ HB2.out) HP.out.apart (HBX.out _ HB2.out).2 (-1) 15 false _ rfl rfl rfl rfl
set_option maxRecDepth 20000 in
set_option maxHeartbeats 8000000 in
theorem rstep_no18z (w V:World) (B base N:Nat) (s:St) (pa:Option Addr) (pc auto:Nat) (hp:RPre w V B base N s pa pc) (hb1:base≤1) (hok:Ok base s) (hl:s.l.length≤1048590) (hi:s.isos≤1048590) (he:s.embs≤1048590) (hr:s.room true = false) (hz:s.isos = 0):
 Calls Tryz.prog 89 #[.agg #[.int .i8 base,.slice pa s.l.length pc,.int .i64 s.isos,.int .i64 s.embs,.int .i64 s.valid],.int .u8 18,.int .i8 auto] w (RStepP w B base s pa):=by
 obtain ⟨e,r,n,kp,hs,htop,hlev,hn,hrn,HP,HBX,HOW,HNX,HRM,HWI,HPL,HLA,HEQ,HNN,HS⟩:=rall hp hb1 hok hl
 rw [← hn]
 have hroom:(decide (nextLevel e.level true≤125) && s.isos == 0 && s.embs == 0) = false:=by rw [← htop];exact hr
 obtain ⟨K,hK⟩:∃ K,K = nextLevel e.level true:=⟨_,rfl⟩
 rw [← hK] at hroom
 have hK2:K≤127:=by rw [hK];unfold nextLevel;split <;> omega
 have hK3:(K:Int)≤127:=by omega
 have hK4:(0:Int)≤(K:Int):=by omega
 have he2:(s.embs:Int)≤1048590:=by omega
 have he3:(0:Int)≤(s.embs:Int):=by omega
 have hz2:((s.isos:Int) == 0) = true:=by simp <;> omega
 have HN1:=Lib.hid (fun w' h => HNX.out w' true h)
 rw [← hK] at HN1
 have HR1:=Lib.hid (fun w' => HRM.out w' K)
 rw [hroom] at HR1
 have HNEXT:=Lib.hid (next_no (s:=s) (auto:=auto) (c:=18) (odd:=true) (by omega) rfl hr)
 rw [if_pos hz] at HNEXT
 have HOK:=Lib.hid (hok.next (by omega) 18 auto)
 have HCNT:=Lib.hid (next_counts s 18 auto)
 have HNL:=Lib.hid hn
 clear hp hok hr hroom hs htop hlev hn hrn hK hz
 go_enter Tryz.func89,Tryz.ntmps89
 go_upto_region 1 with (fail)
 rw [← HNN.out,← HEQ.out]
 go_wp2_with (first
  | (with_reducible refine wpList_load_row rfl 155 _ rfl N rfl 155 _ (0,0) _ (HBX.out _ (by first | exact HB4.out | exact HB5.out _ _ | exact HB3.out _ | exact HB2.out | exact HB1.out | exact Below.refl _ _)).1 Tryz.underlying155 rfl (by kernel_rfl) ?_)
  | (with_reducible refine wpList_load_row rfl 155 _ rfl N rfl 155 _ (0,0) _ (set3_of5 (HBX.out _ HB2.out).1 _) Tryz.underlying155 rfl (by kernel_rfl) ?_)
  | (go_at_call 119;refine (HN1.out _ (by rw [← HS.out];exact HOW.out _ (by first | exact HB4.out | exact HB5.out _ _ | exact HB3.out _ | exact HB2.out | exact HB1.out | exact Below.refl _ _))).mono ?_;rintro x w1 ⟨rfl,b1⟩;have HB1:Hid (Below V.heap.size V w1):=Lib.hid b1;clear b1)
  | (go_at_call 120;refine (HR1.out _).mono ?_;rintro x w2 ⟨rfl,b2⟩;have HB2:Hid (Below V.heap.size V w2):=Lib.hid (HB1.out.trans (b2.mono HB1.out.size));have c2:=cells_at (HBX.out _ HB2.out).1 2;have c3:=cells_at (HBX.out _ HB2.out).1 3;have f3:=frozen_at (HBX.out _ HB2.out).1 3;have HSS:=Lib.hid (fun v => (HP.out.stored HB2.out 3 v));have m0:=cells_at ((HSS.out (.int .i64 ((s.embs:Int) + 1))).1) 0;have m1:=cells_at ((HSS.out (.int .i64 ((s.embs:Int) + 1))).1) 1;have m2:=cells_at ((HSS.out (.int .i64 ((s.embs:Int) + 1))).1) 2;have m3:=cells_at ((HSS.out (.int .i64 ((s.embs:Int) + 1))).1) 3;have m4:=cells_at ((HSS.out (.int .i64 ((s.embs:Int) + 1))).1) 4;have l0:=frozen_at ((HSS.out (.int .i64 ((s.embs:Int) + 1))).1) 0;have l1:=frozen_at ((HSS.out (.int .i64 ((s.embs:Int) + 1))).1) 1;have l2:=frozen_at ((HSS.out (.int .i64 ((s.embs:Int) + 1))).1) 2;have l3:=frozen_at ((HSS.out (.int .i64 ((s.embs:Int) + 1))).1) 3;have l4:=frozen_at ((HSS.out (.int .i64 ((s.embs:Int) + 1))).1) 4;clear b2))
 exact step_doneW (t:=s.next 18 auto) HP.out (HSS.out _).2 HOK.out HCNT.out (by rw [HNEXT.out,HNL.out]) (by rw [HNEXT.out]) (by rw [HNEXT.out];rfl) (by rw [HNEXT.out]) (by rw [HNEXT.out];exact (HOW.out _ HB2.out).stored_other ⟨N,3,none⟩ _ HP.out.apart0) HP.out.apart (HSS.out _).1 (-1) 18 false _ rfl rfl rfl rfl
set_option maxRecDepth 20000 in
set_option maxHeartbeats 8000000 in
theorem rstep_no18p (w V:World) (B base N:Nat) (s:St) (pa:Option Addr) (pc auto:Nat) (hp:RPre w V B base N s pa pc) (hb1:base≤1) (hok:Ok base s) (hl:s.l.length≤1048590) (hi:s.isos≤1048590) (he:s.embs≤1048590) (hr:s.room true = false) (hz:0 < s.isos):
 Calls Tryz.prog 89 #[.agg #[.int .i8 base,.slice pa s.l.length pc,.int .i64 s.isos,.int .i64 s.embs,.int .i64 s.valid],.int .u8 18,.int .i8 auto] w (RStepP w B base s pa):=by
 obtain ⟨e,r,n,kp,hs,htop,hlev,hn,hrn,HP,HBX,HOW,HNX,HRM,HWI,HPL,HLA,HEQ,HNN,HS⟩:=rall hp hb1 hok hl
 rw [← hn]
 have hroom:(decide (nextLevel e.level true≤125) && s.isos == 0 && s.embs == 0) = false:=by rw [← htop];exact hr
 obtain ⟨K,hK⟩:∃ K,K = nextLevel e.level true:=⟨_,rfl⟩
 rw [← hK] at hroom
 have hK2:K≤127:=by rw [hK];unfold nextLevel;split <;> omega
 have hK3:(K:Int)≤127:=by omega
 have hK4:(0:Int)≤(K:Int):=by omega
 have he2:(s.embs:Int)≤1048590:=by omega
 have he3:(0:Int)≤(s.embs:Int):=by omega
 have hz2:((s.isos:Int) == 0) = false:=by simp <;> omega
 have HN1:=Lib.hid (fun w' h => HNX.out w' true h)
 rw [← hK] at HN1
 have HR1:=Lib.hid (fun w' => HRM.out w' K)
 rw [hroom] at HR1
 have HNEXT:=Lib.hid (next_no (s:=s) (auto:=auto) (c:=18) (odd:=true) (by omega) rfl hr)
 rw [if_neg (by omega)] at HNEXT
 have HOK:=Lib.hid (hok.next (by omega) 18 auto)
 have HCNT:=Lib.hid (next_counts s 18 auto)
 have HNL:=Lib.hid hn
 clear hp hok hr hroom hs htop hlev hn hrn hK hz
 go_enter Tryz.func89,Tryz.ntmps89
 go_upto_region 1 with (fail)
 rw [← HNN.out,← HEQ.out]
 go_wp2_with (first
  | (with_reducible refine wpList_load_row rfl 155 _ rfl N rfl 155 _ (0,0) _ (HBX.out _ (by first | exact HB4.out | exact HB5.out _ _ | exact HB3.out _ | exact HB2.out | exact HB1.out | exact Below.refl _ _)).1 Tryz.underlying155 rfl (by kernel_rfl) ?_)
  | fail
  | (go_at_call 119;refine (HN1.out _ (by rw [← HS.out];exact HOW.out _ (by first | exact HB4.out | exact HB5.out _ _ | exact HB3.out _ | exact HB2.out | exact HB1.out | exact Below.refl _ _))).mono ?_;rintro x w1 ⟨rfl,b1⟩;have HB1:Hid (Below V.heap.size V w1):=Lib.hid b1;clear b1)
  | (go_at_call 120;refine (HR1.out _).mono ?_;rintro x w2 ⟨rfl,b2⟩;have HB2:Hid (Below V.heap.size V w2):=Lib.hid (HB1.out.trans (b2.mono HB1.out.size));have c2:=cells_at (HBX.out _ HB2.out).1 2;have c3:=cells_at (HBX.out _ HB2.out).1 3;have f3:=frozen_at (HBX.out _ HB2.out).1 3;have HSS:=Lib.hid (fun v => (HP.out.stored HB2.out 3 v));have m0:=cells_at ((HBX.out _ HB2.out).2) 0;have m1:=cells_at ((HBX.out _ HB2.out).2) 1;have m2:=cells_at ((HBX.out _ HB2.out).2) 2;have m3:=cells_at ((HBX.out _ HB2.out).2) 3;have m4:=cells_at ((HBX.out _ HB2.out).2) 4;have l0:=frozen_at ((HBX.out _ HB2.out).2) 0;have l1:=frozen_at ((HBX.out _ HB2.out).2) 1;have l2:=frozen_at ((HBX.out _ HB2.out).2) 2;have l3:=frozen_at ((HBX.out _ HB2.out).2) 3;have l4:=frozen_at ((HBX.out _ HB2.out).2) 4;clear b2))
 exact step_done (t:=s.next 18 auto) HP.out HB2.out HOK.out HCNT.out (by rw [HNEXT.out,HNL.out]) (by rw [HNEXT.out]) (by rw [HNEXT.out]) (by rw [HNEXT.out]) (by rw [HNEXT.out];exact HOW.out _ HB2.out) HP.out.apart (HBX.out _ HB2.out).2 (-1) 18 false _ rfl rfl rfl rfl
set_option maxRecDepth 20000 in
set_option maxHeartbeats 8000000 in
theorem rstep_no16z (w V:World) (B base N:Nat) (s:St) (pa:Option Addr) (pc auto:Nat) (hp:RPre w V B base N s pa pc) (hb1:base≤1) (hok:Ok base s) (hl:s.l.length≤1048590) (hi:s.isos≤1048590) (he:s.embs≤1048590) (hr:s.room false = false) (hz:s.isos = 0):
 Calls Tryz.prog 89 #[.agg #[.int .i8 base,.slice pa s.l.length pc,.int .i64 s.isos,.int .i64 s.embs,.int .i64 s.valid],.int .u8 16,.int .i8 auto] w (RStepP w B base s pa):=by
 obtain ⟨e,r,n,kp,hs,htop,hlev,hn,hrn,HP,HBX,HOW,HNX,HRM,HWI,HPL,HLA,HEQ,HNN,HS⟩:=rall hp hb1 hok hl
 rw [← hn]
 have hroom:(decide (nextLevel e.level false≤125) && s.isos == 0 && s.embs == 0) = false:=by rw [← htop];exact hr
 obtain ⟨K,hK⟩:∃ K,K = nextLevel e.level false:=⟨_,rfl⟩
 rw [← hK] at hroom
 have hK2:K≤127:=by rw [hK];unfold nextLevel;split <;> omega
 have hK3:(K:Int)≤127:=by omega
 have hK4:(0:Int)≤(K:Int):=by omega
 have he2:(s.embs:Int)≤1048590:=by omega
 have he3:(0:Int)≤(s.embs:Int):=by omega
 have hz2:((s.isos:Int) == 0) = true:=by simp <;> omega
 have HN1:=Lib.hid (fun w' h => HNX.out w' false h)
 rw [← hK] at HN1
 have HR1:=Lib.hid (fun w' => HRM.out w' K)
 rw [hroom] at HR1
 have HNEXT:=Lib.hid (next_no (s:=s) (auto:=auto) (c:=16) (odd:=false) (by omega) rfl hr)
 rw [if_pos hz] at HNEXT
 have HOK:=Lib.hid (hok.next (by omega) 16 auto)
 have HCNT:=Lib.hid (next_counts s 16 auto)
 have HNL:=Lib.hid hn
 clear hp hok hr hroom hs htop hlev hn hrn hK hz
 go_enter Tryz.func89,Tryz.ntmps89
 go_upto_region 1 with (fail)
 rw [← HNN.out,← HEQ.out]
 go_wp2_with (first
  | (with_reducible refine wpList_load_row rfl 155 _ rfl N rfl 155 _ (0,0) _ (HBX.out _ (by first | exact HB4.out | exact HB5.out _ _ | exact HB3.out _ | exact HB2.out | exact HB1.out | exact Below.refl _ _)).1 Tryz.underlying155 rfl (by kernel_rfl) ?_)
  | (with_reducible refine wpList_load_row rfl 155 _ rfl N rfl 155 _ (0,0) _ (set3_of5 (HBX.out _ HB2.out).1 _) Tryz.underlying155 rfl (by kernel_rfl) ?_)
  | (go_at_call 119;refine (HN1.out _ (by rw [← HS.out];exact HOW.out _ (by first | exact HB4.out | exact HB5.out _ _ | exact HB3.out _ | exact HB2.out | exact HB1.out | exact Below.refl _ _))).mono ?_;rintro x w1 ⟨rfl,b1⟩;have HB1:Hid (Below V.heap.size V w1):=Lib.hid b1;clear b1)
  | (go_at_call 120;refine (HR1.out _).mono ?_;rintro x w2 ⟨rfl,b2⟩;have HB2:Hid (Below V.heap.size V w2):=Lib.hid (HB1.out.trans (b2.mono HB1.out.size));have c2:=cells_at (HBX.out _ HB2.out).1 2;have c3:=cells_at (HBX.out _ HB2.out).1 3;have f3:=frozen_at (HBX.out _ HB2.out).1 3;have HSS:=Lib.hid (fun v => (HP.out.stored HB2.out 3 v));have m0:=cells_at ((HSS.out (.int .i64 ((s.embs:Int) + 1))).1) 0;have m1:=cells_at ((HSS.out (.int .i64 ((s.embs:Int) + 1))).1) 1;have m2:=cells_at ((HSS.out (.int .i64 ((s.embs:Int) + 1))).1) 2;have m3:=cells_at ((HSS.out (.int .i64 ((s.embs:Int) + 1))).1) 3;have m4:=cells_at ((HSS.out (.int .i64 ((s.embs:Int) + 1))).1) 4;have l0:=frozen_at ((HSS.out (.int .i64 ((s.embs:Int) + 1))).1) 0;have l1:=frozen_at ((HSS.out (.int .i64 ((s.embs:Int) + 1))).1) 1;have l2:=frozen_at ((HSS.out (.int .i64 ((s.embs:Int) + 1))).1) 2;have l3:=frozen_at ((HSS.out (.int .i64 ((s.embs:Int) + 1))).1) 3;have l4:=frozen_at ((HSS.out (.int .i64 ((s.embs:Int) + 1))).1) 4;clear b2))
 exact step_doneW (t:=s.next 16 auto) HP.out (HSS.out _).2 HOK.out HCNT.out (by rw [HNEXT.out,HNL.out]) (by rw [HNEXT.out]) (by rw [HNEXT.out];rfl) (by rw [HNEXT.out]) (by rw [HNEXT.out];exact (HOW.out _ HB2.out).stored_other ⟨N,3,none⟩ _ HP.out.apart0) HP.out.apart (HSS.out _).1 (-1) 16 false _ rfl rfl rfl rfl
set_option maxRecDepth 20000 in
set_option maxHeartbeats 8000000 in
theorem rstep_no16p (w V:World) (B base N:Nat) (s:St) (pa:Option Addr) (pc auto:Nat) (hp:RPre w V B base N s pa pc) (hb1:base≤1) (hok:Ok base s) (hl:s.l.length≤1048590) (hi:s.isos≤1048590) (he:s.embs≤1048590) (hr:s.room false = false) (hz:0 < s.isos):
 Calls Tryz.prog 89 #[.agg #[.int .i8 base,.slice pa s.l.length pc,.int .i64 s.isos,.int .i64 s.embs,.int .i64 s.valid],.int .u8 16,.int .i8 auto] w (RStepP w B base s pa):=by
 obtain ⟨e,r,n,kp,hs,htop,hlev,hn,hrn,HP,HBX,HOW,HNX,HRM,HWI,HPL,HLA,HEQ,HNN,HS⟩:=rall hp hb1 hok hl
 rw [← hn]
 have hroom:(decide (nextLevel e.level false≤125) && s.isos == 0 && s.embs == 0) = false:=by rw [← htop];exact hr
 obtain ⟨K,hK⟩:∃ K,K = nextLevel e.level false:=⟨_,rfl⟩
 rw [← hK] at hroom
 have hK2:K≤127:=by rw [hK];unfold nextLevel;split <;> omega
 have hK3:(K:Int)≤127:=by omega
 have hK4:(0:Int)≤(K:Int):=by omega
 have he2:(s.embs:Int)≤1048590:=by omega
 have he3:(0:Int)≤(s.embs:Int):=by omega
 have hz2:((s.isos:Int) == 0) = false:=by simp <;> omega
 have HN1:=Lib.hid (fun w' h => HNX.out w' false h)
 rw [← hK] at HN1
 have HR1:=Lib.hid (fun w' => HRM.out w' K)
 rw [hroom] at HR1
 have HNEXT:=Lib.hid (next_no (s:=s) (auto:=auto) (c:=16) (odd:=false) (by omega) rfl hr)
 rw [if_neg (by omega)] at HNEXT
 have HOK:=Lib.hid (hok.next (by omega) 16 auto)
 have HCNT:=Lib.hid (next_counts s 16 auto)
 have HNL:=Lib.hid hn
 clear hp hok hr hroom hs htop hlev hn hrn hK hz
 go_enter Tryz.func89,Tryz.ntmps89
 go_upto_region 1 with (fail)
 rw [← HNN.out,← HEQ.out]
 go_wp2_with (first
  | (with_reducible refine wpList_load_row rfl 155 _ rfl N rfl 155 _ (0,0) _ (HBX.out _ (by first | exact HB4.out | exact HB5.out _ _ | exact HB3.out _ | exact HB2.out | exact HB1.out | exact Below.refl _ _)).1 Tryz.underlying155 rfl (by kernel_rfl) ?_)
  | fail
  | (go_at_call 119;refine (HN1.out _ (by rw [← HS.out];exact HOW.out _ (by first | exact HB4.out | exact HB5.out _ _ | exact HB3.out _ | exact HB2.out | exact HB1.out | exact Below.refl _ _))).mono ?_;rintro x w1 ⟨rfl,b1⟩;have HB1:Hid (Below V.heap.size V w1):=Lib.hid b1;clear b1)
  | (go_at_call 120;refine (HR1.out _).mono ?_;rintro x w2 ⟨rfl,b2⟩;have HB2:Hid (Below V.heap.size V w2):=Lib.hid (HB1.out.trans (b2.mono HB1.out.size));have c2:=cells_at (HBX.out _ HB2.out).1 2;have c3:=cells_at (HBX.out _ HB2.out).1 3;have f3:=frozen_at (HBX.out _ HB2.out).1 3;have HSS:=Lib.hid (fun v => (HP.out.stored HB2.out 3 v));have m0:=cells_at ((HBX.out _ HB2.out).2) 0;have m1:=cells_at ((HBX.out _ HB2.out).2) 1;have m2:=cells_at ((HBX.out _ HB2.out).2) 2;have m3:=cells_at ((HBX.out _ HB2.out).2) 3;have m4:=cells_at ((HBX.out _ HB2.out).2) 4;have l0:=frozen_at ((HBX.out _ HB2.out).2) 0;have l1:=frozen_at ((HBX.out _ HB2.out).2) 1;have l2:=frozen_at ((HBX.out _ HB2.out).2) 2;have l3:=frozen_at ((HBX.out _ HB2.out).2) 3;have l4:=frozen_at ((HBX.out _ HB2.out).2) 4;clear b2))
 exact step_done (t:=s.next 16 auto) HP.out HB2.out HOK.out HCNT.out (by rw [HNEXT.out,HNL.out]) (by rw [HNEXT.out]) (by rw [HNEXT.out]) (by rw [HNEXT.out]) (by rw [HNEXT.out];exact HOW.out _ HB2.out) HP.out.apart (HBX.out _ HB2.out).2 (-1) 16 false _ rfl rfl rfl rfl
set_option maxRecDepth 20000 in
set_option maxHeartbeats 8000000 in
theorem rstep_room17 (w V:World) (B base N:Nat) (s:St) (pa:Option Addr) (pc auto:Nat) (hp:RPre w V B base N s pa pc) (hb1:base≤1) (hok:Ok base s) (hl:s.l.length≤1048590) (hi:s.isos≤1048590) (he:s.embs≤1048590) (hr:s.room true = true):
 Calls Tryz.prog 89 #[.agg #[.int .i8 base,.slice pa s.l.length pc,.int .i64 s.isos,.int .i64 s.embs,.int .i64 s.valid],.int .u8 17,.int .i8 auto] w (RStepP w B base s pa):=by
 obtain ⟨e,r,n,kp,hs,htop,hlev,hn,hrn,HP,HBX,HOW,HNX,HRM,HWI,HPL,HLA,HEQ,HNN,HS⟩:=rall hp hb1 hok hl
 rw [← hn]
 have hroom:(decide (nextLevel e.level true≤125) && s.isos == 0 && s.embs == 0) = true:=by rw [← htop];exact hr
 obtain ⟨K,hK⟩:∃ K,K = nextLevel e.level true:=⟨_,rfl⟩
 rw [← hK] at hroom
 have hK2:K≤125:=by simp at hroom;exact hroom.1.1
 have hK3:(K:Int)≤125:=by omega
 have hK4:(0:Int)≤(K:Int):=by omega
 have HN1:=Lib.hid (fun w' h => HNX.out w' true h)
 rw [← hK] at HN1
 have HR1:=Lib.hid (fun w' => HRM.out w' K)
 rw [hroom] at HR1
 have HNEXT:=Lib.hid (next_room (s:=s) (auto:=auto) (c:=17) (odd:=true) (by omega) rfl hr)
 have HOK:=Lib.hid (hok.next (by omega) 17 auto)
 have HCNT:=Lib.hid (next_counts s 17 auto)
 have HPUT:Hid (s.put true 0 false = { s with l:=⟨K,0,false⟩ :: s.l }):=Lib.hid (by unfold St.put;rw [htop,hK])
 have HNL:=Lib.hid hn
 clear hp hok hr hroom hs htop hlev hn hrn hK
 go_enter Tryz.func89,Tryz.ntmps89
 go_upto_region 1 with (fail)
 rw [← HNN.out,← HEQ.out]
 go_wp2_with (first
  | (with_reducible refine wpList_load_row rfl 155 _ rfl N rfl 155 _ (0,0) _ (HBX.out _ (by first | exact HB4.out | exact HB5.out _ _ | exact HB3.out _ | exact HB2.out | exact HB1.out | exact Below.refl _ _)).1 Tryz.underlying155 rfl (by kernel_rfl) ?_)
  | (with_reducible refine wpList_load_row rfl 196 _ rfl _ rfl 196 _ (0,0) _ (heap_alloc_new _ _) Tryz.underlying196 rfl (by kernel_rfl) ?_)
  | (go_at_call 119;refine (HN1.out _ (by rw [← HS.out];exact HOW.out _ (by first | exact HB4.out | exact HB5.out _ _ | exact HB3.out _ | exact HB2.out | exact HB1.out | exact Below.refl _ _))).mono ?_;rintro x w1 ⟨rfl,b1⟩;have HB1:Hid (Below V.heap.size V w1):=Lib.hid b1;clear b1)
  | (go_at_call 120;refine (HR1.out _).mono ?_;rintro x w2 ⟨rfl,b2⟩;have HB2:Hid (Below V.heap.size V w2):=Lib.hid (HB1.out.trans (b2.mono HB1.out.size));have HB3:Hid (∀ o,Below V.heap.size V (w2.alloc o)):=Lib.hid (fun o => HB2.out.alloc HB2.out.size o);have HB5:Hid (∀ o v,Below V.heap.size V ((w2.alloc o).setCell ⟨w2.heap.size,1,none⟩ v)):=Lib.hid (fun o v => (HB3.out o).setCell (p:=⟨w2.heap.size,1,none⟩) HB2.out.size v);clear b2)
  | (go_at_call 121;refine (HWI.out _ ⟨K,0,false⟩ (HOW.out _ (HB3.out _))).mono ?_;rintro x w4 ⟨qa,qc,rfl,o4,b4⟩;have HO4:=Lib.hid (o4.mono (show B≤_ from Nat.le_trans (Nat.le_trans HP.out.ge HP.out.below.size) (HB3.out _).size));have HNE:=Lib.hid (HP.out.apart2 (HB3.out _).size o4);have HB4:Hid (Below V.heap.size V w4):=Lib.hid ((HB3.out _).trans (b4.mono (HB3.out _).size));have m0:=cells_at ((HBX.out _ HB4.out).2) 0;have m1:=cells_at ((HBX.out _ HB4.out).2) 1;have m2:=cells_at ((HBX.out _ HB4.out).2) 2;have m3:=cells_at ((HBX.out _ HB4.out).2) 3;have m4:=cells_at ((HBX.out _ HB4.out).2) 4;have l0:=frozen_at ((HBX.out _ HB4.out).2) 0;have l1:=frozen_at ((HBX.out _ HB4.out).2) 1;have l2:=frozen_at ((HBX.out _ HB4.out).2) 2;have l3:=frozen_at ((HBX.out _ HB4.out).2) 3;have l4:=frozen_at ((HBX.out _ HB4.out).2) 4;clear o4 b4))
 exact step_done (t:=s.next 17 auto) HP.out HB4.out HOK.out HCNT.out (by rw [HNEXT.out];show (s.put true 0 false).l.length = n + 1;rw [HPUT.out,HNL.out];rfl) (by rw [HNEXT.out];rfl) (by rw [HNEXT.out];rfl) (by rw [HNEXT.out];rfl) (by rw [HNEXT.out];show Own w4 B 3 qa (n + 1) qc (entsV (s.put true 0 false).l);rw [HPUT.out];exact HO4.out) HNE.out (HBX.out _ HB4.out).2 (-1) 17 false _ rfl rfl rfl rfl
set_option maxRecDepth 20000 in
set_option maxHeartbeats 8000000 in
theorem rstep_room15 (w V:World) (B base N:Nat) (s:St) (pa:Option Addr) (pc auto:Nat) (hp:RPre w V B base N s pa pc) (hb1:base≤1) (hok:Ok base s) (hl:s.l.length≤1048590) (hi:s.isos≤1048590) (he:s.embs≤1048590) (hr:s.room false = true):
 Calls Tryz.prog 89 #[.agg #[.int .i8 base,.slice pa s.l.length pc,.int .i64 s.isos,.int .i64 s.embs,.int .i64 s.valid],.int .u8 15,.int .i8 auto] w (RStepP w B base s pa):=by
 obtain ⟨e,r,n,kp,hs,htop,hlev,hn,hrn,HP,HBX,HOW,HNX,HRM,HWI,HPL,HLA,HEQ,HNN,HS⟩:=rall hp hb1 hok hl
 rw [← hn]
 have hroom:(decide (nextLevel e.level false≤125) && s.isos == 0 && s.embs == 0) = true:=by rw [← htop];exact hr
 obtain ⟨K,hK⟩:∃ K,K = nextLevel e.level false:=⟨_,rfl⟩
 rw [← hK] at hroom
 have hK2:K≤125:=by simp at hroom;exact hroom.1.1
 have hK3:(K:Int)≤125:=by omega
 have hK4:(0:Int)≤(K:Int):=by omega
 have HN1:=Lib.hid (fun w' h => HNX.out w' false h)
 rw [← hK] at HN1
 have HR1:=Lib.hid (fun w' => HRM.out w' K)
 rw [hroom] at HR1
 have HNEXT:=Lib.hid (next_room (s:=s) (auto:=auto) (c:=15) (odd:=false) (by omega) rfl hr)
 have HOK:=Lib.hid (hok.next (by omega) 15 auto)
 have HCNT:=Lib.hid (next_counts s 15 auto)
 have HPUT:Hid (s.put false 0 false = { s with l:=⟨K,0,false⟩ :: s.l }):=Lib.hid (by unfold St.put;rw [htop,hK])
 have HNL:=Lib.hid hn
 clear hp hok hr hroom hs htop hlev hn hrn hK
 go_enter Tryz.func89,Tryz.ntmps89
 go_upto_region 1 with (fail)
 rw [← HNN.out,← HEQ.out]
 go_wp2_with (first
  | (with_reducible refine wpList_load_row rfl 155 _ rfl N rfl 155 _ (0,0) _ (HBX.out _ (by first | exact HB4.out | exact HB5.out _ _ | exact HB3.out _ | exact HB2.out | exact HB1.out | exact Below.refl _ _)).1 Tryz.underlying155 rfl (by kernel_rfl) ?_)
  | (with_reducible refine wpList_load_row rfl 196 _ rfl _ rfl 196 _ (0,0) _ (heap_alloc_new _ _) Tryz.underlying196 rfl (by kernel_rfl) ?_)
  | (go_at_call 119;refine (HN1.out _ (by rw [← HS.out];exact HOW.out _ (by first | exact HB4.out | exact HB5.out _ _ | exact HB3.out _ | exact HB2.out | exact HB1.out | exact Below.refl _ _))).mono ?_;rintro x w1 ⟨rfl,b1⟩;have HB1:Hid (Below V.heap.size V w1):=Lib.hid b1;clear b1)
  | (go_at_call 120;refine (HR1.out _).mono ?_;rintro x w2 ⟨rfl,b2⟩;have HB2:Hid (Below V.heap.size V w2):=Lib.hid (HB1.out.trans (b2.mono HB1.out.size));have HB3:Hid (∀ o,Below V.heap.size V (w2.alloc o)):=Lib.hid (fun o => HB2.out.alloc HB2.out.size o);have HB5:Hid (∀ o v,Below V.heap.size V ((w2.alloc o).setCell ⟨w2.heap.size,1,none⟩ v)):=Lib.hid (fun o v => (HB3.out o).setCell (p:=⟨w2.heap.size,1,none⟩) HB2.out.size v);clear b2)
  | (go_at_call 121;refine (HWI.out _ ⟨K,0,false⟩ (HOW.out _ (HB3.out _))).mono ?_;rintro x w4 ⟨qa,qc,rfl,o4,b4⟩;have HO4:=Lib.hid (o4.mono (show B≤_ from Nat.le_trans (Nat.le_trans HP.out.ge HP.out.below.size) (HB3.out _).size));have HNE:=Lib.hid (HP.out.apart2 (HB3.out _).size o4);have HB4:Hid (Below V.heap.size V w4):=Lib.hid ((HB3.out _).trans (b4.mono (HB3.out _).size));have m0:=cells_at ((HBX.out _ HB4.out).2) 0;have m1:=cells_at ((HBX.out _ HB4.out).2) 1;have m2:=cells_at ((HBX.out _ HB4.out).2) 2;have m3:=cells_at ((HBX.out _ HB4.out).2) 3;have m4:=cells_at ((HBX.out _ HB4.out).2) 4;have l0:=frozen_at ((HBX.out _ HB4.out).2) 0;have l1:=frozen_at ((HBX.out _ HB4.out).2) 1;have l2:=frozen_at ((HBX.out _ HB4.out).2) 2;have l3:=frozen_at ((HBX.out _ HB4.out).2) 3;have l4:=frozen_at ((HBX.out _ HB4.out).2) 4;clear o4 b4))
 exact step_done (t:=s.next 15 auto) HP.out HB4.out HOK.out HCNT.out (by rw [HNEXT.out];show (s.put false 0 false).l.length = n + 1;rw [HPUT.out,HNL.out];rfl) (by rw [HNEXT.out];rfl) (by rw [HNEXT.out];rfl) (by rw [HNEXT.out];rfl) (by rw [HNEXT.out];show Own w4 B 3 qa (n + 1) qc (entsV (s.put false 0 false).l);rw [HPUT.out];exact HO4.out) HNE.out (HBX.out _ HB4.out).2 (-1) 15 false _ rfl rfl rfl rfl
set_option maxRecDepth 20000 in
set_option maxHeartbeats 8000000 in
theorem rstep_room18 (w V:World) (B base N:Nat) (s:St) (pa:Option Addr) (pc auto:Nat) (hp:RPre w V B base N s pa pc) (hb1:base≤1) (hok:Ok base s) (hl:s.l.length≤1048590) (hi:s.isos≤1048590) (he:s.embs≤1048590) (hr:s.room true = true):
 Calls Tryz.prog 89 #[.agg #[.int .i8 base,.slice pa s.l.length pc,.int .i64 s.isos,.int .i64 s.embs,.int .i64 s.valid],.int .u8 18,.int .i8 auto] w (RStepP w B base s pa):=by
 obtain ⟨e,r,n,kp,hs,htop,hlev,hn,hrn,HP,HBX,HOW,HNX,HRM,HWI,HPL,HLA,HEQ,HNN,HS⟩:=rall hp hb1 hok hl
 rw [← hn]
 have hroom:(decide (nextLevel e.level true≤125) && s.isos == 0 && s.embs == 0) = true:=by rw [← htop];exact hr
 obtain ⟨K,hK⟩:∃ K,K = nextLevel e.level true:=⟨_,rfl⟩
 rw [← hK] at hroom
 have hK2:K≤125:=by simp at hroom;exact hroom.1.1
 have hK3:(K:Int)≤125:=by omega
 have hK4:(0:Int)≤(K:Int):=by omega
 have HN1:=Lib.hid (fun w' h => HNX.out w' true h)
 rw [← hK] at HN1
 have HR1:=Lib.hid (fun w' => HRM.out w' K)
 rw [hroom] at HR1
 have HNEXT:=Lib.hid (next_room (s:=s) (auto:=auto) (c:=18) (odd:=true) (by omega) rfl hr)
 have HOK:=Lib.hid (hok.next (by omega) 18 auto)
 have HCNT:=Lib.hid (next_counts s 18 auto)
 have HPUT:Hid (s.put true 2 false = { s with l:=⟨K,2,false⟩ :: s.l }):=Lib.hid (by unfold St.put;rw [htop,hK])
 have HNL:=Lib.hid hn
 clear hp hok hr hroom hs htop hlev hn hrn hK
 go_enter Tryz.func89,Tryz.ntmps89
 go_upto_region 1 with (fail)
 rw [← HNN.out,← HEQ.out]
 go_wp2_with (first
  | (with_reducible refine wpList_load_row rfl 155 _ rfl N rfl 155 _ (0,0) _ (HBX.out _ (by first | exact HB4.out | exact HB5.out _ _ | exact HB3.out _ | exact HB2.out | exact HB1.out | exact Below.refl _ _)).1 Tryz.underlying155 rfl (by kernel_rfl) ?_)
  | (with_reducible refine wpList_load_row rfl 196 _ rfl _ rfl 196 _ (0,0) _ (heap_alloc_new _ _) Tryz.underlying196 rfl (by kernel_rfl) ?_)
  | (go_at_call 119;refine (HN1.out _ (by rw [← HS.out];exact HOW.out _ (by first | exact HB4.out | exact HB5.out _ _ | exact HB3.out _ | exact HB2.out | exact HB1.out | exact Below.refl _ _))).mono ?_;rintro x w1 ⟨rfl,b1⟩;have HB1:Hid (Below V.heap.size V w1):=Lib.hid b1;clear b1)
  | (go_at_call 120;refine (HR1.out _).mono ?_;rintro x w2 ⟨rfl,b2⟩;have HB2:Hid (Below V.heap.size V w2):=Lib.hid (HB1.out.trans (b2.mono HB1.out.size));have HB3:Hid (∀ o,Below V.heap.size V (w2.alloc o)):=Lib.hid (fun o => HB2.out.alloc HB2.out.size o);have HB5:Hid (∀ o v,Below V.heap.size V ((w2.alloc o).setCell ⟨w2.heap.size,1,none⟩ v)):=Lib.hid (fun o v => (HB3.out o).setCell (p:=⟨w2.heap.size,1,none⟩) HB2.out.size v);clear b2)
  | (go_at_call 121;refine (HWI.out _ ⟨K,2,false⟩ (HOW.out _ (HB3.out _))).mono ?_;rintro x w4 ⟨qa,qc,rfl,o4,b4⟩;have HO4:=Lib.hid (o4.mono (show B≤_ from Nat.le_trans (Nat.le_trans HP.out.ge HP.out.below.size) (HB3.out _).size));have HNE:=Lib.hid (HP.out.apart2 (HB3.out _).size o4);have HB4:Hid (Below V.heap.size V w4):=Lib.hid ((HB3.out _).trans (b4.mono (HB3.out _).size));have m0:=cells_at ((HBX.out _ HB4.out).2) 0;have m1:=cells_at ((HBX.out _ HB4.out).2) 1;have m2:=cells_at ((HBX.out _ HB4.out).2) 2;have m3:=cells_at ((HBX.out _ HB4.out).2) 3;have m4:=cells_at ((HBX.out _ HB4.out).2) 4;have l0:=frozen_at ((HBX.out _ HB4.out).2) 0;have l1:=frozen_at ((HBX.out _ HB4.out).2) 1;have l2:=frozen_at ((HBX.out _ HB4.out).2) 2;have l3:=frozen_at ((HBX.out _ HB4.out).2) 3;have l4:=frozen_at ((HBX.out _ HB4.out).2) 4;clear o4 b4))
 exact step_done (t:=s.next 18 auto) HP.out HB4.out HOK.out HCNT.out (by rw [HNEXT.out];show (s.put true 2 false).l.length = n + 1;rw [HPUT.out,HNL.out];rfl) (by rw [HNEXT.out];rfl) (by rw [HNEXT.out];rfl) (by rw [HNEXT.out];rfl) (by rw [HNEXT.out];show Own w4 B 3 qa (n + 1) qc (entsV (s.put true 2 false).l);rw [HPUT.out];exact HO4.out) HNE.out (HBX.out _ HB4.out).2 (-1) 18 false _ rfl rfl rfl rfl
set_option maxRecDepth 20000 in
set_option maxHeartbeats 8000000 in
theorem rstep_room16 (w V:World) (B base N:Nat) (s:St) (pa:Option Addr) (pc auto:Nat) (hp:RPre w V B base N s pa pc) (hb1:base≤1) (hok:Ok base s) (hl:s.l.length≤1048590) (hi:s.isos≤1048590) (he:s.embs≤1048590) (hr:s.room false = true):
 Calls Tryz.prog 89 #[.agg #[.int .i8 base,.slice pa s.l.length pc,.int .i64 s.isos,.int .i64 s.embs,.int .i64 s.valid],.int .u8 16,.int .i8 auto] w (RStepP w B base s pa):=by
 obtain ⟨e,r,n,kp,hs,htop,hlev,hn,hrn,HP,HBX,HOW,HNX,HRM,HWI,HPL,HLA,HEQ,HNN,HS⟩:=rall hp hb1 hok hl
 rw [← hn]
 have hroom:(decide (nextLevel e.level false≤125) && s.isos == 0 && s.embs == 0) = true:=by rw [← htop];exact hr
 obtain ⟨K,hK⟩:∃ K,K = nextLevel e.level false:=⟨_,rfl⟩
 rw [← hK] at hroom
 have hK2:K≤125:=by simp at hroom;exact hroom.1.1
 have hK3:(K:Int)≤125:=by omega
 have hK4:(0:Int)≤(K:Int):=by omega
 have HN1:=Lib.hid (fun w' h => HNX.out w' false h)
 rw [← hK] at HN1
 have HR1:=Lib.hid (fun w' => HRM.out w' K)
 rw [hroom] at HR1
 have HNEXT:=Lib.hid (next_room (s:=s) (auto:=auto) (c:=16) (odd:=false) (by omega) rfl hr)
 have HOK:=Lib.hid (hok.next (by omega) 16 auto)
 have HCNT:=Lib.hid (next_counts s 16 auto)
 have HPUT:Hid (s.put false 1 false = { s with l:=⟨K,1,false⟩ :: s.l }):=Lib.hid (by unfold St.put;rw [htop,hK])
 have HNL:=Lib.hid hn
 clear hp hok hr hroom hs htop hlev hn hrn hK
 go_enter Tryz.func89,Tryz.ntmps89
 go_upto_region 1 with (fail)
 rw [← HNN.out,← HEQ.out]
 go_wp2_with (first
  | (with_reducible refine wpList_load_row rfl 155 _ rfl N rfl 155 _ (0,0) _ (HBX.out _ (by first | exact HB4.out | exact HB5.out _ _ | exact HB3.out _ | exact HB2.out | exact HB1.out | exact Below.refl _ _)).1 Tryz.underlying155 rfl (by kernel_rfl) ?_)
  | (with_reducible refine wpList_load_row rfl 196 _ rfl _ rfl 196 _ (0,0) _ (heap_alloc_new _ _) Tryz.underlying196 rfl (by kernel_rfl) ?_)
  | (go_at_call 119;refine (HN1.out _ (by rw [← HS.out];exact HOW.out _ (by first | exact HB4.out | exact HB5.out _ _ | exact HB3.out _ | exact HB2.out | exact HB1.out | exact Below.refl _ _))).mono ?_;rintro x w1 ⟨rfl,b1⟩;have HB1:Hid (Below V.heap.size V w1):=Lib.hid b1;clear b1)
  | (go_at_call 120;refine (HR1.out _).mono ?_;rintro x w2 ⟨rfl,b2⟩;have HB2:Hid (Below V.heap.size V w2):=Lib.hid (HB1.out.trans (b2.mono HB1.out.size));have HB3:Hid (∀ o,Below V.heap.size V (w2.alloc o)):=Lib.hid (fun o => HB2.out.alloc HB2.out.size o);have HB5:Hid (∀ o v,Below V.heap.size V ((w2.alloc o).setCell ⟨w2.heap.size,1,none⟩ v)):=Lib.hid (fun o v => (HB3.out o).setCell (p:=⟨w2.heap.size,1,none⟩) HB2.out.size v);clear b2)
  | (go_at_call 121;refine (HWI.out _ ⟨K,1,false⟩ (HOW.out _ (HB3.out _))).mono ?_;rintro x w4 ⟨qa,qc,rfl,o4,b4⟩;have HO4:=Lib.hid (o4.mono (show B≤_ from Nat.le_trans (Nat.le_trans HP.out.ge HP.out.below.size) (HB3.out _).size));have HNE:=Lib.hid (HP.out.apart2 (HB3.out _).size o4);have HB4:Hid (Below V.heap.size V w4):=Lib.hid ((HB3.out _).trans (b4.mono (HB3.out _).size));have m0:=cells_at ((HBX.out _ HB4.out).2) 0;have m1:=cells_at ((HBX.out _ HB4.out).2) 1;have m2:=cells_at ((HBX.out _ HB4.out).2) 2;have m3:=cells_at ((HBX.out _ HB4.out).2) 3;have m4:=cells_at ((HBX.out _ HB4.out).2) 4;have l0:=frozen_at ((HBX.out _ HB4.out).2) 0;have l1:=frozen_at ((HBX.out _ HB4.out).2) 1;have l2:=frozen_at ((HBX.out _ HB4.out).2) 2;have l3:=frozen_at ((HBX.out _ HB4.out).2) 3;have l4:=frozen_at ((HBX.out _ HB4.out).2) 4;clear o4 b4))
 exact step_done (t:=s.next 16 auto) HP.out HB4.out HOK.out HCNT.out (by rw [HNEXT.out];show (s.put false 1 false).l.length = n + 1;rw [HPUT.out,HNL.out];rfl) (by rw [HNEXT.out];rfl) (by rw [HNEXT.out];rfl) (by rw [HNEXT.out];rfl) (by rw [HNEXT.out];show Own w4 B 3 qa (n + 1) qc (entsV (s.put false 1 false).l);rw [HPUT.out];exact HO4.out) HNE.out (HBX.out _ HB4.out).2 (-1) 16 false _ rfl rfl rfl rfl
end Go.Proofs.YtjnidopbdjbbgaaGreat
