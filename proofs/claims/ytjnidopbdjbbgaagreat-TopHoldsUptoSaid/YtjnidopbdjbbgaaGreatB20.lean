/-
  Rules N1, N2: rest.Resolve, walked.
-/
import Derived.Test.YtjnidopbdjbbgaaGreatB19
import Derived.WalkMore
namespace Go.Proofs.YtjnidopbdjbbgaaGreat
open Go.RowKit
set_option linter.unusedVariables false
theorem n12_row (eos way:Nat) (a:List Nat) (ha:∀ c∈a,neutralB c = true):∀ (x n:Nat) (rest:List Nat),n12 eos way x n (a ++ rest) = n12 eos way x (n + a.length) rest:=by
 induction a with
 | nil => intro x n rest;rfl
 | cons c a ih =>
  intro x n rest
  rw [List.cons_append,n12,if_pos (ha c (by simp)),ih (fun d hd => ha d (by simp [hd])),List.length_cons]
  congr 1
  omega
/-- What a stretch of neutral classes becomes. -/
def neuOf (eos way x:Nat) (rest:List Nat):Nat:=match rest with | [] => if x = eos then x else way | c :: _ => if sideOf c = x then x else way
theorem n12_end (eos way x t:Nat) (rest:List Nat) (h:∀ c r,rest = c :: r→neutralB c = false) (y:Nat):n12 eos way x t rest = List.replicate t (neuOf eos way x rest) ++ n12 eos way y 0 rest:=by
 cases rest with
 | nil => simp [n12,neuOf]
 | cons c r =>
  have hc:=h c r rfl
  have e2:∀ z m,n12 eos way z m (c :: r) = List.replicate m (if sideOf c = z then z else way) ++ c :: n12 eos way (sideOf c) 0 r:=fun z m => by rw [n12,if_neg (by simp [hc])]
  rw [e2,e2]
  rfl
theorem neu_split (l:List Nat):∃ a rest,l = a ++ rest∧(∀ c∈a,neutralB c = true)∧∀ c r,rest = c :: r→neutralB c = false:=by
 induction l with
 | nil => exact ⟨[],[],rfl,by simp,by simp⟩
 | cons c l ih =>
  by_cases h:neutralB c = true
  · obtain ⟨a,rest,h1,h2,h3⟩:=ih
    exact ⟨c :: a,rest,by rw [h1];rfl,fun d hd => by rcases List.mem_cons.1 hd with rfl | hd;exact h;exact h2 d hd,h3⟩
  · exact ⟨[],c :: l,rfl,by simp,fun d r e => by cases e;simpa using h⟩
/-- Between two stretches. -/
structure Neu (eos way:Nat) (all:List Nat) (n:Nat) (done rest:List Nat) (x:Nat):Prop where
 eq:all = done ++ n12 eos way x 0 rest
 len:done.length + rest.length = n
 sub:∀ c∈rest,Settled c∨neutralB c = true
 edge:x = 1∨x = 2
theorem Neu.one {eos way n x c:Nat} {all done rest:List Nat} (h:Neu eos way all n done (c :: rest) x) (hc:neutralB c = false):Neu eos way all n (done ++ [c]) rest (sideOf c):=by
 refine ⟨?_,?_,fun d hd => h.sub d (by simp [hd]),?_⟩
 · rw [h.eq,n12,if_neg (by simp [hc])]
   simp
 · have:=h.len;simp at this ⊢;omega
 · have h1:=h.sub c (by simp)
   rw [hc] at h1
   unfold sideOf
   split <;> simp
theorem Neu.row {eos way n x:Nat} {all done a rest:List Nat} (h:Neu eos way all n done (a ++ rest) x) (ha:∀ c∈a,neutralB c = true) (hr:∀ c r,rest = c :: r→neutralB c = false):Neu eos way all n (done ++ List.replicate a.length (neuOf eos way x rest)) rest x:=by
 refine ⟨?_,?_,fun d hd => h.sub d (by simp [hd]),h.edge⟩
 · rw [h.eq,n12_row _ _ _ ha,Nat.zero_add,n12_end eos way x _ rest hr x,List.append_assoc]
 · have:=h.len;simp at this ⊢;omega
/-- A sequence's classes being turned. -/
structure RkAt (w wr:World) (B g c n:Nat) (xs:List Nat):Prop where
 own:Own wr B 1 (some ⟨g,0,none⟩) n c (xs.map u8V)
 kept:Kept (fun k => k = g) w wr
theorem RkAt.store {w wr:World} {B g c n:Nat} {xs:List Nat} (h:RkAt w wr B g c n xs) (k d:Nat) (hk:k < n):RkAt w (wr.setCell ⟨g,k,none⟩ (.int .u8 d)) B g c n (xs.set k d):=by
 refine ⟨?_,h.kept.setCell rfl _ _⟩
 have:=h.own.stored k hk (u8V d)
 refine this.eqL ?_
 rw [List.map_set]
set_option maxRecDepth 20000
set_option maxHeartbeats 8000000
theorem rest_any (w:World) (s:Sq) (hs:s.Ok) (hst:∀ c∈s.cs,Settled c∨neutralB c = true) (pa ca:Option Addr) (pc cc:Nat) (hi:s.In w pa ca):
 Calls Tryz.prog 26 #[s.val pa pc ca cc] w fun e w' => ∃ pa' pc' ca' cc',e = .returned (.tuple #[{ s with cs:=restOf s.sos s.eos (wayOf s.lv) s.cs }.val pa' pc' ca' cc',.int .i64 0])∧({ s with cs:=restOf s.sos s.eos (wayOf s.lv) s.cs }:Sq).In w' pa' ca'∧Below w.heap.size w w'∧FreshA w.heap.size pa'∧FreshA w.heap.size ca':=by
 have HCK:=Lib.hid (fun w h => check_any w s hs pa ca pc cc h)
 have HCP:=Lib.hid (fun w h => copy_any w s hs pa ca pc cc h)
 have HPOS:=Lib.hid hs.pos
 have HIN:=Lib.hid hi
 have HST:=Lib.hid hst
 have hbig:=hs.big
 have hsame:=hs.same
 have hlv:=hs.lv
 have HSOS:=Lib.hid hs.sos
 have HEOS:=Lib.hid hs.eos
 have HCL:=Lib.hid hs.cl
 obtain ⟨ps,cs,lv,sos,eos⟩:=s
 unfold Sq.val at HCK HCP ⊢
 simp only at HCK HCP HPOS HST hbig hsame hlv HSOS HEOS HCL ⊢
 have HWY:=Lib.hid (fun w => way_any w lv hlv)
 have HSD:=Lib.hid (fun w c => side_any w c)
 have HNE1:Hid (∀ w c,Cl c→Calls Tryz.prog 48 #[.int .u8 (c:Nat)] w fun e w' => e = .returned (.bool (neutralB c))∧w = w'):=Lib.hid (fun w c hc => by
  have h1:=neutral_any w c (cl_known hc).1 (cl_known hc).2.1
  refine h1.mono ?_
  rintro e w' ⟨rfl,rfl⟩
  refine ⟨?_,rfl⟩
  congr 2
  unfold Cl at hc
  rw [Bool.eq_iff_iff]
  simp [neutralB]
  omega)
 obtain ⟨n,hn⟩:∃ n,n = ps.length:=⟨_,rfl⟩
 rw [← hn] at HCK HCP HPOS hbig hsame ⊢
 have HSAME:=Lib.hid hsame
 clear hi hs hn hst hsame
 obtain ⟨O1,hO1⟩:∃ O,O = Obj.cells #[.slice pa n pc,.slice ca n cc,.int .i8 lv,.int .u8 sos,.int .u8 eos] 75:=⟨_,rfl⟩
 obtain ⟨O2,hO2⟩:∃ O,O = Obj.cells #[.slice none 0 0,.slice none 0 0,.int .i8 0,.int .u8 0,.int .u8 0] 75:=⟨_,rfl⟩
 have hw1:((w.alloc O1).alloc O2).heap[w.heap.size]? = some O1:=(Below.heap_alloc _ _ _ (by simp)).trans (heap_alloc_new w O1)
 have hw2:((w.alloc O1).alloc O2).heap[w.heap.size + 1]? = some O2:=by
  have:=heap_alloc_new (w.alloc O1) O2
  rwa [World.size_alloc] at this
 have HB0:Hid (Below w.heap.size w ((w.alloc O1).alloc O2)):=Lib.hid (((Below.refl _ _).alloc (Nat.le_refl _) _).alloc (by simp) _)
 have HSZ:Hid (((w.alloc O1).alloc O2).heap.size = w.heap.size + 2):=Lib.hid (by simp)
 have HW1:=Lib.hid hw1
 have HW2:=Lib.hid hw2
 subst hO1
 subst hO2
 clear hw1 hw2
 go_enter Tryz.func26,Tryz.ntmps26
 have hsv:∀ x,Settled x→sideV x = ((sideOf x:Int),true):=fun x hx => by
  rcases settled_cases hx with rfl | rfl | rfl | rfl <;> rfl
 have hnv:∀ x,neutralB x = true→sideV x = (0,false):=fun x hx => by
  unfold sideV
  unfold neutralB at hx
  simp at hx
  rw [if_neg (by omega),if_neg (by omega)]
 have hns:∀ x,Settled x→neutralB x = false:=fun x hx => by
  rcases settled_cases hx with rfl | rfl | rfl | rfl <;> rfl
 have HSV:=Lib.hid hsv
 have HNV:=Lib.hid hnv
 have HNS:=Lib.hid hns
 clear hsv hnv hns
 go_wp2_with fail
 go_step3
 go_wp2_with (go_at_call 46;refine (HCK.out _ (HIN.out.below HB0.out)).mono ?_;rintro e w1 ⟨rfl,hb1⟩;have HB1:=Lib.hid (HB0.out.trans (hb1.mono (by rw [HSZ.out];omega)));have HX1:=Lib.hid ((hb1.block w.heap.size (by rw [HSZ.out];omega)).trans HW1.out);have HY1:=Lib.hid ((hb1.block (w.heap.size + 1) (by rw [HSZ.out];omega)).trans HW2.out);have HS1:=Lib.hid (show w.heap.size + 2≤w1.heap.size by have:=hb1.size;rw [HSZ.out] at this;exact this);have b1:=cells_at HX1.out 1;clear hb1)
 go_loopg [25] n (fun r i wr => ∃ k:Nat,k + r = n∧i = .int .i64 k∧w1 = wr)
 case atStart => exact ⟨0,by omega,rfl,rfl⟩
 case round =>
  obtain ⟨k,hk,rfl,rfl⟩:=hrel
  by_cases hlt:k < n
  · obtain ⟨x,hx⟩:∃ x,cs[k]? = some x:=⟨_,List.getElem?_eq_getElem (by rw [HSAME.out];exact hlt)⟩
    obtain ⟨bb,oo,rfl,hcx⟩:=(HIN.out.cs.below HB1.out).getm hx
    unfold u8V at hcx
    have hxm:=List.mem_of_getElem? hx
    have HS:=Lib.hid (fun w => HSD.out w x)
    have HN:=Lib.hid (fun w => HNE1.out w x (HCL.out x hxm))
    have hset:=HST.out x hxm
    have HK:=Lib.hid hk
    have hk0:(0:Int)≤(k:Int):=by omega
    have hk1:(k:Int) < (n:Int):=by omega
    clear hx hk hxm
    by_cases hb:neutralB x = true
    · rw [HNV.out x hb] at HS
      rw [hb] at HN
      clear hset hb
      go_wp2_with (first | (go_at_call 47;refine (HS.out _).mono ?_;rintro e w2 ⟨rfl,rfl⟩) | (go_at_call 48;refine (HN.out _).mono ?_;rintro e w2 ⟨rfl,rfl⟩))
      go_roundg (gk - 1)
      case measure => have:=HK.out;omega
      case rel => exact ⟨k + 1,by have:=HK.out;omega,by go_num,rfl⟩
    · have hsx:Settled x:=by rcases hset with h | h;exact h;exact absurd h hb
      rw [HSV.out x hsx] at HS
      clear hset hb hsx
      go_wp2_with (first | (go_at_call 47;refine (HS.out _).mono ?_;rintro e w2 ⟨rfl,rfl⟩) | (go_at_call 48;refine (HN.out _).mono ?_;rintro e w2 ⟨rfl,rfl⟩))
      go_roundg (gk - 1)
      case measure => have:=HK.out;omega
      case rel => exact ⟨k + 1,by have:=HK.out;omega,by go_num,rfl⟩
  · obtain rfl:k = n:=by omega
    have b0:=cells_at HX1.out 0
    have b2:=cells_at HX1.out 2
    have b3:=cells_at HX1.out 3
    have b4:=cells_at HX1.out 4
    clear hk hlt
    go_wp2_with (go_at_call 49;refine (HCP.out _ (HIN.out.below HB1.out)).mono ?_;rintro e w3 ⟨pa',pc',ca',cc',rfl,hop,hoc,hne,hb3⟩;have HOP:=Lib.hid hop;have HOC:=Lib.hid hoc;have HNE:=Lib.hid hne;have HB3:=Lib.hid hb3;have HX3:=Lib.hid ((hb3.block w.heap.size (by have:=HS1.out;omega)).trans HX1.out);have HL3:=Lib.hid (show w1.heap.size≤w3.heap.size from hb3.size);have b3:=cells_at ((Below.heap_alloc w3 (.cells #[.slice pa' k pc',.slice ca' k cc',.int .i8 lv,.int .u8 sos,.int .u8 eos] 75) w.heap.size (by have:=HL3.out;have:=HS1.out;omega)).trans HX3.out) 3;clear hop hoc hne hb3)
    obtain ⟨O3,hO3⟩:∃ O,O = Obj.cells #[.slice pa' k pc',.slice ca' k cc',.int .i8 lv,.int .u8 sos,.int .u8 eos] 75:=⟨_,rfl⟩
    have HX4:Hid ((w3.alloc O3).heap[w.heap.size]? = some (.cells #[.slice pa k pc,.slice ca k cc,.int .i8 lv,.int .u8 sos,.int .u8 eos] 75)):=Lib.hid ((Below.heap_alloc w3 O3 w.heap.size (by have:=HL3.out;have:=HS1.out;omega)).trans HX3.out)
    have HY4:Hid ((w3.alloc O3).heap[w.heap.size + 1]? = some (.cells #[.slice none 0 0,.slice none 0 0,.int .i8 0,.int .u8 0,.int .u8 0] 75)):=Lib.hid ((Below.heap_alloc w3 O3 (w.heap.size + 1) (by have:=HL3.out;have:=HS1.out;omega)).trans ((HB3.out.block _ (by have:=HS1.out;omega)).trans HY1.out))
    have HZ4:Hid ((w3.alloc O3).heap[w3.heap.size]? = some O3):=Lib.hid (heap_alloc_new _ _)
    have HP4:Hid (Own (w3.alloc O3) w1.heap.size 1 pa' k pc' (ps.map natV)):=Lib.hid (HOP.out.alloc _)
    have HC4:Hid (Own (w3.alloc O3) w1.heap.size 1 ca' k cc' (cs.map u8V)):=Lib.hid (HOC.out.alloc _)
    have HB4:Hid (Below w.heap.size w (w3.alloc O3)):=Lib.hid ((HB1.out.trans (HB3.out.mono HB1.out.size)).alloc (Nat.le_trans HB1.out.size HB3.out.size) _)
    have HLT:Hid (∀ g,g∈blk ca'∨g∈blk pa'→w1.heap.size≤g∧g < w3.heap.size):=Lib.hid fun g hg => by rcases hg with h | h;exact HOC.out.blk_lt g h;exact HOP.out.blk_lt g h
    have HS4:Hid (w.heap.size + 2≤w1.heap.size∧w1.heap.size≤w3.heap.size∧(w3.alloc O3).heap.size = w3.heap.size + 1):=Lib.hid ⟨HS1.out,HL3.out,by simp⟩
    subst hO3
    obtain ⟨g,rfl⟩:=HOC.out.pos HPOS.out
    generalize w3.alloc (.cells #[.slice pa' k pc',.slice (some ⟨g,0,none⟩) k cc',.int .i8 lv,.int .u8 sos,.int .u8 eos] 75) = W at *
    have hgl:=HLT.out g (.inl (by simp [blk_some]))
    have HCELL:Hid (∀ wr xs,RkAt W wr w1.heap.size g cc' k xs→wr.heap[w3.heap.size]? = some (.cells #[.slice pa' k pc',.slice (some ⟨g,0,none⟩) k cc',.int .i8 lv,.int .u8 sos,.int .u8 eos] 75)∧wr.heap[w.heap.size]? = some (.cells #[.slice pa k pc,.slice ca k cc,.int .i8 lv,.int .u8 sos,.int .u8 eos] 75)∧wr.heap[w.heap.size + 1]? = some (.cells #[.slice none 0 0,.slice none 0 0,.int .i8 0,.int .u8 0,.int .u8 0] 75)):=Lib.hid fun wr xs hr => ⟨(hr.kept.block _ (by have:=HS4.out;omega) (by have:=hgl;omega)).trans HZ4.out,(hr.kept.block _ (by have:=HS4.out;omega) (by have:=hgl;have:=HS4.out;omega)).trans HX4.out,(hr.kept.block _ (by have:=HS4.out;omega) (by have:=hgl;have:=HS4.out;omega)).trans HY4.out⟩
    have HR0:Hid (RkAt W W w1.heap.size g cc' k cs):=Lib.hid ⟨HC4.out,Kept.refl _ _⟩
    have HGL:=Lib.hid hgl
    clear b0 b2 b3 b4 hgl
    try go_step3
    try go_wp2
    obtain ⟨WAY,hWAY⟩:∃ v,v = wayOf lv:=⟨_,rfl⟩
    have HWAY:=Lib.hid hWAY
    rw [← hWAY] at HWY
    clear hWAY
    go_loopg [10,11] k (fun r xv i wr => ∃ (done rest:List Nat) (x:Nat),rest.length = r∧i = .int .i64 done.length∧xv = .int .u8 x∧Neu eos WAY (restOf sos eos WAY cs) k done rest x∧RkAt W wr w1.heap.size g cc' k (done ++ rest))
    case atStart => exact ⟨[],cs,sos,HSAME.out,rfl,rfl,⟨rfl,by have:=HSAME.out;simp;omega,HST.out,HSOS.out⟩,HR0.out⟩
    case round =>
     obtain ⟨done,rest,x,hr,rfl,rfl,hN,hA⟩:=hrel
     obtain ⟨z0,zs,zr⟩:=HCELL.out _ _ hA
     have z1:=cells_at z0 1
     have hlen:=hN.len
     cases rest with
     | nil =>
      have HN:=Lib.hid hN
      have HA:=Lib.hid hA
      have HZ:=Lib.hid z0
      have HZR:=Lib.hid zr
      have hki:(k:Int)≤(done.length:Int):=by simp at hlen;omega
      have z2:=cells_at z0 2
      have z3:=cells_at z0 3
      have z4:=cells_at z0 4
      have z5:=cells_at z0 0
      have e0:=cells_at zr 0
      have e1:=cells_at zr 1
      have e2:=cells_at zr 2
      have e3:=cells_at zr 3
      have e4:=cells_at zr 4
      have f0:=frozen_at zr 0
      have f1:=frozen_at zr 1
      have f2:=frozen_at zr 2
      have f3:=frozen_at zr 3
      have f4:=frozen_at zr 4
      clear hN hA hlen hr z0 zs zr
      go_wp2
      try rw [Exit.noGoto_ret]
      have hfin:=heap_set5 HZR.out (.slice pa' k pc') (.slice (some ⟨g,0,none⟩) k cc') (.int .i8 lv) (.int .u8 sos) (.int .u8 eos)
      have hres:∀ (tmps:Array Value) (W':World),W'.heap[w.heap.size + 1]? = some (.cells #[.slice pa' k pc',.slice (some ⟨g,0,none⟩) k cc',.int .i8 lv,.int .u8 sos,.int .u8 eos] 75)→tmps.getD 2 undef = .pointer (some ⟨w.heap.size + 1,0,none⟩)→tmps.getD 3 undef = .int .i64 0→(results Tryz.f26 tmps).run Tryz.prog W' = .ok (.tuple #[.agg #[.slice pa' k pc',.slice (some ⟨g,0,none⟩) k cc',.int .i8 lv,.int .u8 sos,.int .u8 eos],.int .i64 0]) W':=by
       intro tmps W' h1 h2 h3
       rw [results_cell_tmp rfl]
       have hlv:=run_loadVar_row (P:=Tryz.prog) _ (w.heap.size + 1) 75 75 _ _ _ h1 Tryz.underlying75 rfl (by kernel_rfl)
       rw [h2,h3]
       simp [asAddr,hlv]
      have q1:w.heap.size + 1 ∉ blk pa':=fun h => by have:=(HLT.out _ (.inr h)).1;have:=HS4.out;omega
      have q2:w.heap.size + 1 ∉ blk (some (⟨g,0,none⟩:Addr)):=fun h => by have:=(HLT.out _ (.inl h)).1;have:=HS4.out;omega
      have p5:=HA.out.kept.own HP4.out (fun g' hg' e => HNE.out g' (blk_mem.2 hg') (by rw [e];simp [blk_some]))
      have heq:done = restOf sos eos WAY cs:=by have:=HN.out.eq;rw [show n12 eos WAY x 0 [] = [] from rfl,List.append_nil] at this;exact this.symm
      have own:=HA.out.own
      rw [List.append_nil,heq] at own
      refine bodyPost_ret (hres _ _ hfin rfl rfl) rfl ⟨pa',pc',some ⟨g,0,none⟩,cc',rfl,⟨(p5.set5 q1 _ _ _ _ _).toCells,by rw [← HWAY.out];exact (own.set5 q2 _ _ _ _ _).toCells⟩,below_set5 (HA.out.kept.below HB4.out (fun j hj => by rw [hj];have:=(HLT.out g (.inl (by simp [blk_some]))).1;have:=HS4.out;omega) (by have:=HB4.out.size;omega)) (by omega) _ _ _ _ _,fun g' hg' => by have:=(HLT.out g' (.inr hg')).1;have:=HS4.out;omega,fun g' hg' => by have:=(HLT.out g' (.inl hg')).1;have:=HS4.out;omega⟩
     | cons y rest =>
      simp only [List.length_cons] at hlen hr
      have hki:(done.length:Int) < (k:Int):=by omega
      have hk0:(0:Int)≤(done.length:Int):=by omega
      obtain ⟨hcy,_⟩:=hA.own.getm (k:=done.length) (x:=y) (by have:=app_get (a:=done) (b:=y :: rest) (k:=0);exact this)
      unfold u8V at hcy
      have HSY:=Lib.hid (fun w => HSD.out w y)
      have hsub:=hN.sub
      by_cases hy:neutralB y = true
      · rw [HNV.out y hy] at HSY
        obtain ⟨G,hG⟩:∃ G,G = gk:=⟨_,rfl⟩
        subst hG
        obtain ⟨a,rest2,hrow,ha,hr2⟩:=neu_split (y :: rest)
        have hap:0 < a.length:=by
         cases a with
         | nil => have:=hr2 y rest (by simpa using hrow.symm);rw [hy] at this;cases this
         | cons _ _ => simp
        rw [hrow] at hN hA hsub
        obtain ⟨m,hm⟩:∃ m,m = done.length:=⟨_,rfl⟩
        rw [← hm] at hcy hki hk0 ⊢
        have HM:=Lib.hid hm
        have HLEN:Hid (m + a.length + rest2.length = k):=Lib.hid (by have h1:=congrArg List.length hrow;simp at h1;omega)
        have HR:Hid ((a ++ rest2).length = G):=Lib.hid (by rw [← hrow];simp;omega)
        have HAP:=Lib.hid hap
        have HAN:=Lib.hid ha
        have HR2:=Lib.hid hr2
        have HA:=Lib.hid hA
        have HROW:Hid (∀ v,neuOf eos WAY x rest2 = v→Neu eos WAY (restOf sos eos WAY cs) k (done ++ List.replicate a.length v) rest2 x):=Lib.hid (fun v hv => by have:=hN.row ha hr2;rwa [hv] at this)
        have HAT:Hid (∀ j u,a[j]? = some u→(done ++ (a ++ rest2))[m + j]? = some u):=Lib.hid (fun j u hu => by rw [hm,app_get,List.getElem?_append_left (List.getElem?_eq_some_iff.1 hu).1];exact hu)
        have HEND:Hid ((done ++ (a ++ rest2))[m + a.length]? = rest2.head?):=Lib.hid (by rw [hm,app_get,List.getElem?_append_right (Nat.le_refl _),Nat.sub_self];cases rest2 <;> rfl)
        have HSUB:=Lib.hid hsub
        have HALC:Hid (∀ u∈a,Cl u):=Lib.hid (fun u hu => by have:=ha u hu;unfold neutralB at this;simp at this;unfold Cl;omega)
        have HXE:=Lib.hid hN.edge
        have HZS:=Lib.hid zs
        clear hm hlen hr hrow hap ha hr2 hA hN hsub z0 zr hy zs
        go_wp2_with (go_at_call 47;refine (HSY.out _).mono ?_;rintro e w2 ⟨rfl,rfl⟩)
        go_loopg [14] a.length (fun r i wr2 => ∃ j,j + r = a.length∧i = .int .i64 ((m + j:Nat):Int)∧wr = wr2)
        case atStart => exact ⟨0,by omega,by simp,rfl⟩
        case round =>
         obtain ⟨j,hj,rfl,rfl⟩:=hrel
         by_cases hjt:j < a.length
         · obtain ⟨u,hu⟩:∃ u,a[j]? = some u:=⟨_,List.getElem?_eq_getElem hjt⟩
           have hum:=List.mem_of_getElem? hu
           obtain ⟨hcj,_⟩:=HA.out.own.getm (HAT.out j u hu)
           unfold u8V at hcj
           have HNU:=Lib.hid (fun w => HNE1.out w u (HALC.out u hum))
           rw [HAN.out u hum] at HNU
           have hjn:((m + j:Nat):Int) < (k:Int):=by have:=HLEN.out;omega
           have hj0:(0:Int)≤((m + j:Nat):Int):=by omega
           have hj4:((m + j:Nat):Int)≤1099511627776:=by omega
           have HJI:Hid (((m + j:Nat):Int) + 1 = ((m + (j + 1):Nat):Int)):=Lib.hid (by omega)
           have HJ:=Lib.hid hj
           have HJT:=Lib.hid hjt
           obtain ⟨mj,hmj⟩:∃ mj,mj = m + j:=⟨_,rfl⟩
           rw [← hmj] at hcj hjn hj0 hj4 HJI ⊢
           clear hmj hj hjt hu hum
           go_wp2_with (go_at_call 48;refine (HNU.out _).mono ?_;rintro e w2 ⟨rfl,rfl⟩)
           go_roundg (gk - 1)
           case measure => have:=HJ.out;have:=HJT.out;omega
           case rel => exact ⟨j + 1,by have:=HJ.out;have:=HJT.out;omega,by rw [← HJI.out],rfl⟩
         · obtain rfl:j = a.length:=by omega
           clear hj hjt
           have zt4:=cells_at HZS.out 4
           have zt2:=cells_at HZS.out 2
           cases rest2 with
           | nil =>
            have hto2:(k:Int)≤((m + a.length:Nat):Int):=by have h1:=HLEN.out;simp at h1;omega
            obtain ⟨mt,hmt⟩:∃ mt,mt = m + a.length:=⟨_,rfl⟩
            rw [← hmt] at hto2 ⊢
            have HMT:=Lib.hid hmt
            clear hmt
            by_cases hxw:x = eos
            · have hww:((eos:Int) != (x:Int)) = false:=by rw [hxw];simp
              have HXW:=Lib.hid hxw
              clear hxw
              have HN2:=Lib.hid (HROW.out eos (by rw [HXW.out];unfold neuOf;rw [if_pos rfl]))
              go_wp2_with (first | (go_at_call 50;refine (HWY.out _).mono ?_;rintro e w2 ⟨rfl,rfl⟩))
              go_loopg [11] a.length (fun r i wr2 => ∃ q,q + r = a.length∧i = .int .i64 ((m + q:Nat):Int)∧RkAt W wr2 w1.heap.size g cc' k ((done ++ List.replicate q eos) ++ (a.drop q ++ [])))
              case atStart => exact ⟨0,by omega,by simp,by have h:=HA.out;rw [List.replicate_zero,List.append_nil,List.drop_zero];exact h⟩
              case round =>
               obtain ⟨q,hq,rfl,hB⟩:=hrel
               obtain ⟨z0,_,_⟩:=HCELL.out _ _ hB
               have z1:=cells_at z0 1
               by_cases hql:q < a.length
               · obtain ⟨u,hu⟩:∃ u,a[q]? = some u:=⟨_,List.getElem?_eq_getElem hql⟩
                 have hlq:(done ++ List.replicate q eos).length = m + q:=by have:=HM.out;simp;omega
                 have hsplit:(done ++ List.replicate q eos) ++ (a.drop q ++ []) = (done ++ List.replicate q eos) ++ u :: (a.drop (q + 1) ++ []):=by rw [drop_get hu];rfl
                 have hset:((done ++ List.replicate q eos) ++ (a.drop q ++ [])).set (m + q) eos = (done ++ List.replicate (q + 1) eos) ++ (a.drop (q + 1) ++ []):=by
                  rw [hsplit,List.set_append_right _ _ (by omega),hlq,Nat.sub_self,List.replicate_succ']
                  simp
                 have hcq:=hB.own.getm (k:=m + q) (x:=u) (by rw [hsplit,← hlq];have:=app_get (a:=done ++ List.replicate q eos) (b:=u :: (a.drop (q + 1) ++ [])) (k:=0);exact this)
                 obtain ⟨hcq1,hcq2⟩:=hcq
                 unfold u8V at hcq1
                 have hq1:((m + q:Nat):Int) < ((m + a.length:Nat):Int):=by omega
                 have hmk:=HLEN.out
                 have hq2:((m + q:Nat):Int) < (k:Int):=by omega
                 have hq3:(0:Int)≤((m + q:Nat):Int):=by omega
                 have hq4:((m + q:Nat):Int)≤1099511627776:=by omega
                 have HB2:=Lib.hid (hB.store (m + q) eos (by omega))
                 have HSET:=Lib.hid hset
                 have HQ:=Lib.hid hq
                 have HQI:Hid (((m + q:Nat):Int) + 1 = ((m + (q + 1):Nat):Int)):=Lib.hid (by omega)
                 have HQL:=Lib.hid hql
                 clear hB hset hsplit hlq hq hql z0 hu hmk
                 obtain ⟨mq,hmq⟩:∃ mq,mq = m + q:=⟨_,rfl⟩
                 rw [← hmq] at hcq1 hcq2 hq1 hq2 hq3 hq4 HB2 HSET HQI ⊢
                 rw [← HMT.out] at hq1
                 clear hmq
                 go_wp2
                 go_roundg (gk - 1)
                 case measure => have:=HQ.out;have:=HQL.out;omega
                 case rel => exact ⟨q + 1,by have:=HQ.out;have:=HQL.out;omega,by rw [← HQI.out],by rw [← HSET.out];exact HB2.out⟩
               · obtain rfl:q = a.length:=by omega
                 have HB3:Hid (RkAt W wr w1.heap.size g cc' k ((done ++ List.replicate a.length eos) ++ [])):=Lib.hid (by have h:=hB;rw [List.drop_length,List.nil_append] at h;exact h)
                 have hq1:((m + a.length:Nat):Int) = (mt:Int):=by have:=HMT.out;omega
                 simp only [hq1]
                 clear hB hq hql z0 hq1
                 go_wp2
                 try rw [Exit.noGoto_normal]
                 try go_wp2
                 go_roundg (G - a.length)
                 case measure => have h1:=HR.out;have h2:=HAP.out;rw [List.length_append] at h1;omega
                 case rel => exact ⟨done ++ List.replicate a.length eos,[],x,by have h1:=HR.out;rw [List.length_append] at h1;omega,by have h1:=HM.out;have h2:=HMT.out;rw [List.length_append,List.length_replicate];congr 1;omega,rfl,HN2.out,HB3.out⟩
            · have hww:((eos:Int) != (x:Int)) = true:=by simp;omega
              have HXW:=Lib.hid hxw
              clear hxw
              have HN2:=Lib.hid (HROW.out WAY (by unfold neuOf;rw [if_neg HXW.out]))
              go_wp2_with (first | (go_at_call 50;refine (HWY.out _).mono ?_;rintro e w2 ⟨rfl,rfl⟩))
              go_loopg [11] a.length (fun r i wr2 => ∃ q,q + r = a.length∧i = .int .i64 ((m + q:Nat):Int)∧RkAt W wr2 w1.heap.size g cc' k ((done ++ List.replicate q WAY) ++ (a.drop q ++ [])))
              case atStart => exact ⟨0,by omega,by simp,by have h:=HA.out;rw [List.replicate_zero,List.append_nil,List.drop_zero];exact h⟩
              case round =>
               obtain ⟨q,hq,rfl,hB⟩:=hrel
               obtain ⟨z0,_,_⟩:=HCELL.out _ _ hB
               have z1:=cells_at z0 1
               by_cases hql:q < a.length
               · obtain ⟨u,hu⟩:∃ u,a[q]? = some u:=⟨_,List.getElem?_eq_getElem hql⟩
                 have hlq:(done ++ List.replicate q WAY).length = m + q:=by have:=HM.out;simp;omega
                 have hsplit:(done ++ List.replicate q WAY) ++ (a.drop q ++ []) = (done ++ List.replicate q WAY) ++ u :: (a.drop (q + 1) ++ []):=by rw [drop_get hu];rfl
                 have hset:((done ++ List.replicate q WAY) ++ (a.drop q ++ [])).set (m + q) WAY = (done ++ List.replicate (q + 1) WAY) ++ (a.drop (q + 1) ++ []):=by
                  rw [hsplit,List.set_append_right _ _ (by omega),hlq,Nat.sub_self,List.replicate_succ']
                  simp
                 have hcq:=hB.own.getm (k:=m + q) (x:=u) (by rw [hsplit,← hlq];have:=app_get (a:=done ++ List.replicate q WAY) (b:=u :: (a.drop (q + 1) ++ [])) (k:=0);exact this)
                 obtain ⟨hcq1,hcq2⟩:=hcq
                 unfold u8V at hcq1
                 have hq1:((m + q:Nat):Int) < ((m + a.length:Nat):Int):=by omega
                 have hmk:=HLEN.out
                 have hq2:((m + q:Nat):Int) < (k:Int):=by omega
                 have hq3:(0:Int)≤((m + q:Nat):Int):=by omega
                 have hq4:((m + q:Nat):Int)≤1099511627776:=by omega
                 have HB2:=Lib.hid (hB.store (m + q) WAY (by omega))
                 have HSET:=Lib.hid hset
                 have HQ:=Lib.hid hq
                 have HQI:Hid (((m + q:Nat):Int) + 1 = ((m + (q + 1):Nat):Int)):=Lib.hid (by omega)
                 have HQL:=Lib.hid hql
                 clear hB hset hsplit hlq hq hql z0 hu hmk
                 obtain ⟨mq,hmq⟩:∃ mq,mq = m + q:=⟨_,rfl⟩
                 rw [← hmq] at hcq1 hcq2 hq1 hq2 hq3 hq4 HB2 HSET HQI ⊢
                 rw [← HMT.out] at hq1
                 clear hmq
                 go_wp2
                 go_roundg (gk - 1)
                 case measure => have:=HQ.out;have:=HQL.out;omega
                 case rel => exact ⟨q + 1,by have:=HQ.out;have:=HQL.out;omega,by rw [← HQI.out],by rw [← HSET.out];exact HB2.out⟩
               · obtain rfl:q = a.length:=by omega
                 have HB3:Hid (RkAt W wr w1.heap.size g cc' k ((done ++ List.replicate a.length WAY) ++ [])):=Lib.hid (by have h:=hB;rw [List.drop_length,List.nil_append] at h;exact h)
                 have hq1:((m + a.length:Nat):Int) = (mt:Int):=by have:=HMT.out;omega
                 simp only [hq1]
                 clear hB hq hql z0 hq1
                 go_wp2
                 try rw [Exit.noGoto_normal]
                 try go_wp2
                 go_roundg (G - a.length)
                 case measure => have h1:=HR.out;have h2:=HAP.out;rw [List.length_append] at h1;omega
                 case rel => exact ⟨done ++ List.replicate a.length WAY,[],x,by have h1:=HR.out;rw [List.length_append] at h1;omega,by have h1:=HM.out;have h2:=HMT.out;rw [List.length_append,List.length_replicate];congr 1;omega,rfl,HN2.out,HB3.out⟩
           | cons cc0 rr =>
            have hto2:((m + a.length:Nat):Int) < (k:Int):=by have h1:=HLEN.out;simp only [List.length_cons] at h1;omega
            have hto3:(0:Int)≤((m + a.length:Nat):Int):=by omega
            have hcn:=HR2.out cc0 rr rfl
            have hcs:Settled cc0:=by rcases HSUB.out cc0 (by simp) with h | h;exact h;rw [hcn] at h;cases h
            have HNC:=Lib.hid (fun w => HNE1.out w cc0 (by rcases settled_cases hcs with rfl | rfl | rfl | rfl <;> (unfold Cl;omega)))
            rw [hcn] at HNC
            have HSC:=Lib.hid (fun w => HSD.out w cc0)
            rw [HSV.out cc0 hcs] at HSC
            obtain ⟨hct,_⟩:=HA.out.own.getm (HEND.out)
            unfold u8V at hct
            obtain ⟨mt,hmt⟩:∃ mt,mt = m + a.length:=⟨_,rfl⟩
            rw [← hmt] at hto2 hto3 hct ⊢
            have HMT:=Lib.hid hmt
            obtain ⟨sd,hsd⟩:∃ sd,sd = sideOf cc0:=⟨_,rfl⟩
            rw [← hsd] at HSC
            have HSDD:=Lib.hid hsd
            clear hmt hcn hcs hsd
            by_cases hxw:x = sd
            · have hww:((sd:Int) != (x:Int)) = false:=by rw [hxw];simp
              have HXW:=Lib.hid hxw
              clear hxw
              have HN2:=Lib.hid (HROW.out sd (by rw [HXW.out];show (if sideOf cc0 = sd then sd else WAY) = sd;rw [← HSDD.out,if_pos rfl]))
              go_wp2_with (first | (go_at_call 48;refine (HNC.out _).mono ?_;rintro e w2 ⟨rfl,rfl⟩) | (go_at_call 47;refine (HSC.out _).mono ?_;rintro e w2 ⟨rfl,rfl⟩) | (go_at_call 50;refine (HWY.out _).mono ?_;rintro e w2 ⟨rfl,rfl⟩))
              go_loopg [11] a.length (fun r i wr2 => ∃ q,q + r = a.length∧i = .int .i64 ((m + q:Nat):Int)∧RkAt W wr2 w1.heap.size g cc' k ((done ++ List.replicate q sd) ++ (a.drop q ++ (cc0 :: rr))))
              case atStart => exact ⟨0,by omega,by simp,by have h:=HA.out;rw [List.replicate_zero,List.append_nil,List.drop_zero];exact h⟩
              case round =>
               obtain ⟨q,hq,rfl,hB⟩:=hrel
               obtain ⟨z0,_,_⟩:=HCELL.out _ _ hB
               have z1:=cells_at z0 1
               by_cases hql:q < a.length
               · obtain ⟨u,hu⟩:∃ u,a[q]? = some u:=⟨_,List.getElem?_eq_getElem hql⟩
                 have hlq:(done ++ List.replicate q sd).length = m + q:=by have:=HM.out;simp;omega
                 have hsplit:(done ++ List.replicate q sd) ++ (a.drop q ++ (cc0 :: rr)) = (done ++ List.replicate q sd) ++ u :: (a.drop (q + 1) ++ (cc0 :: rr)):=by rw [drop_get hu];rfl
                 have hset:((done ++ List.replicate q sd) ++ (a.drop q ++ (cc0 :: rr))).set (m + q) sd = (done ++ List.replicate (q + 1) sd) ++ (a.drop (q + 1) ++ (cc0 :: rr)):=by
                  rw [hsplit,List.set_append_right _ _ (by omega),hlq,Nat.sub_self,List.replicate_succ']
                  simp
                 have hcq:=hB.own.getm (k:=m + q) (x:=u) (by rw [hsplit,← hlq];have:=app_get (a:=done ++ List.replicate q sd) (b:=u :: (a.drop (q + 1) ++ (cc0 :: rr))) (k:=0);exact this)
                 obtain ⟨hcq1,hcq2⟩:=hcq
                 unfold u8V at hcq1
                 have hq1:((m + q:Nat):Int) < ((m + a.length:Nat):Int):=by omega
                 have hmk:=HLEN.out
                 have hq2:((m + q:Nat):Int) < (k:Int):=by omega
                 have hq3:(0:Int)≤((m + q:Nat):Int):=by omega
                 have hq4:((m + q:Nat):Int)≤1099511627776:=by omega
                 have HB2:=Lib.hid (hB.store (m + q) sd (by omega))
                 have HSET:=Lib.hid hset
                 have HQ:=Lib.hid hq
                 have HQI:Hid (((m + q:Nat):Int) + 1 = ((m + (q + 1):Nat):Int)):=Lib.hid (by omega)
                 have HQL:=Lib.hid hql
                 clear hB hset hsplit hlq hq hql z0 hu hmk
                 obtain ⟨mq,hmq⟩:∃ mq,mq = m + q:=⟨_,rfl⟩
                 rw [← hmq] at hcq1 hcq2 hq1 hq2 hq3 hq4 HB2 HSET HQI ⊢
                 rw [← HMT.out] at hq1
                 clear hmq
                 go_wp2
                 go_roundg (gk - 1)
                 case measure => have:=HQ.out;have:=HQL.out;omega
                 case rel => exact ⟨q + 1,by have:=HQ.out;have:=HQL.out;omega,by rw [← HQI.out],by rw [← HSET.out];exact HB2.out⟩
               · obtain rfl:q = a.length:=by omega
                 have HB3:Hid (RkAt W wr w1.heap.size g cc' k ((done ++ List.replicate a.length sd) ++ (cc0 :: rr))):=Lib.hid (by have h:=hB;rw [List.drop_length,List.nil_append] at h;exact h)
                 have hq1:((m + a.length:Nat):Int) = (mt:Int):=by have:=HMT.out;omega
                 simp only [hq1]
                 clear hB hq hql z0 hq1
                 go_wp2
                 try rw [Exit.noGoto_normal]
                 try go_wp2
                 go_roundg (G - a.length)
                 case measure => have h1:=HR.out;have h2:=HAP.out;rw [List.length_append] at h1;omega
                 case rel => exact ⟨done ++ List.replicate a.length sd,(cc0 :: rr),x,by have h1:=HR.out;rw [List.length_append] at h1;omega,by have h1:=HM.out;have h2:=HMT.out;rw [List.length_append,List.length_replicate];congr 1;omega,rfl,HN2.out,HB3.out⟩
            · have hww:((sd:Int) != (x:Int)) = true:=by simp;omega
              have HXW:=Lib.hid hxw
              clear hxw
              have HN2:=Lib.hid (HROW.out WAY (by show (if sideOf cc0 = x then x else WAY) = WAY;rw [← HSDD.out,if_neg (fun e => HXW.out e.symm)]))
              go_wp2_with (first | (go_at_call 48;refine (HNC.out _).mono ?_;rintro e w2 ⟨rfl,rfl⟩) | (go_at_call 47;refine (HSC.out _).mono ?_;rintro e w2 ⟨rfl,rfl⟩) | (go_at_call 50;refine (HWY.out _).mono ?_;rintro e w2 ⟨rfl,rfl⟩))
              go_loopg [11] a.length (fun r i wr2 => ∃ q,q + r = a.length∧i = .int .i64 ((m + q:Nat):Int)∧RkAt W wr2 w1.heap.size g cc' k ((done ++ List.replicate q WAY) ++ (a.drop q ++ (cc0 :: rr))))
              case atStart => exact ⟨0,by omega,by simp,by have h:=HA.out;rw [List.replicate_zero,List.append_nil,List.drop_zero];exact h⟩
              case round =>
               obtain ⟨q,hq,rfl,hB⟩:=hrel
               obtain ⟨z0,_,_⟩:=HCELL.out _ _ hB
               have z1:=cells_at z0 1
               by_cases hql:q < a.length
               · obtain ⟨u,hu⟩:∃ u,a[q]? = some u:=⟨_,List.getElem?_eq_getElem hql⟩
                 have hlq:(done ++ List.replicate q WAY).length = m + q:=by have:=HM.out;simp;omega
                 have hsplit:(done ++ List.replicate q WAY) ++ (a.drop q ++ (cc0 :: rr)) = (done ++ List.replicate q WAY) ++ u :: (a.drop (q + 1) ++ (cc0 :: rr)):=by rw [drop_get hu];rfl
                 have hset:((done ++ List.replicate q WAY) ++ (a.drop q ++ (cc0 :: rr))).set (m + q) WAY = (done ++ List.replicate (q + 1) WAY) ++ (a.drop (q + 1) ++ (cc0 :: rr)):=by
                  rw [hsplit,List.set_append_right _ _ (by omega),hlq,Nat.sub_self,List.replicate_succ']
                  simp
                 have hcq:=hB.own.getm (k:=m + q) (x:=u) (by rw [hsplit,← hlq];have:=app_get (a:=done ++ List.replicate q WAY) (b:=u :: (a.drop (q + 1) ++ (cc0 :: rr))) (k:=0);exact this)
                 obtain ⟨hcq1,hcq2⟩:=hcq
                 unfold u8V at hcq1
                 have hq1:((m + q:Nat):Int) < ((m + a.length:Nat):Int):=by omega
                 have hmk:=HLEN.out
                 have hq2:((m + q:Nat):Int) < (k:Int):=by omega
                 have hq3:(0:Int)≤((m + q:Nat):Int):=by omega
                 have hq4:((m + q:Nat):Int)≤1099511627776:=by omega
                 have HB2:=Lib.hid (hB.store (m + q) WAY (by omega))
                 have HSET:=Lib.hid hset
                 have HQ:=Lib.hid hq
                 have HQI:Hid (((m + q:Nat):Int) + 1 = ((m + (q + 1):Nat):Int)):=Lib.hid (by omega)
                 have HQL:=Lib.hid hql
                 clear hB hset hsplit hlq hq hql z0 hu hmk
                 obtain ⟨mq,hmq⟩:∃ mq,mq = m + q:=⟨_,rfl⟩
                 rw [← hmq] at hcq1 hcq2 hq1 hq2 hq3 hq4 HB2 HSET HQI ⊢
                 rw [← HMT.out] at hq1
                 clear hmq
                 go_wp2
                 go_roundg (gk - 1)
                 case measure => have:=HQ.out;have:=HQL.out;omega
                 case rel => exact ⟨q + 1,by have:=HQ.out;have:=HQL.out;omega,by rw [← HQI.out],by rw [← HSET.out];exact HB2.out⟩
               · obtain rfl:q = a.length:=by omega
                 have HB3:Hid (RkAt W wr w1.heap.size g cc' k ((done ++ List.replicate a.length WAY) ++ (cc0 :: rr))):=Lib.hid (by have h:=hB;rw [List.drop_length,List.nil_append] at h;exact h)
                 have hq1:((m + a.length:Nat):Int) = (mt:Int):=by have:=HMT.out;omega
                 simp only [hq1]
                 clear hB hq hql z0 hq1
                 go_wp2
                 try rw [Exit.noGoto_normal]
                 try go_wp2
                 go_roundg (G - a.length)
                 case measure => have h1:=HR.out;have h2:=HAP.out;rw [List.length_append] at h1;omega
                 case rel => exact ⟨done ++ List.replicate a.length WAY,(cc0 :: rr),x,by have h1:=HR.out;rw [List.length_append] at h1;omega,by have h1:=HM.out;have h2:=HMT.out;rw [List.length_append,List.length_replicate];congr 1;omega,rfl,HN2.out,HB3.out⟩
      · have hsy:Settled y:=by rcases hsub y (by simp) with h | h;exact h;exact absurd h hy
        rw [HSV.out y hsy] at HSY
        have HN2:=Lib.hid (hN.one (by simpa using hy))
        have HA:Hid (RkAt W wr w1.heap.size g cc' k ((done ++ [y]) ++ rest)):=Lib.hid (by simpa using hA)
        have HR:=Lib.hid hr
        clear hN hA hlen hr hsub hsy hy z0 zs zr
        go_wp2_with (go_at_call 47;refine (HSY.out _).mono ?_;rintro e w2 ⟨rfl,rfl⟩)
        try rw [Exit.noGoto_exit]
        try go_wp2
        go_roundg (gk - 1)
        case measure => have:=HR.out;omega
        case rel => exact ⟨done ++ [y],rest,sideOf y,by have:=HR.out;omega,by simp,rfl,HN2.out,HA.out⟩
end Go.Proofs.YtjnidopbdjbbgaaGreat
