/-
  One weak rule of a sequence: Rule, walked (printed by genrule.py).
-/
import Derived.Test.YtjnidopbdjbbgaaGreatB09
import Derived.Test.YtjnidopbdjbbgaaGreatB16
import Derived.Test.YtjnidopbdjbbgaaGreatB07
import Derived.Laws.ResultCell
namespace Go.Proofs.YtjnidopbdjbbgaaGreat
open Go.RowKit
set_option linter.unusedVariables false
set_option maxRecDepth 20000
set_option maxHeartbeats 4000000
/-- The classes behind rule k. -/
def ruleOf (k sos:Nat) (l:List Nat):List Nat:=match k with | 1 => scan w1 sos l | 2 => scan w2 sos l | 3 => l.map w3 | 4 => w4 0 l | 5 => w5 0 0 l | 6 => l.map w6 | _ => scan w7 sos l
/-- The function of rule k. -/
def ruleF (k:Nat):Nat:=match k with | 1 => 75 | 2 => 76 | 3 => 77 | 4 => 78 | 5 => 79 | 6 => 80 | _ => 81
def rulesV:List Value:=[75,76,77,78,79,80,81].map fun f => .func (.func f) #[] #[]
theorem rules_any (w:World):Calls Tryz.prog 44 #[] w fun e w' => e = .returned (.slice (some ⟨w.heap.size,0,none⟩) 7 7)∧w' = w.alloc (.cells rulesV.toArray 146):=by
 go_enter Tryz.func44,Tryz.ntmps44
 go_wp2
 go_ret
 exact ⟨rfl,rfl⟩
theorem rule_turn (k:Nat) (hk:1≤k∧k≤7) (w:World) (B wb g c:Nat) (s:Sq) (hs:s.Ok) (h:WkAt w w wb B g c s.sos s.ps.length s.cs):
 Calls Tryz.prog (ruleF k) #[.pointer (some ⟨wb,0,none⟩)] w fun e w' => e = .returned (.tuple #[])∧WkAt w w' wb B g c s.sos s.ps.length (ruleOf k s.sos s.cs):=by
 have hl:s.cs.length≤1099511627776:=by rw [hs.same];have:=hs.big;omega
 have h23:∀ x∈s.cs,1≤x∧x≤23:=fun x hx => ⟨(cl_known (hs.cl x hx)).1,(cl_known (hs.cl x hx)).2.1⟩
 rw [← hs.same] at h ⊢
 obtain ⟨h1,h2⟩:=hk
 match k,h1,h2 with
 | 1,_,_ => exact marks_any w B wb g c s.sos s.cs hl h23 hs.sos h
 | 2,_,_ => exact arabic_any w B wb g c s.sos s.cs hl h23 hs.sos h
 | 3,_,_ => exact (letters_any w B wb g c s.sos s.cs hl h23 hs.sos h).mono fun e w' h => ⟨h.1,by have:=h.2;rwa [scan_map] at this⟩
 | 4,_,_ => exact between_any w B wb g c s.sos s.cs hl h23 h
 | 5,_,_ => exact ends_any w B wb g c s.sos s.cs hl h
 | 6,_,_ => exact (others_any w B wb g c s.sos s.cs hl h23 hs.sos h).mono fun e w' h => ⟨h.1,by have:=h.2;rwa [scan_map] at this⟩
 | 7,_,_ => exact european_any w B wb g c s.sos s.cs hl h23 hs.sos h
theorem rule1_any (w:World) (s:Sq) (hs:s.Ok) (pa ca:Option Addr) (pc cc:Nat) (hi:s.In w pa ca):
 Calls Tryz.prog 45 #[.int .i64 1,s.val pa pc ca cc] w fun e w' => ∃ pa' pc' ca' cc',e = .returned (.tuple #[{ s with cs:=ruleOf 1 s.sos s.cs }.val pa' pc' ca' cc',.int .i64 0])∧Own w' w.heap.size 1 pa' s.ps.length pc' (s.ps.map natV)∧Own w' w.heap.size 1 ca' s.ps.length cc' ((ruleOf 1 s.sos s.cs).map u8V)∧Below w.heap.size w w':=by
 have HCK:=Lib.hid (fun w h => check_any w s hs pa ca pc cc h)
 have HCP:=Lib.hid (fun w h => copy_any w s hs pa ca pc cc h)
 have HTU:=Lib.hid (fun w B wb g c h => rule_turn 1 (by omega) w B wb g c s hs h)
 have HPOS:=Lib.hid hs.pos
 have HIN:=Lib.hid hi
 obtain ⟨ps,cs,lv,sos,eos⟩:=s
 unfold Sq.val at HCK HCP ⊢
 simp only at HCK HCP HTU HPOS ⊢
 rw [show ruleF 1 = 75 from rfl] at HTU
 obtain ⟨n,hn⟩:∃ n,n = ps.length:=⟨_,rfl⟩
 rw [← hn] at HCK HCP HTU HPOS ⊢
 clear hi hs hn
 obtain ⟨O1,hO1⟩:∃ O,O = Obj.cells #[.slice pa n pc,.slice ca n cc,.int .i8 lv,.int .u8 sos,.int .u8 eos] 75:=⟨_,rfl⟩
 obtain ⟨O2,hO2⟩:∃ O,O = Obj.cells #[.slice none 0 0,.slice none 0 0,.int .i8 0,.int .u8 0,.int .u8 0] 75:=⟨_,rfl⟩
 have hw1:((w.alloc O1).alloc O2).heap[w.heap.size]? = some O1:=(Below.heap_alloc _ _ _ (by simp)).trans (heap_alloc_new w O1)
 have hw2:((w.alloc O1).alloc O2).heap[w.heap.size + 1]? = some O2:=by
  have:=heap_alloc_new (w.alloc O1) O2
  rwa [World.size_alloc] at this
 have HB0:Hid (Below w.heap.size w ((w.alloc O1).alloc O2)):=Lib.hid (((Below.refl _ _).alloc (Nat.le_refl _) _).alloc (by simp) _)
 have HSZ:Hid (((w.alloc O1).alloc O2).heap.size = w.heap.size + 2):=Lib.hid (by simp)
 have HW1:=Lib.hid hw1
 have HW2:=Lib.hid hw2
 subst hO1
 subst hO2
 clear hw1 hw2
 go_enter Tryz.func45,Tryz.ntmps45
 go_wp2_with (first | (go_at_call 46;refine (HCK.out _ (HIN.out.below HB0.out)).mono ?_;rintro e w1 ⟨rfl,hb1⟩;have HB1:=Lib.hid (HB0.out.trans (hb1.mono (by rw [HSZ.out];omega)));have HX1:=Lib.hid ((hb1.block w.heap.size (by rw [HSZ.out];omega)).trans HW1.out);have HY1:=Lib.hid ((hb1.block (w.heap.size + 1) (by rw [HSZ.out];omega)).trans HW2.out);have HS1:=Lib.hid (show w.heap.size + 2≤w1.heap.size by have:=hb1.size;rw [HSZ.out] at this;exact this);clear hb1) | (go_at_call 44;go_loud (refine (rules_any _).mono ?_;rintro e w2 ⟨rfl,hw2⟩;have HB2:=Lib.hid (show Below w.heap.size w w2 by rw [hw2];exact HB1.out.alloc HB1.out.size _);have HX2:=Lib.hid ((congrArg (fun v:World => v.heap[w.heap.size]?) hw2).trans ((Below.heap_alloc w1 (.cells rulesV.toArray 146) w.heap.size (by have:=HS1.out;omega)).trans HX1.out));have HY2:=Lib.hid ((congrArg (fun v:World => v.heap[w.heap.size + 1]?) hw2).trans ((Below.heap_alloc w1 (.cells rulesV.toArray 146) (w.heap.size + 1) (by have:=HS1.out;omega)).trans HY1.out));have HR2:=Lib.hid (show w2.heap[w1.heap.size]? = some (.cells rulesV.toArray 146) by rw [hw2];exact heap_alloc_new w1 _);have HS2:=Lib.hid (show w2.heap.size = w1.heap.size + 1 by rw [hw2];simp);have hc0:=cells_at HX2.out 0;have hc1:=cells_at HX2.out 1;have hc2:=cells_at HX2.out 2;have hc3:=cells_at HX2.out 3;have hc4:=cells_at HX2.out 4;clear hw2)) | (go_at_call 49;refine (HCP.out _ (HIN.out.below HB2.out)).mono ?_;rintro e w3 ⟨pa',pc',ca',cc',rfl,hop,hoc,hne,hb3⟩;have HOP:=Lib.hid hop;have HOC:=Lib.hid hoc;have HNE:=Lib.hid hne;have HB3:=Lib.hid hb3;clear hop hoc hne hb3))
 obtain ⟨O3,hO3⟩:∃ O,O = Obj.cells #[.slice pa' n pc',.slice ca' n cc',.int .i8 lv,.int .u8 sos,.int .u8 eos] 75:=⟨_,rfl⟩
 have HX3:Hid ((w3.alloc O3).heap[w3.heap.size]? = some O3):=Lib.hid (heap_alloc_new _ _)
 have HY3:Hid ((w3.alloc O3).heap[w.heap.size + 1]? = some (.cells #[.slice none 0 0,.slice none 0 0,.int .i8 0,.int .u8 0,.int .u8 0] 75)):=Lib.hid ((Below.heap_alloc _ _ _ (by have:=HS1.out;have:=HS2.out;have:=HB3.out.size;omega)).trans ((HB3.out.block _ (by have:=HS1.out;have:=HS2.out;omega)).trans HY2.out))
 have HR3:Hid ((w3.alloc O3).heap[w1.heap.size]? = some (.cells rulesV.toArray 146)):=Lib.hid ((Below.heap_alloc _ _ _ (by have:=HS2.out;have:=HB3.out.size;omega)).trans ((HB3.out.block _ (by have:=HS2.out;omega)).trans HR2.out))
 have HO3:Hid (Own (w3.alloc O3) w2.heap.size 1 ca' n cc' (cs.map u8V)):=Lib.hid (HOC.out.alloc _)
 have HP3:Hid (Own (w3.alloc O3) w2.heap.size 1 pa' n pc' (ps.map natV)):=Lib.hid (HOP.out.alloc _)
 have HB4:Hid (Below w.heap.size w (w3.alloc O3)):=Lib.hid ((after HB2.out HB3.out).alloc (after HB2.out HB3.out).size _)
 have HS3:Hid (w2.heap.size≤w3.heap.size∧(w3.alloc O3).heap.size = w3.heap.size + 1):=Lib.hid ⟨HB3.out.size,by simp⟩
 have HLT:Hid (∀ g,g∈blk ca'∨g∈blk pa'→w2.heap.size≤g∧g < w3.heap.size):=Lib.hid fun g hg => by rcases hg with h | h;exact HOC.out.blk_lt g h;exact HOP.out.blk_lt g h
 subst hO3
 obtain ⟨g,rfl⟩:=HOC.out.pos HPOS.out
 generalize w3.alloc (.cells #[.slice pa' n pc',.slice (some ⟨g,0,none⟩) n cc',.int .i8 lv,.int .u8 sos,.int .u8 eos] 75) = W at *
 have d1:=cells_at HX3.out 1
 have d3:=cells_at HX3.out 3
 have dr:W.cell? ⟨w1.heap.size,0,none⟩ = some (.func (.func 75) #[] #[]):=cells_at HR3.out 0
 clear hc0 hc1 hc2 hc3 hc4
 have hgl:=(HLT.out g (.inl (by simp [blk_some]))).2
 have HWK:Hid (WkAt ((W.drew).alloc (.cells #[.slice (some ⟨g,0,none⟩) n cc',.int .u8 sos] 149)) ((W.drew).alloc (.cells #[.slice (some ⟨g,0,none⟩) n cc',.int .u8 sos] 149)) W.heap.size w2.heap.size g cc' sos n cs):=Lib.hid ⟨heap_alloc_new W.drew _,(HO3.out.drew).alloc _,by have:=HS3.out.2;omega,Kept.refl _ _⟩
 have HKE:Hid (∀ w5 r,WkAt ((W.drew).alloc (.cells #[.slice (some ⟨g,0,none⟩) n cc',.int .u8 sos] 149)) w5 W.heap.size w2.heap.size g cc' sos n r→∀ k,k < W.heap.size→k≠g→w5.heap[k]? = W.heap[k]?):=Lib.hid (fun w5 r hwk k hk hkg => (hwk.kept.block k (by simp;show k < W.heap.size + 1;omega) hkg).trans (Below.heap_alloc W.drew _ k hk))
 have hn1:w1.heap.size≠g:=by have:=(HLT.out g (.inl (by simp [blk_some]))).1;have:=HS2.out;omega
 have HN1:=Lib.hid hn1
 have HGL:=Lib.hid hgl
 clear hn1 hgl
 have hwr:IntKind.i64.wrap ((1:Int) - 1) = 0:=by decide
 have hwq:(1:Int) - 1 = 0:=by decide
 have hwp:IntKind.i64.wrap (0:Int) = 0:=by decide
 go_region_held3 (fun w' => w'.cell? ⟨w3.heap.size,1,none⟩ = some (.slice (some ⟨g,0,none⟩) n cc')∧w'.cell? ⟨w3.heap.size,3,none⟩ = some (.int .u8 sos)∧w'.cell? ⟨w1.heap.size,0,none⟩ = some (.func (.func 75) #[] #[])) (first | exact ⟨d1,d3,dr⟩ | exact ke | go_keep)
  ((go_at_call 75;refine (HTU.out _ _ _ _ _ HWK.out).mono ?_;rintro e w5 ⟨rfl,hwk⟩;have HX5:=Lib.hid ((HKE.out _ _ hwk w3.heap.size (by have:=HS3.out.2;omega) (by have:=HGL.out;omega)).trans HX3.out);have HR5:=Lib.hid ((HKE.out _ _ hwk w1.heap.size (by have:=HS3.out;have:=HS2.out;omega) HN1.out).trans HR3.out);have ke:=And.intro (cells_at HX5.out 1) (And.intro (cells_at HX5.out 3) (cells_at HR5.out 0));have HY5:=Lib.hid ((HKE.out _ _ hwk (w.heap.size + 1) (by have:=HS1.out;have:=HS2.out;have:=HS3.out;omega) (by have:=HS1.out;have:=HS2.out;have:=(HLT.out g (.inl (by simp [blk_some]))).1;omega)).trans HY3.out);have HWK5:=Lib.hid hwk;clear hwk))
 have b0:=cells_at HX5.out 0
 have b1:=cells_at HX5.out 1
 have b2:=cells_at HX5.out 2
 have b3:=cells_at HX5.out 3
 have b4:=cells_at HX5.out 4
 have e0:=cells_at HY5.out 0
 have e1:=cells_at HY5.out 1
 have e2:=cells_at HY5.out 2
 have e3:=cells_at HY5.out 3
 have e4:=cells_at HY5.out 4
 have f0:=frozen_at HY5.out 0
 have f1:=frozen_at HY5.out 1
 have f2:=frozen_at HY5.out 2
 have f3:=frozen_at HY5.out 3
 have f4:=frozen_at HY5.out 4
 clear ke d1 d3 dr hwr hwq hwp
 go_wp2
 have hfin:=heap_set5 HY5.out (.slice pa' n pc') (.slice (some ⟨g,0,none⟩) n cc') (.int .i8 lv) (.int .u8 sos) (.int .u8 eos)
 have hres:∀ (tmps:Array Value) (W':World),W'.heap[w.heap.size + 1]? = some (.cells #[.slice pa' n pc',.slice (some ⟨g,0,none⟩) n cc',.int .i8 lv,.int .u8 sos,.int .u8 eos] 75)→tmps.getD 4 undef = .pointer (some ⟨w.heap.size + 1,0,none⟩)→tmps.getD 5 undef = .int .i64 0→(results Tryz.f45 tmps).run Tryz.prog W' = .ok (.tuple #[.agg #[.slice pa' n pc',.slice (some ⟨g,0,none⟩) n cc',.int .i8 lv,.int .u8 sos,.int .u8 eos],.int .i64 0]) W':=by
  intro tmps W' h1 h2 h3
  rw [results_cell_tmp rfl]
  have hlv:=run_loadVar_row (P:=Tryz.prog) _ (w.heap.size + 1) 75 75 _ _ _ h1 Tryz.underlying75 rfl (by kernel_rfl)
  rw [h2,h3]
  simp [asAddr,hlv]
 have q1:w.heap.size + 1 ∉ blk pa':=fun h => by have:=(HLT.out _ (.inr h)).1;have:=HS1.out;have:=HS2.out;omega
 have q2:w.heap.size + 1 ∉ blk (some (⟨g,0,none⟩:Addr)):=fun h => by have:=(HLT.out _ (.inl h)).1;have:=HS1.out;have:=HS2.out;omega
 have p5:=HWK5.out.kept.own ((HP3.out.drew).alloc _) (fun g' hg' e => HNE.out g' (blk_mem.2 hg') (by rw [e];simp [blk_some]))
 refine bodyPost_ret (hres _ _ hfin rfl rfl) rfl ⟨pa',pc',some ⟨g,0,none⟩,cc',rfl,(p5.set5 q1 _ _ _ _ _).mono (by have:=HS1.out;have:=HS2.out;omega),(HWK5.out.own.set5 q2 _ _ _ _ _).mono (by have:=HS1.out;have:=HS2.out;omega),below_set5 (HWK5.out.kept.below ((HB4.out.drew).alloc HB4.out.size _) (fun k hk => by rw [hk];have:=(HLT.out g (.inl (by simp [blk_some]))).1;have:=HS1.out;have:=HS2.out;omega) (by have:=HB4.out.size;simp;omega)) (by omega) _ _ _ _ _⟩
theorem rule2_any (w:World) (s:Sq) (hs:s.Ok) (pa ca:Option Addr) (pc cc:Nat) (hi:s.In w pa ca):
 Calls Tryz.prog 45 #[.int .i64 2,s.val pa pc ca cc] w fun e w' => ∃ pa' pc' ca' cc',e = .returned (.tuple #[{ s with cs:=ruleOf 2 s.sos s.cs }.val pa' pc' ca' cc',.int .i64 0])∧Own w' w.heap.size 1 pa' s.ps.length pc' (s.ps.map natV)∧Own w' w.heap.size 1 ca' s.ps.length cc' ((ruleOf 2 s.sos s.cs).map u8V)∧Below w.heap.size w w':=by
 have HCK:=Lib.hid (fun w h => check_any w s hs pa ca pc cc h)
 have HCP:=Lib.hid (fun w h => copy_any w s hs pa ca pc cc h)
 have HTU:=Lib.hid (fun w B wb g c h => rule_turn 2 (by omega) w B wb g c s hs h)
 have HPOS:=Lib.hid hs.pos
 have HIN:=Lib.hid hi
 obtain ⟨ps,cs,lv,sos,eos⟩:=s
 unfold Sq.val at HCK HCP ⊢
 simp only at HCK HCP HTU HPOS ⊢
 rw [show ruleF 2 = 76 from rfl] at HTU
 obtain ⟨n,hn⟩:∃ n,n = ps.length:=⟨_,rfl⟩
 rw [← hn] at HCK HCP HTU HPOS ⊢
 clear hi hs hn
 obtain ⟨O1,hO1⟩:∃ O,O = Obj.cells #[.slice pa n pc,.slice ca n cc,.int .i8 lv,.int .u8 sos,.int .u8 eos] 75:=⟨_,rfl⟩
 obtain ⟨O2,hO2⟩:∃ O,O = Obj.cells #[.slice none 0 0,.slice none 0 0,.int .i8 0,.int .u8 0,.int .u8 0] 75:=⟨_,rfl⟩
 have hw1:((w.alloc O1).alloc O2).heap[w.heap.size]? = some O1:=(Below.heap_alloc _ _ _ (by simp)).trans (heap_alloc_new w O1)
 have hw2:((w.alloc O1).alloc O2).heap[w.heap.size + 1]? = some O2:=by
  have:=heap_alloc_new (w.alloc O1) O2
  rwa [World.size_alloc] at this
 have HB0:Hid (Below w.heap.size w ((w.alloc O1).alloc O2)):=Lib.hid (((Below.refl _ _).alloc (Nat.le_refl _) _).alloc (by simp) _)
 have HSZ:Hid (((w.alloc O1).alloc O2).heap.size = w.heap.size + 2):=Lib.hid (by simp)
 have HW1:=Lib.hid hw1
 have HW2:=Lib.hid hw2
 subst hO1
 subst hO2
 clear hw1 hw2
 go_enter Tryz.func45,Tryz.ntmps45
 go_wp2_with (first | (go_at_call 46;refine (HCK.out _ (HIN.out.below HB0.out)).mono ?_;rintro e w1 ⟨rfl,hb1⟩;have HB1:=Lib.hid (HB0.out.trans (hb1.mono (by rw [HSZ.out];omega)));have HX1:=Lib.hid ((hb1.block w.heap.size (by rw [HSZ.out];omega)).trans HW1.out);have HY1:=Lib.hid ((hb1.block (w.heap.size + 1) (by rw [HSZ.out];omega)).trans HW2.out);have HS1:=Lib.hid (show w.heap.size + 2≤w1.heap.size by have:=hb1.size;rw [HSZ.out] at this;exact this);clear hb1) | (go_at_call 44;go_loud (refine (rules_any _).mono ?_;rintro e w2 ⟨rfl,hw2⟩;have HB2:=Lib.hid (show Below w.heap.size w w2 by rw [hw2];exact HB1.out.alloc HB1.out.size _);have HX2:=Lib.hid ((congrArg (fun v:World => v.heap[w.heap.size]?) hw2).trans ((Below.heap_alloc w1 (.cells rulesV.toArray 146) w.heap.size (by have:=HS1.out;omega)).trans HX1.out));have HY2:=Lib.hid ((congrArg (fun v:World => v.heap[w.heap.size + 1]?) hw2).trans ((Below.heap_alloc w1 (.cells rulesV.toArray 146) (w.heap.size + 1) (by have:=HS1.out;omega)).trans HY1.out));have HR2:=Lib.hid (show w2.heap[w1.heap.size]? = some (.cells rulesV.toArray 146) by rw [hw2];exact heap_alloc_new w1 _);have HS2:=Lib.hid (show w2.heap.size = w1.heap.size + 1 by rw [hw2];simp);have hc0:=cells_at HX2.out 0;have hc1:=cells_at HX2.out 1;have hc2:=cells_at HX2.out 2;have hc3:=cells_at HX2.out 3;have hc4:=cells_at HX2.out 4;clear hw2)) | (go_at_call 49;refine (HCP.out _ (HIN.out.below HB2.out)).mono ?_;rintro e w3 ⟨pa',pc',ca',cc',rfl,hop,hoc,hne,hb3⟩;have HOP:=Lib.hid hop;have HOC:=Lib.hid hoc;have HNE:=Lib.hid hne;have HB3:=Lib.hid hb3;clear hop hoc hne hb3))
 obtain ⟨O3,hO3⟩:∃ O,O = Obj.cells #[.slice pa' n pc',.slice ca' n cc',.int .i8 lv,.int .u8 sos,.int .u8 eos] 75:=⟨_,rfl⟩
 have HX3:Hid ((w3.alloc O3).heap[w3.heap.size]? = some O3):=Lib.hid (heap_alloc_new _ _)
 have HY3:Hid ((w3.alloc O3).heap[w.heap.size + 1]? = some (.cells #[.slice none 0 0,.slice none 0 0,.int .i8 0,.int .u8 0,.int .u8 0] 75)):=Lib.hid ((Below.heap_alloc _ _ _ (by have:=HS1.out;have:=HS2.out;have:=HB3.out.size;omega)).trans ((HB3.out.block _ (by have:=HS1.out;have:=HS2.out;omega)).trans HY2.out))
 have HR3:Hid ((w3.alloc O3).heap[w1.heap.size]? = some (.cells rulesV.toArray 146)):=Lib.hid ((Below.heap_alloc _ _ _ (by have:=HS2.out;have:=HB3.out.size;omega)).trans ((HB3.out.block _ (by have:=HS2.out;omega)).trans HR2.out))
 have HO3:Hid (Own (w3.alloc O3) w2.heap.size 1 ca' n cc' (cs.map u8V)):=Lib.hid (HOC.out.alloc _)
 have HP3:Hid (Own (w3.alloc O3) w2.heap.size 1 pa' n pc' (ps.map natV)):=Lib.hid (HOP.out.alloc _)
 have HB4:Hid (Below w.heap.size w (w3.alloc O3)):=Lib.hid ((after HB2.out HB3.out).alloc (after HB2.out HB3.out).size _)
 have HS3:Hid (w2.heap.size≤w3.heap.size∧(w3.alloc O3).heap.size = w3.heap.size + 1):=Lib.hid ⟨HB3.out.size,by simp⟩
 have HLT:Hid (∀ g,g∈blk ca'∨g∈blk pa'→w2.heap.size≤g∧g < w3.heap.size):=Lib.hid fun g hg => by rcases hg with h | h;exact HOC.out.blk_lt g h;exact HOP.out.blk_lt g h
 subst hO3
 obtain ⟨g,rfl⟩:=HOC.out.pos HPOS.out
 generalize w3.alloc (.cells #[.slice pa' n pc',.slice (some ⟨g,0,none⟩) n cc',.int .i8 lv,.int .u8 sos,.int .u8 eos] 75) = W at *
 have d1:=cells_at HX3.out 1
 have d3:=cells_at HX3.out 3
 have dr:W.cell? ⟨w1.heap.size,1,none⟩ = some (.func (.func 76) #[] #[]):=cells_at HR3.out 1
 clear hc0 hc1 hc2 hc3 hc4
 have hgl:=(HLT.out g (.inl (by simp [blk_some]))).2
 have HWK:Hid (WkAt ((W.drew).alloc (.cells #[.slice (some ⟨g,0,none⟩) n cc',.int .u8 sos] 149)) ((W.drew).alloc (.cells #[.slice (some ⟨g,0,none⟩) n cc',.int .u8 sos] 149)) W.heap.size w2.heap.size g cc' sos n cs):=Lib.hid ⟨heap_alloc_new W.drew _,(HO3.out.drew).alloc _,by have:=HS3.out.2;omega,Kept.refl _ _⟩
 have HKE:Hid (∀ w5 r,WkAt ((W.drew).alloc (.cells #[.slice (some ⟨g,0,none⟩) n cc',.int .u8 sos] 149)) w5 W.heap.size w2.heap.size g cc' sos n r→∀ k,k < W.heap.size→k≠g→w5.heap[k]? = W.heap[k]?):=Lib.hid (fun w5 r hwk k hk hkg => (hwk.kept.block k (by simp;show k < W.heap.size + 1;omega) hkg).trans (Below.heap_alloc W.drew _ k hk))
 have hn1:w1.heap.size≠g:=by have:=(HLT.out g (.inl (by simp [blk_some]))).1;have:=HS2.out;omega
 have HN1:=Lib.hid hn1
 have HGL:=Lib.hid hgl
 clear hn1 hgl
 have hwr:IntKind.i64.wrap ((2:Int) - 1) = 1:=by decide
 have hwq:(2:Int) - 1 = 1:=by decide
 have hwp:IntKind.i64.wrap (1:Int) = 1:=by decide
 go_region_held3 (fun w' => w'.cell? ⟨w3.heap.size,1,none⟩ = some (.slice (some ⟨g,0,none⟩) n cc')∧w'.cell? ⟨w3.heap.size,3,none⟩ = some (.int .u8 sos)∧w'.cell? ⟨w1.heap.size,1,none⟩ = some (.func (.func 76) #[] #[])) (first | exact ⟨d1,d3,dr⟩ | exact ke | go_keep)
  ((go_at_call 76;refine (HTU.out _ _ _ _ _ HWK.out).mono ?_;rintro e w5 ⟨rfl,hwk⟩;have HX5:=Lib.hid ((HKE.out _ _ hwk w3.heap.size (by have:=HS3.out.2;omega) (by have:=HGL.out;omega)).trans HX3.out);have HR5:=Lib.hid ((HKE.out _ _ hwk w1.heap.size (by have:=HS3.out;have:=HS2.out;omega) HN1.out).trans HR3.out);have ke:=And.intro (cells_at HX5.out 1) (And.intro (cells_at HX5.out 3) (cells_at HR5.out 1));have HY5:=Lib.hid ((HKE.out _ _ hwk (w.heap.size + 1) (by have:=HS1.out;have:=HS2.out;have:=HS3.out;omega) (by have:=HS1.out;have:=HS2.out;have:=(HLT.out g (.inl (by simp [blk_some]))).1;omega)).trans HY3.out);have HWK5:=Lib.hid hwk;clear hwk))
 have b0:=cells_at HX5.out 0
 have b1:=cells_at HX5.out 1
 have b2:=cells_at HX5.out 2
 have b3:=cells_at HX5.out 3
 have b4:=cells_at HX5.out 4
 have e0:=cells_at HY5.out 0
 have e1:=cells_at HY5.out 1
 have e2:=cells_at HY5.out 2
 have e3:=cells_at HY5.out 3
 have e4:=cells_at HY5.out 4
 have f0:=frozen_at HY5.out 0
 have f1:=frozen_at HY5.out 1
 have f2:=frozen_at HY5.out 2
 have f3:=frozen_at HY5.out 3
 have f4:=frozen_at HY5.out 4
 clear ke d1 d3 dr hwr hwq hwp
 go_wp2
 have hfin:=heap_set5 HY5.out (.slice pa' n pc') (.slice (some ⟨g,0,none⟩) n cc') (.int .i8 lv) (.int .u8 sos) (.int .u8 eos)
 have hres:∀ (tmps:Array Value) (W':World),W'.heap[w.heap.size + 1]? = some (.cells #[.slice pa' n pc',.slice (some ⟨g,0,none⟩) n cc',.int .i8 lv,.int .u8 sos,.int .u8 eos] 75)→tmps.getD 4 undef = .pointer (some ⟨w.heap.size + 1,0,none⟩)→tmps.getD 5 undef = .int .i64 0→(results Tryz.f45 tmps).run Tryz.prog W' = .ok (.tuple #[.agg #[.slice pa' n pc',.slice (some ⟨g,0,none⟩) n cc',.int .i8 lv,.int .u8 sos,.int .u8 eos],.int .i64 0]) W':=by
  intro tmps W' h1 h2 h3
  rw [results_cell_tmp rfl]
  have hlv:=run_loadVar_row (P:=Tryz.prog) _ (w.heap.size + 1) 75 75 _ _ _ h1 Tryz.underlying75 rfl (by kernel_rfl)
  rw [h2,h3]
  simp [asAddr,hlv]
 have q1:w.heap.size + 1 ∉ blk pa':=fun h => by have:=(HLT.out _ (.inr h)).1;have:=HS1.out;have:=HS2.out;omega
 have q2:w.heap.size + 1 ∉ blk (some (⟨g,0,none⟩:Addr)):=fun h => by have:=(HLT.out _ (.inl h)).1;have:=HS1.out;have:=HS2.out;omega
 have p5:=HWK5.out.kept.own ((HP3.out.drew).alloc _) (fun g' hg' e => HNE.out g' (blk_mem.2 hg') (by rw [e];simp [blk_some]))
 refine bodyPost_ret (hres _ _ hfin rfl rfl) rfl ⟨pa',pc',some ⟨g,0,none⟩,cc',rfl,(p5.set5 q1 _ _ _ _ _).mono (by have:=HS1.out;have:=HS2.out;omega),(HWK5.out.own.set5 q2 _ _ _ _ _).mono (by have:=HS1.out;have:=HS2.out;omega),below_set5 (HWK5.out.kept.below ((HB4.out.drew).alloc HB4.out.size _) (fun k hk => by rw [hk];have:=(HLT.out g (.inl (by simp [blk_some]))).1;have:=HS1.out;have:=HS2.out;omega) (by have:=HB4.out.size;simp;omega)) (by omega) _ _ _ _ _⟩
theorem rule3_any (w:World) (s:Sq) (hs:s.Ok) (pa ca:Option Addr) (pc cc:Nat) (hi:s.In w pa ca):
 Calls Tryz.prog 45 #[.int .i64 3,s.val pa pc ca cc] w fun e w' => ∃ pa' pc' ca' cc',e = .returned (.tuple #[{ s with cs:=ruleOf 3 s.sos s.cs }.val pa' pc' ca' cc',.int .i64 0])∧Own w' w.heap.size 1 pa' s.ps.length pc' (s.ps.map natV)∧Own w' w.heap.size 1 ca' s.ps.length cc' ((ruleOf 3 s.sos s.cs).map u8V)∧Below w.heap.size w w':=by
 have HCK:=Lib.hid (fun w h => check_any w s hs pa ca pc cc h)
 have HCP:=Lib.hid (fun w h => copy_any w s hs pa ca pc cc h)
 have HTU:=Lib.hid (fun w B wb g c h => rule_turn 3 (by omega) w B wb g c s hs h)
 have HPOS:=Lib.hid hs.pos
 have HIN:=Lib.hid hi
 obtain ⟨ps,cs,lv,sos,eos⟩:=s
 unfold Sq.val at HCK HCP ⊢
 simp only at HCK HCP HTU HPOS ⊢
 rw [show ruleF 3 = 77 from rfl] at HTU
 obtain ⟨n,hn⟩:∃ n,n = ps.length:=⟨_,rfl⟩
 rw [← hn] at HCK HCP HTU HPOS ⊢
 clear hi hs hn
 obtain ⟨O1,hO1⟩:∃ O,O = Obj.cells #[.slice pa n pc,.slice ca n cc,.int .i8 lv,.int .u8 sos,.int .u8 eos] 75:=⟨_,rfl⟩
 obtain ⟨O2,hO2⟩:∃ O,O = Obj.cells #[.slice none 0 0,.slice none 0 0,.int .i8 0,.int .u8 0,.int .u8 0] 75:=⟨_,rfl⟩
 have hw1:((w.alloc O1).alloc O2).heap[w.heap.size]? = some O1:=(Below.heap_alloc _ _ _ (by simp)).trans (heap_alloc_new w O1)
 have hw2:((w.alloc O1).alloc O2).heap[w.heap.size + 1]? = some O2:=by
  have:=heap_alloc_new (w.alloc O1) O2
  rwa [World.size_alloc] at this
 have HB0:Hid (Below w.heap.size w ((w.alloc O1).alloc O2)):=Lib.hid (((Below.refl _ _).alloc (Nat.le_refl _) _).alloc (by simp) _)
 have HSZ:Hid (((w.alloc O1).alloc O2).heap.size = w.heap.size + 2):=Lib.hid (by simp)
 have HW1:=Lib.hid hw1
 have HW2:=Lib.hid hw2
 subst hO1
 subst hO2
 clear hw1 hw2
 go_enter Tryz.func45,Tryz.ntmps45
 go_wp2_with (first | (go_at_call 46;refine (HCK.out _ (HIN.out.below HB0.out)).mono ?_;rintro e w1 ⟨rfl,hb1⟩;have HB1:=Lib.hid (HB0.out.trans (hb1.mono (by rw [HSZ.out];omega)));have HX1:=Lib.hid ((hb1.block w.heap.size (by rw [HSZ.out];omega)).trans HW1.out);have HY1:=Lib.hid ((hb1.block (w.heap.size + 1) (by rw [HSZ.out];omega)).trans HW2.out);have HS1:=Lib.hid (show w.heap.size + 2≤w1.heap.size by have:=hb1.size;rw [HSZ.out] at this;exact this);clear hb1) | (go_at_call 44;go_loud (refine (rules_any _).mono ?_;rintro e w2 ⟨rfl,hw2⟩;have HB2:=Lib.hid (show Below w.heap.size w w2 by rw [hw2];exact HB1.out.alloc HB1.out.size _);have HX2:=Lib.hid ((congrArg (fun v:World => v.heap[w.heap.size]?) hw2).trans ((Below.heap_alloc w1 (.cells rulesV.toArray 146) w.heap.size (by have:=HS1.out;omega)).trans HX1.out));have HY2:=Lib.hid ((congrArg (fun v:World => v.heap[w.heap.size + 1]?) hw2).trans ((Below.heap_alloc w1 (.cells rulesV.toArray 146) (w.heap.size + 1) (by have:=HS1.out;omega)).trans HY1.out));have HR2:=Lib.hid (show w2.heap[w1.heap.size]? = some (.cells rulesV.toArray 146) by rw [hw2];exact heap_alloc_new w1 _);have HS2:=Lib.hid (show w2.heap.size = w1.heap.size + 1 by rw [hw2];simp);have hc0:=cells_at HX2.out 0;have hc1:=cells_at HX2.out 1;have hc2:=cells_at HX2.out 2;have hc3:=cells_at HX2.out 3;have hc4:=cells_at HX2.out 4;clear hw2)) | (go_at_call 49;refine (HCP.out _ (HIN.out.below HB2.out)).mono ?_;rintro e w3 ⟨pa',pc',ca',cc',rfl,hop,hoc,hne,hb3⟩;have HOP:=Lib.hid hop;have HOC:=Lib.hid hoc;have HNE:=Lib.hid hne;have HB3:=Lib.hid hb3;clear hop hoc hne hb3))
 obtain ⟨O3,hO3⟩:∃ O,O = Obj.cells #[.slice pa' n pc',.slice ca' n cc',.int .i8 lv,.int .u8 sos,.int .u8 eos] 75:=⟨_,rfl⟩
 have HX3:Hid ((w3.alloc O3).heap[w3.heap.size]? = some O3):=Lib.hid (heap_alloc_new _ _)
 have HY3:Hid ((w3.alloc O3).heap[w.heap.size + 1]? = some (.cells #[.slice none 0 0,.slice none 0 0,.int .i8 0,.int .u8 0,.int .u8 0] 75)):=Lib.hid ((Below.heap_alloc _ _ _ (by have:=HS1.out;have:=HS2.out;have:=HB3.out.size;omega)).trans ((HB3.out.block _ (by have:=HS1.out;have:=HS2.out;omega)).trans HY2.out))
 have HR3:Hid ((w3.alloc O3).heap[w1.heap.size]? = some (.cells rulesV.toArray 146)):=Lib.hid ((Below.heap_alloc _ _ _ (by have:=HS2.out;have:=HB3.out.size;omega)).trans ((HB3.out.block _ (by have:=HS2.out;omega)).trans HR2.out))
 have HO3:Hid (Own (w3.alloc O3) w2.heap.size 1 ca' n cc' (cs.map u8V)):=Lib.hid (HOC.out.alloc _)
 have HP3:Hid (Own (w3.alloc O3) w2.heap.size 1 pa' n pc' (ps.map natV)):=Lib.hid (HOP.out.alloc _)
 have HB4:Hid (Below w.heap.size w (w3.alloc O3)):=Lib.hid ((after HB2.out HB3.out).alloc (after HB2.out HB3.out).size _)
 have HS3:Hid (w2.heap.size≤w3.heap.size∧(w3.alloc O3).heap.size = w3.heap.size + 1):=Lib.hid ⟨HB3.out.size,by simp⟩
 have HLT:Hid (∀ g,g∈blk ca'∨g∈blk pa'→w2.heap.size≤g∧g < w3.heap.size):=Lib.hid fun g hg => by rcases hg with h | h;exact HOC.out.blk_lt g h;exact HOP.out.blk_lt g h
 subst hO3
 obtain ⟨g,rfl⟩:=HOC.out.pos HPOS.out
 generalize w3.alloc (.cells #[.slice pa' n pc',.slice (some ⟨g,0,none⟩) n cc',.int .i8 lv,.int .u8 sos,.int .u8 eos] 75) = W at *
 have d1:=cells_at HX3.out 1
 have d3:=cells_at HX3.out 3
 have dr:W.cell? ⟨w1.heap.size,2,none⟩ = some (.func (.func 77) #[] #[]):=cells_at HR3.out 2
 clear hc0 hc1 hc2 hc3 hc4
 have hgl:=(HLT.out g (.inl (by simp [blk_some]))).2
 have HWK:Hid (WkAt ((W.drew).alloc (.cells #[.slice (some ⟨g,0,none⟩) n cc',.int .u8 sos] 149)) ((W.drew).alloc (.cells #[.slice (some ⟨g,0,none⟩) n cc',.int .u8 sos] 149)) W.heap.size w2.heap.size g cc' sos n cs):=Lib.hid ⟨heap_alloc_new W.drew _,(HO3.out.drew).alloc _,by have:=HS3.out.2;omega,Kept.refl _ _⟩
 have HKE:Hid (∀ w5 r,WkAt ((W.drew).alloc (.cells #[.slice (some ⟨g,0,none⟩) n cc',.int .u8 sos] 149)) w5 W.heap.size w2.heap.size g cc' sos n r→∀ k,k < W.heap.size→k≠g→w5.heap[k]? = W.heap[k]?):=Lib.hid (fun w5 r hwk k hk hkg => (hwk.kept.block k (by simp;show k < W.heap.size + 1;omega) hkg).trans (Below.heap_alloc W.drew _ k hk))
 have hn1:w1.heap.size≠g:=by have:=(HLT.out g (.inl (by simp [blk_some]))).1;have:=HS2.out;omega
 have HN1:=Lib.hid hn1
 have HGL:=Lib.hid hgl
 clear hn1 hgl
 have hwr:IntKind.i64.wrap ((3:Int) - 1) = 2:=by decide
 have hwq:(3:Int) - 1 = 2:=by decide
 have hwp:IntKind.i64.wrap (2:Int) = 2:=by decide
 go_region_held3 (fun w' => w'.cell? ⟨w3.heap.size,1,none⟩ = some (.slice (some ⟨g,0,none⟩) n cc')∧w'.cell? ⟨w3.heap.size,3,none⟩ = some (.int .u8 sos)∧w'.cell? ⟨w1.heap.size,2,none⟩ = some (.func (.func 77) #[] #[])) (first | exact ⟨d1,d3,dr⟩ | exact ke | go_keep)
  ((go_at_call 77;refine (HTU.out _ _ _ _ _ HWK.out).mono ?_;rintro e w5 ⟨rfl,hwk⟩;have HX5:=Lib.hid ((HKE.out _ _ hwk w3.heap.size (by have:=HS3.out.2;omega) (by have:=HGL.out;omega)).trans HX3.out);have HR5:=Lib.hid ((HKE.out _ _ hwk w1.heap.size (by have:=HS3.out;have:=HS2.out;omega) HN1.out).trans HR3.out);have ke:=And.intro (cells_at HX5.out 1) (And.intro (cells_at HX5.out 3) (cells_at HR5.out 2));have HY5:=Lib.hid ((HKE.out _ _ hwk (w.heap.size + 1) (by have:=HS1.out;have:=HS2.out;have:=HS3.out;omega) (by have:=HS1.out;have:=HS2.out;have:=(HLT.out g (.inl (by simp [blk_some]))).1;omega)).trans HY3.out);have HWK5:=Lib.hid hwk;clear hwk))
 have b0:=cells_at HX5.out 0
 have b1:=cells_at HX5.out 1
 have b2:=cells_at HX5.out 2
 have b3:=cells_at HX5.out 3
 have b4:=cells_at HX5.out 4
 have e0:=cells_at HY5.out 0
 have e1:=cells_at HY5.out 1
 have e2:=cells_at HY5.out 2
 have e3:=cells_at HY5.out 3
 have e4:=cells_at HY5.out 4
 have f0:=frozen_at HY5.out 0
 have f1:=frozen_at HY5.out 1
 have f2:=frozen_at HY5.out 2
 have f3:=frozen_at HY5.out 3
 have f4:=frozen_at HY5.out 4
 clear ke d1 d3 dr hwr hwq hwp
 go_wp2
 have hfin:=heap_set5 HY5.out (.slice pa' n pc') (.slice (some ⟨g,0,none⟩) n cc') (.int .i8 lv) (.int .u8 sos) (.int .u8 eos)
 have hres:∀ (tmps:Array Value) (W':World),W'.heap[w.heap.size + 1]? = some (.cells #[.slice pa' n pc',.slice (some ⟨g,0,none⟩) n cc',.int .i8 lv,.int .u8 sos,.int .u8 eos] 75)→tmps.getD 4 undef = .pointer (some ⟨w.heap.size + 1,0,none⟩)→tmps.getD 5 undef = .int .i64 0→(results Tryz.f45 tmps).run Tryz.prog W' = .ok (.tuple #[.agg #[.slice pa' n pc',.slice (some ⟨g,0,none⟩) n cc',.int .i8 lv,.int .u8 sos,.int .u8 eos],.int .i64 0]) W':=by
  intro tmps W' h1 h2 h3
  rw [results_cell_tmp rfl]
  have hlv:=run_loadVar_row (P:=Tryz.prog) _ (w.heap.size + 1) 75 75 _ _ _ h1 Tryz.underlying75 rfl (by kernel_rfl)
  rw [h2,h3]
  simp [asAddr,hlv]
 have q1:w.heap.size + 1 ∉ blk pa':=fun h => by have:=(HLT.out _ (.inr h)).1;have:=HS1.out;have:=HS2.out;omega
 have q2:w.heap.size + 1 ∉ blk (some (⟨g,0,none⟩:Addr)):=fun h => by have:=(HLT.out _ (.inl h)).1;have:=HS1.out;have:=HS2.out;omega
 have p5:=HWK5.out.kept.own ((HP3.out.drew).alloc _) (fun g' hg' e => HNE.out g' (blk_mem.2 hg') (by rw [e];simp [blk_some]))
 refine bodyPost_ret (hres _ _ hfin rfl rfl) rfl ⟨pa',pc',some ⟨g,0,none⟩,cc',rfl,(p5.set5 q1 _ _ _ _ _).mono (by have:=HS1.out;have:=HS2.out;omega),(HWK5.out.own.set5 q2 _ _ _ _ _).mono (by have:=HS1.out;have:=HS2.out;omega),below_set5 (HWK5.out.kept.below ((HB4.out.drew).alloc HB4.out.size _) (fun k hk => by rw [hk];have:=(HLT.out g (.inl (by simp [blk_some]))).1;have:=HS1.out;have:=HS2.out;omega) (by have:=HB4.out.size;simp;omega)) (by omega) _ _ _ _ _⟩
theorem rule4_any (w:World) (s:Sq) (hs:s.Ok) (pa ca:Option Addr) (pc cc:Nat) (hi:s.In w pa ca):
 Calls Tryz.prog 45 #[.int .i64 4,s.val pa pc ca cc] w fun e w' => ∃ pa' pc' ca' cc',e = .returned (.tuple #[{ s with cs:=ruleOf 4 s.sos s.cs }.val pa' pc' ca' cc',.int .i64 0])∧Own w' w.heap.size 1 pa' s.ps.length pc' (s.ps.map natV)∧Own w' w.heap.size 1 ca' s.ps.length cc' ((ruleOf 4 s.sos s.cs).map u8V)∧Below w.heap.size w w':=by
 have HCK:=Lib.hid (fun w h => check_any w s hs pa ca pc cc h)
 have HCP:=Lib.hid (fun w h => copy_any w s hs pa ca pc cc h)
 have HTU:=Lib.hid (fun w B wb g c h => rule_turn 4 (by omega) w B wb g c s hs h)
 have HPOS:=Lib.hid hs.pos
 have HIN:=Lib.hid hi
 obtain ⟨ps,cs,lv,sos,eos⟩:=s
 unfold Sq.val at HCK HCP ⊢
 simp only at HCK HCP HTU HPOS ⊢
 rw [show ruleF 4 = 78 from rfl] at HTU
 obtain ⟨n,hn⟩:∃ n,n = ps.length:=⟨_,rfl⟩
 rw [← hn] at HCK HCP HTU HPOS ⊢
 clear hi hs hn
 obtain ⟨O1,hO1⟩:∃ O,O = Obj.cells #[.slice pa n pc,.slice ca n cc,.int .i8 lv,.int .u8 sos,.int .u8 eos] 75:=⟨_,rfl⟩
 obtain ⟨O2,hO2⟩:∃ O,O = Obj.cells #[.slice none 0 0,.slice none 0 0,.int .i8 0,.int .u8 0,.int .u8 0] 75:=⟨_,rfl⟩
 have hw1:((w.alloc O1).alloc O2).heap[w.heap.size]? = some O1:=(Below.heap_alloc _ _ _ (by simp)).trans (heap_alloc_new w O1)
 have hw2:((w.alloc O1).alloc O2).heap[w.heap.size + 1]? = some O2:=by
  have:=heap_alloc_new (w.alloc O1) O2
  rwa [World.size_alloc] at this
 have HB0:Hid (Below w.heap.size w ((w.alloc O1).alloc O2)):=Lib.hid (((Below.refl _ _).alloc (Nat.le_refl _) _).alloc (by simp) _)
 have HSZ:Hid (((w.alloc O1).alloc O2).heap.size = w.heap.size + 2):=Lib.hid (by simp)
 have HW1:=Lib.hid hw1
 have HW2:=Lib.hid hw2
 subst hO1
 subst hO2
 clear hw1 hw2
 go_enter Tryz.func45,Tryz.ntmps45
 go_wp2_with (first | (go_at_call 46;refine (HCK.out _ (HIN.out.below HB0.out)).mono ?_;rintro e w1 ⟨rfl,hb1⟩;have HB1:=Lib.hid (HB0.out.trans (hb1.mono (by rw [HSZ.out];omega)));have HX1:=Lib.hid ((hb1.block w.heap.size (by rw [HSZ.out];omega)).trans HW1.out);have HY1:=Lib.hid ((hb1.block (w.heap.size + 1) (by rw [HSZ.out];omega)).trans HW2.out);have HS1:=Lib.hid (show w.heap.size + 2≤w1.heap.size by have:=hb1.size;rw [HSZ.out] at this;exact this);clear hb1) | (go_at_call 44;go_loud (refine (rules_any _).mono ?_;rintro e w2 ⟨rfl,hw2⟩;have HB2:=Lib.hid (show Below w.heap.size w w2 by rw [hw2];exact HB1.out.alloc HB1.out.size _);have HX2:=Lib.hid ((congrArg (fun v:World => v.heap[w.heap.size]?) hw2).trans ((Below.heap_alloc w1 (.cells rulesV.toArray 146) w.heap.size (by have:=HS1.out;omega)).trans HX1.out));have HY2:=Lib.hid ((congrArg (fun v:World => v.heap[w.heap.size + 1]?) hw2).trans ((Below.heap_alloc w1 (.cells rulesV.toArray 146) (w.heap.size + 1) (by have:=HS1.out;omega)).trans HY1.out));have HR2:=Lib.hid (show w2.heap[w1.heap.size]? = some (.cells rulesV.toArray 146) by rw [hw2];exact heap_alloc_new w1 _);have HS2:=Lib.hid (show w2.heap.size = w1.heap.size + 1 by rw [hw2];simp);have hc0:=cells_at HX2.out 0;have hc1:=cells_at HX2.out 1;have hc2:=cells_at HX2.out 2;have hc3:=cells_at HX2.out 3;have hc4:=cells_at HX2.out 4;clear hw2)) | (go_at_call 49;refine (HCP.out _ (HIN.out.below HB2.out)).mono ?_;rintro e w3 ⟨pa',pc',ca',cc',rfl,hop,hoc,hne,hb3⟩;have HOP:=Lib.hid hop;have HOC:=Lib.hid hoc;have HNE:=Lib.hid hne;have HB3:=Lib.hid hb3;clear hop hoc hne hb3))
 obtain ⟨O3,hO3⟩:∃ O,O = Obj.cells #[.slice pa' n pc',.slice ca' n cc',.int .i8 lv,.int .u8 sos,.int .u8 eos] 75:=⟨_,rfl⟩
 have HX3:Hid ((w3.alloc O3).heap[w3.heap.size]? = some O3):=Lib.hid (heap_alloc_new _ _)
 have HY3:Hid ((w3.alloc O3).heap[w.heap.size + 1]? = some (.cells #[.slice none 0 0,.slice none 0 0,.int .i8 0,.int .u8 0,.int .u8 0] 75)):=Lib.hid ((Below.heap_alloc _ _ _ (by have:=HS1.out;have:=HS2.out;have:=HB3.out.size;omega)).trans ((HB3.out.block _ (by have:=HS1.out;have:=HS2.out;omega)).trans HY2.out))
 have HR3:Hid ((w3.alloc O3).heap[w1.heap.size]? = some (.cells rulesV.toArray 146)):=Lib.hid ((Below.heap_alloc _ _ _ (by have:=HS2.out;have:=HB3.out.size;omega)).trans ((HB3.out.block _ (by have:=HS2.out;omega)).trans HR2.out))
 have HO3:Hid (Own (w3.alloc O3) w2.heap.size 1 ca' n cc' (cs.map u8V)):=Lib.hid (HOC.out.alloc _)
 have HP3:Hid (Own (w3.alloc O3) w2.heap.size 1 pa' n pc' (ps.map natV)):=Lib.hid (HOP.out.alloc _)
 have HB4:Hid (Below w.heap.size w (w3.alloc O3)):=Lib.hid ((after HB2.out HB3.out).alloc (after HB2.out HB3.out).size _)
 have HS3:Hid (w2.heap.size≤w3.heap.size∧(w3.alloc O3).heap.size = w3.heap.size + 1):=Lib.hid ⟨HB3.out.size,by simp⟩
 have HLT:Hid (∀ g,g∈blk ca'∨g∈blk pa'→w2.heap.size≤g∧g < w3.heap.size):=Lib.hid fun g hg => by rcases hg with h | h;exact HOC.out.blk_lt g h;exact HOP.out.blk_lt g h
 subst hO3
 obtain ⟨g,rfl⟩:=HOC.out.pos HPOS.out
 generalize w3.alloc (.cells #[.slice pa' n pc',.slice (some ⟨g,0,none⟩) n cc',.int .i8 lv,.int .u8 sos,.int .u8 eos] 75) = W at *
 have d1:=cells_at HX3.out 1
 have d3:=cells_at HX3.out 3
 have dr:W.cell? ⟨w1.heap.size,3,none⟩ = some (.func (.func 78) #[] #[]):=cells_at HR3.out 3
 clear hc0 hc1 hc2 hc3 hc4
 have hgl:=(HLT.out g (.inl (by simp [blk_some]))).2
 have HWK:Hid (WkAt ((W.drew).alloc (.cells #[.slice (some ⟨g,0,none⟩) n cc',.int .u8 sos] 149)) ((W.drew).alloc (.cells #[.slice (some ⟨g,0,none⟩) n cc',.int .u8 sos] 149)) W.heap.size w2.heap.size g cc' sos n cs):=Lib.hid ⟨heap_alloc_new W.drew _,(HO3.out.drew).alloc _,by have:=HS3.out.2;omega,Kept.refl _ _⟩
 have HKE:Hid (∀ w5 r,WkAt ((W.drew).alloc (.cells #[.slice (some ⟨g,0,none⟩) n cc',.int .u8 sos] 149)) w5 W.heap.size w2.heap.size g cc' sos n r→∀ k,k < W.heap.size→k≠g→w5.heap[k]? = W.heap[k]?):=Lib.hid (fun w5 r hwk k hk hkg => (hwk.kept.block k (by simp;show k < W.heap.size + 1;omega) hkg).trans (Below.heap_alloc W.drew _ k hk))
 have hn1:w1.heap.size≠g:=by have:=(HLT.out g (.inl (by simp [blk_some]))).1;have:=HS2.out;omega
 have HN1:=Lib.hid hn1
 have HGL:=Lib.hid hgl
 clear hn1 hgl
 have hwr:IntKind.i64.wrap ((4:Int) - 1) = 3:=by decide
 have hwq:(4:Int) - 1 = 3:=by decide
 have hwp:IntKind.i64.wrap (3:Int) = 3:=by decide
 go_region_held3 (fun w' => w'.cell? ⟨w3.heap.size,1,none⟩ = some (.slice (some ⟨g,0,none⟩) n cc')∧w'.cell? ⟨w3.heap.size,3,none⟩ = some (.int .u8 sos)∧w'.cell? ⟨w1.heap.size,3,none⟩ = some (.func (.func 78) #[] #[])) (first | exact ⟨d1,d3,dr⟩ | exact ke | go_keep)
  ((go_at_call 78;refine (HTU.out _ _ _ _ _ HWK.out).mono ?_;rintro e w5 ⟨rfl,hwk⟩;have HX5:=Lib.hid ((HKE.out _ _ hwk w3.heap.size (by have:=HS3.out.2;omega) (by have:=HGL.out;omega)).trans HX3.out);have HR5:=Lib.hid ((HKE.out _ _ hwk w1.heap.size (by have:=HS3.out;have:=HS2.out;omega) HN1.out).trans HR3.out);have ke:=And.intro (cells_at HX5.out 1) (And.intro (cells_at HX5.out 3) (cells_at HR5.out 3));have HY5:=Lib.hid ((HKE.out _ _ hwk (w.heap.size + 1) (by have:=HS1.out;have:=HS2.out;have:=HS3.out;omega) (by have:=HS1.out;have:=HS2.out;have:=(HLT.out g (.inl (by simp [blk_some]))).1;omega)).trans HY3.out);have HWK5:=Lib.hid hwk;clear hwk))
 have b0:=cells_at HX5.out 0
 have b1:=cells_at HX5.out 1
 have b2:=cells_at HX5.out 2
 have b3:=cells_at HX5.out 3
 have b4:=cells_at HX5.out 4
 have e0:=cells_at HY5.out 0
 have e1:=cells_at HY5.out 1
 have e2:=cells_at HY5.out 2
 have e3:=cells_at HY5.out 3
 have e4:=cells_at HY5.out 4
 have f0:=frozen_at HY5.out 0
 have f1:=frozen_at HY5.out 1
 have f2:=frozen_at HY5.out 2
 have f3:=frozen_at HY5.out 3
 have f4:=frozen_at HY5.out 4
 clear ke d1 d3 dr hwr hwq hwp
 go_wp2
 have hfin:=heap_set5 HY5.out (.slice pa' n pc') (.slice (some ⟨g,0,none⟩) n cc') (.int .i8 lv) (.int .u8 sos) (.int .u8 eos)
 have hres:∀ (tmps:Array Value) (W':World),W'.heap[w.heap.size + 1]? = some (.cells #[.slice pa' n pc',.slice (some ⟨g,0,none⟩) n cc',.int .i8 lv,.int .u8 sos,.int .u8 eos] 75)→tmps.getD 4 undef = .pointer (some ⟨w.heap.size + 1,0,none⟩)→tmps.getD 5 undef = .int .i64 0→(results Tryz.f45 tmps).run Tryz.prog W' = .ok (.tuple #[.agg #[.slice pa' n pc',.slice (some ⟨g,0,none⟩) n cc',.int .i8 lv,.int .u8 sos,.int .u8 eos],.int .i64 0]) W':=by
  intro tmps W' h1 h2 h3
  rw [results_cell_tmp rfl]
  have hlv:=run_loadVar_row (P:=Tryz.prog) _ (w.heap.size + 1) 75 75 _ _ _ h1 Tryz.underlying75 rfl (by kernel_rfl)
  rw [h2,h3]
  simp [asAddr,hlv]
 have q1:w.heap.size + 1 ∉ blk pa':=fun h => by have:=(HLT.out _ (.inr h)).1;have:=HS1.out;have:=HS2.out;omega
 have q2:w.heap.size + 1 ∉ blk (some (⟨g,0,none⟩:Addr)):=fun h => by have:=(HLT.out _ (.inl h)).1;have:=HS1.out;have:=HS2.out;omega
 have p5:=HWK5.out.kept.own ((HP3.out.drew).alloc _) (fun g' hg' e => HNE.out g' (blk_mem.2 hg') (by rw [e];simp [blk_some]))
 refine bodyPost_ret (hres _ _ hfin rfl rfl) rfl ⟨pa',pc',some ⟨g,0,none⟩,cc',rfl,(p5.set5 q1 _ _ _ _ _).mono (by have:=HS1.out;have:=HS2.out;omega),(HWK5.out.own.set5 q2 _ _ _ _ _).mono (by have:=HS1.out;have:=HS2.out;omega),below_set5 (HWK5.out.kept.below ((HB4.out.drew).alloc HB4.out.size _) (fun k hk => by rw [hk];have:=(HLT.out g (.inl (by simp [blk_some]))).1;have:=HS1.out;have:=HS2.out;omega) (by have:=HB4.out.size;simp;omega)) (by omega) _ _ _ _ _⟩
theorem rule5_any (w:World) (s:Sq) (hs:s.Ok) (pa ca:Option Addr) (pc cc:Nat) (hi:s.In w pa ca):
 Calls Tryz.prog 45 #[.int .i64 5,s.val pa pc ca cc] w fun e w' => ∃ pa' pc' ca' cc',e = .returned (.tuple #[{ s with cs:=ruleOf 5 s.sos s.cs }.val pa' pc' ca' cc',.int .i64 0])∧Own w' w.heap.size 1 pa' s.ps.length pc' (s.ps.map natV)∧Own w' w.heap.size 1 ca' s.ps.length cc' ((ruleOf 5 s.sos s.cs).map u8V)∧Below w.heap.size w w':=by
 have HCK:=Lib.hid (fun w h => check_any w s hs pa ca pc cc h)
 have HCP:=Lib.hid (fun w h => copy_any w s hs pa ca pc cc h)
 have HTU:=Lib.hid (fun w B wb g c h => rule_turn 5 (by omega) w B wb g c s hs h)
 have HPOS:=Lib.hid hs.pos
 have HIN:=Lib.hid hi
 obtain ⟨ps,cs,lv,sos,eos⟩:=s
 unfold Sq.val at HCK HCP ⊢
 simp only at HCK HCP HTU HPOS ⊢
 rw [show ruleF 5 = 79 from rfl] at HTU
 obtain ⟨n,hn⟩:∃ n,n = ps.length:=⟨_,rfl⟩
 rw [← hn] at HCK HCP HTU HPOS ⊢
 clear hi hs hn
 obtain ⟨O1,hO1⟩:∃ O,O = Obj.cells #[.slice pa n pc,.slice ca n cc,.int .i8 lv,.int .u8 sos,.int .u8 eos] 75:=⟨_,rfl⟩
 obtain ⟨O2,hO2⟩:∃ O,O = Obj.cells #[.slice none 0 0,.slice none 0 0,.int .i8 0,.int .u8 0,.int .u8 0] 75:=⟨_,rfl⟩
 have hw1:((w.alloc O1).alloc O2).heap[w.heap.size]? = some O1:=(Below.heap_alloc _ _ _ (by simp)).trans (heap_alloc_new w O1)
 have hw2:((w.alloc O1).alloc O2).heap[w.heap.size + 1]? = some O2:=by
  have:=heap_alloc_new (w.alloc O1) O2
  rwa [World.size_alloc] at this
 have HB0:Hid (Below w.heap.size w ((w.alloc O1).alloc O2)):=Lib.hid (((Below.refl _ _).alloc (Nat.le_refl _) _).alloc (by simp) _)
 have HSZ:Hid (((w.alloc O1).alloc O2).heap.size = w.heap.size + 2):=Lib.hid (by simp)
 have HW1:=Lib.hid hw1
 have HW2:=Lib.hid hw2
 subst hO1
 subst hO2
 clear hw1 hw2
 go_enter Tryz.func45,Tryz.ntmps45
 go_wp2_with (first | (go_at_call 46;refine (HCK.out _ (HIN.out.below HB0.out)).mono ?_;rintro e w1 ⟨rfl,hb1⟩;have HB1:=Lib.hid (HB0.out.trans (hb1.mono (by rw [HSZ.out];omega)));have HX1:=Lib.hid ((hb1.block w.heap.size (by rw [HSZ.out];omega)).trans HW1.out);have HY1:=Lib.hid ((hb1.block (w.heap.size + 1) (by rw [HSZ.out];omega)).trans HW2.out);have HS1:=Lib.hid (show w.heap.size + 2≤w1.heap.size by have:=hb1.size;rw [HSZ.out] at this;exact this);clear hb1) | (go_at_call 44;go_loud (refine (rules_any _).mono ?_;rintro e w2 ⟨rfl,hw2⟩;have HB2:=Lib.hid (show Below w.heap.size w w2 by rw [hw2];exact HB1.out.alloc HB1.out.size _);have HX2:=Lib.hid ((congrArg (fun v:World => v.heap[w.heap.size]?) hw2).trans ((Below.heap_alloc w1 (.cells rulesV.toArray 146) w.heap.size (by have:=HS1.out;omega)).trans HX1.out));have HY2:=Lib.hid ((congrArg (fun v:World => v.heap[w.heap.size + 1]?) hw2).trans ((Below.heap_alloc w1 (.cells rulesV.toArray 146) (w.heap.size + 1) (by have:=HS1.out;omega)).trans HY1.out));have HR2:=Lib.hid (show w2.heap[w1.heap.size]? = some (.cells rulesV.toArray 146) by rw [hw2];exact heap_alloc_new w1 _);have HS2:=Lib.hid (show w2.heap.size = w1.heap.size + 1 by rw [hw2];simp);have hc0:=cells_at HX2.out 0;have hc1:=cells_at HX2.out 1;have hc2:=cells_at HX2.out 2;have hc3:=cells_at HX2.out 3;have hc4:=cells_at HX2.out 4;clear hw2)) | (go_at_call 49;refine (HCP.out _ (HIN.out.below HB2.out)).mono ?_;rintro e w3 ⟨pa',pc',ca',cc',rfl,hop,hoc,hne,hb3⟩;have HOP:=Lib.hid hop;have HOC:=Lib.hid hoc;have HNE:=Lib.hid hne;have HB3:=Lib.hid hb3;clear hop hoc hne hb3))
 obtain ⟨O3,hO3⟩:∃ O,O = Obj.cells #[.slice pa' n pc',.slice ca' n cc',.int .i8 lv,.int .u8 sos,.int .u8 eos] 75:=⟨_,rfl⟩
 have HX3:Hid ((w3.alloc O3).heap[w3.heap.size]? = some O3):=Lib.hid (heap_alloc_new _ _)
 have HY3:Hid ((w3.alloc O3).heap[w.heap.size + 1]? = some (.cells #[.slice none 0 0,.slice none 0 0,.int .i8 0,.int .u8 0,.int .u8 0] 75)):=Lib.hid ((Below.heap_alloc _ _ _ (by have:=HS1.out;have:=HS2.out;have:=HB3.out.size;omega)).trans ((HB3.out.block _ (by have:=HS1.out;have:=HS2.out;omega)).trans HY2.out))
 have HR3:Hid ((w3.alloc O3).heap[w1.heap.size]? = some (.cells rulesV.toArray 146)):=Lib.hid ((Below.heap_alloc _ _ _ (by have:=HS2.out;have:=HB3.out.size;omega)).trans ((HB3.out.block _ (by have:=HS2.out;omega)).trans HR2.out))
 have HO3:Hid (Own (w3.alloc O3) w2.heap.size 1 ca' n cc' (cs.map u8V)):=Lib.hid (HOC.out.alloc _)
 have HP3:Hid (Own (w3.alloc O3) w2.heap.size 1 pa' n pc' (ps.map natV)):=Lib.hid (HOP.out.alloc _)
 have HB4:Hid (Below w.heap.size w (w3.alloc O3)):=Lib.hid ((after HB2.out HB3.out).alloc (after HB2.out HB3.out).size _)
 have HS3:Hid (w2.heap.size≤w3.heap.size∧(w3.alloc O3).heap.size = w3.heap.size + 1):=Lib.hid ⟨HB3.out.size,by simp⟩
 have HLT:Hid (∀ g,g∈blk ca'∨g∈blk pa'→w2.heap.size≤g∧g < w3.heap.size):=Lib.hid fun g hg => by rcases hg with h | h;exact HOC.out.blk_lt g h;exact HOP.out.blk_lt g h
 subst hO3
 obtain ⟨g,rfl⟩:=HOC.out.pos HPOS.out
 generalize w3.alloc (.cells #[.slice pa' n pc',.slice (some ⟨g,0,none⟩) n cc',.int .i8 lv,.int .u8 sos,.int .u8 eos] 75) = W at *
 have d1:=cells_at HX3.out 1
 have d3:=cells_at HX3.out 3
 have dr:W.cell? ⟨w1.heap.size,4,none⟩ = some (.func (.func 79) #[] #[]):=cells_at HR3.out 4
 clear hc0 hc1 hc2 hc3 hc4
 have hgl:=(HLT.out g (.inl (by simp [blk_some]))).2
 have HWK:Hid (WkAt ((W.drew).alloc (.cells #[.slice (some ⟨g,0,none⟩) n cc',.int .u8 sos] 149)) ((W.drew).alloc (.cells #[.slice (some ⟨g,0,none⟩) n cc',.int .u8 sos] 149)) W.heap.size w2.heap.size g cc' sos n cs):=Lib.hid ⟨heap_alloc_new W.drew _,(HO3.out.drew).alloc _,by have:=HS3.out.2;omega,Kept.refl _ _⟩
 have HKE:Hid (∀ w5 r,WkAt ((W.drew).alloc (.cells #[.slice (some ⟨g,0,none⟩) n cc',.int .u8 sos] 149)) w5 W.heap.size w2.heap.size g cc' sos n r→∀ k,k < W.heap.size→k≠g→w5.heap[k]? = W.heap[k]?):=Lib.hid (fun w5 r hwk k hk hkg => (hwk.kept.block k (by simp;show k < W.heap.size + 1;omega) hkg).trans (Below.heap_alloc W.drew _ k hk))
 have hn1:w1.heap.size≠g:=by have:=(HLT.out g (.inl (by simp [blk_some]))).1;have:=HS2.out;omega
 have HN1:=Lib.hid hn1
 have HGL:=Lib.hid hgl
 clear hn1 hgl
 have hwr:IntKind.i64.wrap ((5:Int) - 1) = 4:=by decide
 have hwq:(5:Int) - 1 = 4:=by decide
 have hwp:IntKind.i64.wrap (4:Int) = 4:=by decide
 go_region_held3 (fun w' => w'.cell? ⟨w3.heap.size,1,none⟩ = some (.slice (some ⟨g,0,none⟩) n cc')∧w'.cell? ⟨w3.heap.size,3,none⟩ = some (.int .u8 sos)∧w'.cell? ⟨w1.heap.size,4,none⟩ = some (.func (.func 79) #[] #[])) (first | exact ⟨d1,d3,dr⟩ | exact ke | go_keep)
  ((go_at_call 79;refine (HTU.out _ _ _ _ _ HWK.out).mono ?_;rintro e w5 ⟨rfl,hwk⟩;have HX5:=Lib.hid ((HKE.out _ _ hwk w3.heap.size (by have:=HS3.out.2;omega) (by have:=HGL.out;omega)).trans HX3.out);have HR5:=Lib.hid ((HKE.out _ _ hwk w1.heap.size (by have:=HS3.out;have:=HS2.out;omega) HN1.out).trans HR3.out);have ke:=And.intro (cells_at HX5.out 1) (And.intro (cells_at HX5.out 3) (cells_at HR5.out 4));have HY5:=Lib.hid ((HKE.out _ _ hwk (w.heap.size + 1) (by have:=HS1.out;have:=HS2.out;have:=HS3.out;omega) (by have:=HS1.out;have:=HS2.out;have:=(HLT.out g (.inl (by simp [blk_some]))).1;omega)).trans HY3.out);have HWK5:=Lib.hid hwk;clear hwk))
 have b0:=cells_at HX5.out 0
 have b1:=cells_at HX5.out 1
 have b2:=cells_at HX5.out 2
 have b3:=cells_at HX5.out 3
 have b4:=cells_at HX5.out 4
 have e0:=cells_at HY5.out 0
 have e1:=cells_at HY5.out 1
 have e2:=cells_at HY5.out 2
 have e3:=cells_at HY5.out 3
 have e4:=cells_at HY5.out 4
 have f0:=frozen_at HY5.out 0
 have f1:=frozen_at HY5.out 1
 have f2:=frozen_at HY5.out 2
 have f3:=frozen_at HY5.out 3
 have f4:=frozen_at HY5.out 4
 clear ke d1 d3 dr hwr hwq hwp
 go_wp2
 have hfin:=heap_set5 HY5.out (.slice pa' n pc') (.slice (some ⟨g,0,none⟩) n cc') (.int .i8 lv) (.int .u8 sos) (.int .u8 eos)
 have hres:∀ (tmps:Array Value) (W':World),W'.heap[w.heap.size + 1]? = some (.cells #[.slice pa' n pc',.slice (some ⟨g,0,none⟩) n cc',.int .i8 lv,.int .u8 sos,.int .u8 eos] 75)→tmps.getD 4 undef = .pointer (some ⟨w.heap.size + 1,0,none⟩)→tmps.getD 5 undef = .int .i64 0→(results Tryz.f45 tmps).run Tryz.prog W' = .ok (.tuple #[.agg #[.slice pa' n pc',.slice (some ⟨g,0,none⟩) n cc',.int .i8 lv,.int .u8 sos,.int .u8 eos],.int .i64 0]) W':=by
  intro tmps W' h1 h2 h3
  rw [results_cell_tmp rfl]
  have hlv:=run_loadVar_row (P:=Tryz.prog) _ (w.heap.size + 1) 75 75 _ _ _ h1 Tryz.underlying75 rfl (by kernel_rfl)
  rw [h2,h3]
  simp [asAddr,hlv]
 have q1:w.heap.size + 1 ∉ blk pa':=fun h => by have:=(HLT.out _ (.inr h)).1;have:=HS1.out;have:=HS2.out;omega
 have q2:w.heap.size + 1 ∉ blk (some (⟨g,0,none⟩:Addr)):=fun h => by have:=(HLT.out _ (.inl h)).1;have:=HS1.out;have:=HS2.out;omega
 have p5:=HWK5.out.kept.own ((HP3.out.drew).alloc _) (fun g' hg' e => HNE.out g' (blk_mem.2 hg') (by rw [e];simp [blk_some]))
 refine bodyPost_ret (hres _ _ hfin rfl rfl) rfl ⟨pa',pc',some ⟨g,0,none⟩,cc',rfl,(p5.set5 q1 _ _ _ _ _).mono (by have:=HS1.out;have:=HS2.out;omega),(HWK5.out.own.set5 q2 _ _ _ _ _).mono (by have:=HS1.out;have:=HS2.out;omega),below_set5 (HWK5.out.kept.below ((HB4.out.drew).alloc HB4.out.size _) (fun k hk => by rw [hk];have:=(HLT.out g (.inl (by simp [blk_some]))).1;have:=HS1.out;have:=HS2.out;omega) (by have:=HB4.out.size;simp;omega)) (by omega) _ _ _ _ _⟩
theorem rule6_any (w:World) (s:Sq) (hs:s.Ok) (pa ca:Option Addr) (pc cc:Nat) (hi:s.In w pa ca):
 Calls Tryz.prog 45 #[.int .i64 6,s.val pa pc ca cc] w fun e w' => ∃ pa' pc' ca' cc',e = .returned (.tuple #[{ s with cs:=ruleOf 6 s.sos s.cs }.val pa' pc' ca' cc',.int .i64 0])∧Own w' w.heap.size 1 pa' s.ps.length pc' (s.ps.map natV)∧Own w' w.heap.size 1 ca' s.ps.length cc' ((ruleOf 6 s.sos s.cs).map u8V)∧Below w.heap.size w w':=by
 have HCK:=Lib.hid (fun w h => check_any w s hs pa ca pc cc h)
 have HCP:=Lib.hid (fun w h => copy_any w s hs pa ca pc cc h)
 have HTU:=Lib.hid (fun w B wb g c h => rule_turn 6 (by omega) w B wb g c s hs h)
 have HPOS:=Lib.hid hs.pos
 have HIN:=Lib.hid hi
 obtain ⟨ps,cs,lv,sos,eos⟩:=s
 unfold Sq.val at HCK HCP ⊢
 simp only at HCK HCP HTU HPOS ⊢
 rw [show ruleF 6 = 80 from rfl] at HTU
 obtain ⟨n,hn⟩:∃ n,n = ps.length:=⟨_,rfl⟩
 rw [← hn] at HCK HCP HTU HPOS ⊢
 clear hi hs hn
 obtain ⟨O1,hO1⟩:∃ O,O = Obj.cells #[.slice pa n pc,.slice ca n cc,.int .i8 lv,.int .u8 sos,.int .u8 eos] 75:=⟨_,rfl⟩
 obtain ⟨O2,hO2⟩:∃ O,O = Obj.cells #[.slice none 0 0,.slice none 0 0,.int .i8 0,.int .u8 0,.int .u8 0] 75:=⟨_,rfl⟩
 have hw1:((w.alloc O1).alloc O2).heap[w.heap.size]? = some O1:=(Below.heap_alloc _ _ _ (by simp)).trans (heap_alloc_new w O1)
 have hw2:((w.alloc O1).alloc O2).heap[w.heap.size + 1]? = some O2:=by
  have:=heap_alloc_new (w.alloc O1) O2
  rwa [World.size_alloc] at this
 have HB0:Hid (Below w.heap.size w ((w.alloc O1).alloc O2)):=Lib.hid (((Below.refl _ _).alloc (Nat.le_refl _) _).alloc (by simp) _)
 have HSZ:Hid (((w.alloc O1).alloc O2).heap.size = w.heap.size + 2):=Lib.hid (by simp)
 have HW1:=Lib.hid hw1
 have HW2:=Lib.hid hw2
 subst hO1
 subst hO2
 clear hw1 hw2
 go_enter Tryz.func45,Tryz.ntmps45
 go_wp2_with (first | (go_at_call 46;refine (HCK.out _ (HIN.out.below HB0.out)).mono ?_;rintro e w1 ⟨rfl,hb1⟩;have HB1:=Lib.hid (HB0.out.trans (hb1.mono (by rw [HSZ.out];omega)));have HX1:=Lib.hid ((hb1.block w.heap.size (by rw [HSZ.out];omega)).trans HW1.out);have HY1:=Lib.hid ((hb1.block (w.heap.size + 1) (by rw [HSZ.out];omega)).trans HW2.out);have HS1:=Lib.hid (show w.heap.size + 2≤w1.heap.size by have:=hb1.size;rw [HSZ.out] at this;exact this);clear hb1) | (go_at_call 44;go_loud (refine (rules_any _).mono ?_;rintro e w2 ⟨rfl,hw2⟩;have HB2:=Lib.hid (show Below w.heap.size w w2 by rw [hw2];exact HB1.out.alloc HB1.out.size _);have HX2:=Lib.hid ((congrArg (fun v:World => v.heap[w.heap.size]?) hw2).trans ((Below.heap_alloc w1 (.cells rulesV.toArray 146) w.heap.size (by have:=HS1.out;omega)).trans HX1.out));have HY2:=Lib.hid ((congrArg (fun v:World => v.heap[w.heap.size + 1]?) hw2).trans ((Below.heap_alloc w1 (.cells rulesV.toArray 146) (w.heap.size + 1) (by have:=HS1.out;omega)).trans HY1.out));have HR2:=Lib.hid (show w2.heap[w1.heap.size]? = some (.cells rulesV.toArray 146) by rw [hw2];exact heap_alloc_new w1 _);have HS2:=Lib.hid (show w2.heap.size = w1.heap.size + 1 by rw [hw2];simp);have hc0:=cells_at HX2.out 0;have hc1:=cells_at HX2.out 1;have hc2:=cells_at HX2.out 2;have hc3:=cells_at HX2.out 3;have hc4:=cells_at HX2.out 4;clear hw2)) | (go_at_call 49;refine (HCP.out _ (HIN.out.below HB2.out)).mono ?_;rintro e w3 ⟨pa',pc',ca',cc',rfl,hop,hoc,hne,hb3⟩;have HOP:=Lib.hid hop;have HOC:=Lib.hid hoc;have HNE:=Lib.hid hne;have HB3:=Lib.hid hb3;clear hop hoc hne hb3))
 obtain ⟨O3,hO3⟩:∃ O,O = Obj.cells #[.slice pa' n pc',.slice ca' n cc',.int .i8 lv,.int .u8 sos,.int .u8 eos] 75:=⟨_,rfl⟩
 have HX3:Hid ((w3.alloc O3).heap[w3.heap.size]? = some O3):=Lib.hid (heap_alloc_new _ _)
 have HY3:Hid ((w3.alloc O3).heap[w.heap.size + 1]? = some (.cells #[.slice none 0 0,.slice none 0 0,.int .i8 0,.int .u8 0,.int .u8 0] 75)):=Lib.hid ((Below.heap_alloc _ _ _ (by have:=HS1.out;have:=HS2.out;have:=HB3.out.size;omega)).trans ((HB3.out.block _ (by have:=HS1.out;have:=HS2.out;omega)).trans HY2.out))
 have HR3:Hid ((w3.alloc O3).heap[w1.heap.size]? = some (.cells rulesV.toArray 146)):=Lib.hid ((Below.heap_alloc _ _ _ (by have:=HS2.out;have:=HB3.out.size;omega)).trans ((HB3.out.block _ (by have:=HS2.out;omega)).trans HR2.out))
 have HO3:Hid (Own (w3.alloc O3) w2.heap.size 1 ca' n cc' (cs.map u8V)):=Lib.hid (HOC.out.alloc _)
 have HP3:Hid (Own (w3.alloc O3) w2.heap.size 1 pa' n pc' (ps.map natV)):=Lib.hid (HOP.out.alloc _)
 have HB4:Hid (Below w.heap.size w (w3.alloc O3)):=Lib.hid ((after HB2.out HB3.out).alloc (after HB2.out HB3.out).size _)
 have HS3:Hid (w2.heap.size≤w3.heap.size∧(w3.alloc O3).heap.size = w3.heap.size + 1):=Lib.hid ⟨HB3.out.size,by simp⟩
 have HLT:Hid (∀ g,g∈blk ca'∨g∈blk pa'→w2.heap.size≤g∧g < w3.heap.size):=Lib.hid fun g hg => by rcases hg with h | h;exact HOC.out.blk_lt g h;exact HOP.out.blk_lt g h
 subst hO3
 obtain ⟨g,rfl⟩:=HOC.out.pos HPOS.out
 generalize w3.alloc (.cells #[.slice pa' n pc',.slice (some ⟨g,0,none⟩) n cc',.int .i8 lv,.int .u8 sos,.int .u8 eos] 75) = W at *
 have d1:=cells_at HX3.out 1
 have d3:=cells_at HX3.out 3
 have dr:W.cell? ⟨w1.heap.size,5,none⟩ = some (.func (.func 80) #[] #[]):=cells_at HR3.out 5
 clear hc0 hc1 hc2 hc3 hc4
 have hgl:=(HLT.out g (.inl (by simp [blk_some]))).2
 have HWK:Hid (WkAt ((W.drew).alloc (.cells #[.slice (some ⟨g,0,none⟩) n cc',.int .u8 sos] 149)) ((W.drew).alloc (.cells #[.slice (some ⟨g,0,none⟩) n cc',.int .u8 sos] 149)) W.heap.size w2.heap.size g cc' sos n cs):=Lib.hid ⟨heap_alloc_new W.drew _,(HO3.out.drew).alloc _,by have:=HS3.out.2;omega,Kept.refl _ _⟩
 have HKE:Hid (∀ w5 r,WkAt ((W.drew).alloc (.cells #[.slice (some ⟨g,0,none⟩) n cc',.int .u8 sos] 149)) w5 W.heap.size w2.heap.size g cc' sos n r→∀ k,k < W.heap.size→k≠g→w5.heap[k]? = W.heap[k]?):=Lib.hid (fun w5 r hwk k hk hkg => (hwk.kept.block k (by simp;show k < W.heap.size + 1;omega) hkg).trans (Below.heap_alloc W.drew _ k hk))
 have hn1:w1.heap.size≠g:=by have:=(HLT.out g (.inl (by simp [blk_some]))).1;have:=HS2.out;omega
 have HN1:=Lib.hid hn1
 have HGL:=Lib.hid hgl
 clear hn1 hgl
 have hwr:IntKind.i64.wrap ((6:Int) - 1) = 5:=by decide
 have hwq:(6:Int) - 1 = 5:=by decide
 have hwp:IntKind.i64.wrap (5:Int) = 5:=by decide
 go_region_held3 (fun w' => w'.cell? ⟨w3.heap.size,1,none⟩ = some (.slice (some ⟨g,0,none⟩) n cc')∧w'.cell? ⟨w3.heap.size,3,none⟩ = some (.int .u8 sos)∧w'.cell? ⟨w1.heap.size,5,none⟩ = some (.func (.func 80) #[] #[])) (first | exact ⟨d1,d3,dr⟩ | exact ke | go_keep)
  ((go_at_call 80;refine (HTU.out _ _ _ _ _ HWK.out).mono ?_;rintro e w5 ⟨rfl,hwk⟩;have HX5:=Lib.hid ((HKE.out _ _ hwk w3.heap.size (by have:=HS3.out.2;omega) (by have:=HGL.out;omega)).trans HX3.out);have HR5:=Lib.hid ((HKE.out _ _ hwk w1.heap.size (by have:=HS3.out;have:=HS2.out;omega) HN1.out).trans HR3.out);have ke:=And.intro (cells_at HX5.out 1) (And.intro (cells_at HX5.out 3) (cells_at HR5.out 5));have HY5:=Lib.hid ((HKE.out _ _ hwk (w.heap.size + 1) (by have:=HS1.out;have:=HS2.out;have:=HS3.out;omega) (by have:=HS1.out;have:=HS2.out;have:=(HLT.out g (.inl (by simp [blk_some]))).1;omega)).trans HY3.out);have HWK5:=Lib.hid hwk;clear hwk))
 have b0:=cells_at HX5.out 0
 have b1:=cells_at HX5.out 1
 have b2:=cells_at HX5.out 2
 have b3:=cells_at HX5.out 3
 have b4:=cells_at HX5.out 4
 have e0:=cells_at HY5.out 0
 have e1:=cells_at HY5.out 1
 have e2:=cells_at HY5.out 2
 have e3:=cells_at HY5.out 3
 have e4:=cells_at HY5.out 4
 have f0:=frozen_at HY5.out 0
 have f1:=frozen_at HY5.out 1
 have f2:=frozen_at HY5.out 2
 have f3:=frozen_at HY5.out 3
 have f4:=frozen_at HY5.out 4
 clear ke d1 d3 dr hwr hwq hwp
 go_wp2
 have hfin:=heap_set5 HY5.out (.slice pa' n pc') (.slice (some ⟨g,0,none⟩) n cc') (.int .i8 lv) (.int .u8 sos) (.int .u8 eos)
 have hres:∀ (tmps:Array Value) (W':World),W'.heap[w.heap.size + 1]? = some (.cells #[.slice pa' n pc',.slice (some ⟨g,0,none⟩) n cc',.int .i8 lv,.int .u8 sos,.int .u8 eos] 75)→tmps.getD 4 undef = .pointer (some ⟨w.heap.size + 1,0,none⟩)→tmps.getD 5 undef = .int .i64 0→(results Tryz.f45 tmps).run Tryz.prog W' = .ok (.tuple #[.agg #[.slice pa' n pc',.slice (some ⟨g,0,none⟩) n cc',.int .i8 lv,.int .u8 sos,.int .u8 eos],.int .i64 0]) W':=by
  intro tmps W' h1 h2 h3
  rw [results_cell_tmp rfl]
  have hlv:=run_loadVar_row (P:=Tryz.prog) _ (w.heap.size + 1) 75 75 _ _ _ h1 Tryz.underlying75 rfl (by kernel_rfl)
  rw [h2,h3]
  simp [asAddr,hlv]
 have q1:w.heap.size + 1 ∉ blk pa':=fun h => by have:=(HLT.out _ (.inr h)).1;have:=HS1.out;have:=HS2.out;omega
 have q2:w.heap.size + 1 ∉ blk (some (⟨g,0,none⟩:Addr)):=fun h => by have:=(HLT.out _ (.inl h)).1;have:=HS1.out;have:=HS2.out;omega
 have p5:=HWK5.out.kept.own ((HP3.out.drew).alloc _) (fun g' hg' e => HNE.out g' (blk_mem.2 hg') (by rw [e];simp [blk_some]))
 refine bodyPost_ret (hres _ _ hfin rfl rfl) rfl ⟨pa',pc',some ⟨g,0,none⟩,cc',rfl,(p5.set5 q1 _ _ _ _ _).mono (by have:=HS1.out;have:=HS2.out;omega),(HWK5.out.own.set5 q2 _ _ _ _ _).mono (by have:=HS1.out;have:=HS2.out;omega),below_set5 (HWK5.out.kept.below ((HB4.out.drew).alloc HB4.out.size _) (fun k hk => by rw [hk];have:=(HLT.out g (.inl (by simp [blk_some]))).1;have:=HS1.out;have:=HS2.out;omega) (by have:=HB4.out.size;simp;omega)) (by omega) _ _ _ _ _⟩
theorem rule7_any (w:World) (s:Sq) (hs:s.Ok) (pa ca:Option Addr) (pc cc:Nat) (hi:s.In w pa ca):
 Calls Tryz.prog 45 #[.int .i64 7,s.val pa pc ca cc] w fun e w' => ∃ pa' pc' ca' cc',e = .returned (.tuple #[{ s with cs:=ruleOf 7 s.sos s.cs }.val pa' pc' ca' cc',.int .i64 0])∧Own w' w.heap.size 1 pa' s.ps.length pc' (s.ps.map natV)∧Own w' w.heap.size 1 ca' s.ps.length cc' ((ruleOf 7 s.sos s.cs).map u8V)∧Below w.heap.size w w':=by
 have HCK:=Lib.hid (fun w h => check_any w s hs pa ca pc cc h)
 have HCP:=Lib.hid (fun w h => copy_any w s hs pa ca pc cc h)
 have HTU:=Lib.hid (fun w B wb g c h => rule_turn 7 (by omega) w B wb g c s hs h)
 have HPOS:=Lib.hid hs.pos
 have HIN:=Lib.hid hi
 obtain ⟨ps,cs,lv,sos,eos⟩:=s
 unfold Sq.val at HCK HCP ⊢
 simp only at HCK HCP HTU HPOS ⊢
 rw [show ruleF 7 = 81 from rfl] at HTU
 obtain ⟨n,hn⟩:∃ n,n = ps.length:=⟨_,rfl⟩
 rw [← hn] at HCK HCP HTU HPOS ⊢
 clear hi hs hn
 obtain ⟨O1,hO1⟩:∃ O,O = Obj.cells #[.slice pa n pc,.slice ca n cc,.int .i8 lv,.int .u8 sos,.int .u8 eos] 75:=⟨_,rfl⟩
 obtain ⟨O2,hO2⟩:∃ O,O = Obj.cells #[.slice none 0 0,.slice none 0 0,.int .i8 0,.int .u8 0,.int .u8 0] 75:=⟨_,rfl⟩
 have hw1:((w.alloc O1).alloc O2).heap[w.heap.size]? = some O1:=(Below.heap_alloc _ _ _ (by simp)).trans (heap_alloc_new w O1)
 have hw2:((w.alloc O1).alloc O2).heap[w.heap.size + 1]? = some O2:=by
  have:=heap_alloc_new (w.alloc O1) O2
  rwa [World.size_alloc] at this
 have HB0:Hid (Below w.heap.size w ((w.alloc O1).alloc O2)):=Lib.hid (((Below.refl _ _).alloc (Nat.le_refl _) _).alloc (by simp) _)
 have HSZ:Hid (((w.alloc O1).alloc O2).heap.size = w.heap.size + 2):=Lib.hid (by simp)
 have HW1:=Lib.hid hw1
 have HW2:=Lib.hid hw2
 subst hO1
 subst hO2
 clear hw1 hw2
 go_enter Tryz.func45,Tryz.ntmps45
 go_wp2_with (first | (go_at_call 46;refine (HCK.out _ (HIN.out.below HB0.out)).mono ?_;rintro e w1 ⟨rfl,hb1⟩;have HB1:=Lib.hid (HB0.out.trans (hb1.mono (by rw [HSZ.out];omega)));have HX1:=Lib.hid ((hb1.block w.heap.size (by rw [HSZ.out];omega)).trans HW1.out);have HY1:=Lib.hid ((hb1.block (w.heap.size + 1) (by rw [HSZ.out];omega)).trans HW2.out);have HS1:=Lib.hid (show w.heap.size + 2≤w1.heap.size by have:=hb1.size;rw [HSZ.out] at this;exact this);clear hb1) | (go_at_call 44;go_loud (refine (rules_any _).mono ?_;rintro e w2 ⟨rfl,hw2⟩;have HB2:=Lib.hid (show Below w.heap.size w w2 by rw [hw2];exact HB1.out.alloc HB1.out.size _);have HX2:=Lib.hid ((congrArg (fun v:World => v.heap[w.heap.size]?) hw2).trans ((Below.heap_alloc w1 (.cells rulesV.toArray 146) w.heap.size (by have:=HS1.out;omega)).trans HX1.out));have HY2:=Lib.hid ((congrArg (fun v:World => v.heap[w.heap.size + 1]?) hw2).trans ((Below.heap_alloc w1 (.cells rulesV.toArray 146) (w.heap.size + 1) (by have:=HS1.out;omega)).trans HY1.out));have HR2:=Lib.hid (show w2.heap[w1.heap.size]? = some (.cells rulesV.toArray 146) by rw [hw2];exact heap_alloc_new w1 _);have HS2:=Lib.hid (show w2.heap.size = w1.heap.size + 1 by rw [hw2];simp);have hc0:=cells_at HX2.out 0;have hc1:=cells_at HX2.out 1;have hc2:=cells_at HX2.out 2;have hc3:=cells_at HX2.out 3;have hc4:=cells_at HX2.out 4;clear hw2)) | (go_at_call 49;refine (HCP.out _ (HIN.out.below HB2.out)).mono ?_;rintro e w3 ⟨pa',pc',ca',cc',rfl,hop,hoc,hne,hb3⟩;have HOP:=Lib.hid hop;have HOC:=Lib.hid hoc;have HNE:=Lib.hid hne;have HB3:=Lib.hid hb3;clear hop hoc hne hb3))
 obtain ⟨O3,hO3⟩:∃ O,O = Obj.cells #[.slice pa' n pc',.slice ca' n cc',.int .i8 lv,.int .u8 sos,.int .u8 eos] 75:=⟨_,rfl⟩
 have HX3:Hid ((w3.alloc O3).heap[w3.heap.size]? = some O3):=Lib.hid (heap_alloc_new _ _)
 have HY3:Hid ((w3.alloc O3).heap[w.heap.size + 1]? = some (.cells #[.slice none 0 0,.slice none 0 0,.int .i8 0,.int .u8 0,.int .u8 0] 75)):=Lib.hid ((Below.heap_alloc _ _ _ (by have:=HS1.out;have:=HS2.out;have:=HB3.out.size;omega)).trans ((HB3.out.block _ (by have:=HS1.out;have:=HS2.out;omega)).trans HY2.out))
 have HR3:Hid ((w3.alloc O3).heap[w1.heap.size]? = some (.cells rulesV.toArray 146)):=Lib.hid ((Below.heap_alloc _ _ _ (by have:=HS2.out;have:=HB3.out.size;omega)).trans ((HB3.out.block _ (by have:=HS2.out;omega)).trans HR2.out))
 have HO3:Hid (Own (w3.alloc O3) w2.heap.size 1 ca' n cc' (cs.map u8V)):=Lib.hid (HOC.out.alloc _)
 have HP3:Hid (Own (w3.alloc O3) w2.heap.size 1 pa' n pc' (ps.map natV)):=Lib.hid (HOP.out.alloc _)
 have HB4:Hid (Below w.heap.size w (w3.alloc O3)):=Lib.hid ((after HB2.out HB3.out).alloc (after HB2.out HB3.out).size _)
 have HS3:Hid (w2.heap.size≤w3.heap.size∧(w3.alloc O3).heap.size = w3.heap.size + 1):=Lib.hid ⟨HB3.out.size,by simp⟩
 have HLT:Hid (∀ g,g∈blk ca'∨g∈blk pa'→w2.heap.size≤g∧g < w3.heap.size):=Lib.hid fun g hg => by rcases hg with h | h;exact HOC.out.blk_lt g h;exact HOP.out.blk_lt g h
 subst hO3
 obtain ⟨g,rfl⟩:=HOC.out.pos HPOS.out
 generalize w3.alloc (.cells #[.slice pa' n pc',.slice (some ⟨g,0,none⟩) n cc',.int .i8 lv,.int .u8 sos,.int .u8 eos] 75) = W at *
 have d1:=cells_at HX3.out 1
 have d3:=cells_at HX3.out 3
 have dr:W.cell? ⟨w1.heap.size,6,none⟩ = some (.func (.func 81) #[] #[]):=cells_at HR3.out 6
 clear hc0 hc1 hc2 hc3 hc4
 have hgl:=(HLT.out g (.inl (by simp [blk_some]))).2
 have HWK:Hid (WkAt ((W.drew).alloc (.cells #[.slice (some ⟨g,0,none⟩) n cc',.int .u8 sos] 149)) ((W.drew).alloc (.cells #[.slice (some ⟨g,0,none⟩) n cc',.int .u8 sos] 149)) W.heap.size w2.heap.size g cc' sos n cs):=Lib.hid ⟨heap_alloc_new W.drew _,(HO3.out.drew).alloc _,by have:=HS3.out.2;omega,Kept.refl _ _⟩
 have HKE:Hid (∀ w5 r,WkAt ((W.drew).alloc (.cells #[.slice (some ⟨g,0,none⟩) n cc',.int .u8 sos] 149)) w5 W.heap.size w2.heap.size g cc' sos n r→∀ k,k < W.heap.size→k≠g→w5.heap[k]? = W.heap[k]?):=Lib.hid (fun w5 r hwk k hk hkg => (hwk.kept.block k (by simp;show k < W.heap.size + 1;omega) hkg).trans (Below.heap_alloc W.drew _ k hk))
 have hn1:w1.heap.size≠g:=by have:=(HLT.out g (.inl (by simp [blk_some]))).1;have:=HS2.out;omega
 have HN1:=Lib.hid hn1
 have HGL:=Lib.hid hgl
 clear hn1 hgl
 have hwr:IntKind.i64.wrap ((7:Int) - 1) = 6:=by decide
 have hwq:(7:Int) - 1 = 6:=by decide
 have hwp:IntKind.i64.wrap (6:Int) = 6:=by decide
 go_region_held3 (fun w' => w'.cell? ⟨w3.heap.size,1,none⟩ = some (.slice (some ⟨g,0,none⟩) n cc')∧w'.cell? ⟨w3.heap.size,3,none⟩ = some (.int .u8 sos)∧w'.cell? ⟨w1.heap.size,6,none⟩ = some (.func (.func 81) #[] #[])) (first | exact ⟨d1,d3,dr⟩ | exact ke | go_keep)
  ((go_at_call 81;refine (HTU.out _ _ _ _ _ HWK.out).mono ?_;rintro e w5 ⟨rfl,hwk⟩;have HX5:=Lib.hid ((HKE.out _ _ hwk w3.heap.size (by have:=HS3.out.2;omega) (by have:=HGL.out;omega)).trans HX3.out);have HR5:=Lib.hid ((HKE.out _ _ hwk w1.heap.size (by have:=HS3.out;have:=HS2.out;omega) HN1.out).trans HR3.out);have ke:=And.intro (cells_at HX5.out 1) (And.intro (cells_at HX5.out 3) (cells_at HR5.out 6));have HY5:=Lib.hid ((HKE.out _ _ hwk (w.heap.size + 1) (by have:=HS1.out;have:=HS2.out;have:=HS3.out;omega) (by have:=HS1.out;have:=HS2.out;have:=(HLT.out g (.inl (by simp [blk_some]))).1;omega)).trans HY3.out);have HWK5:=Lib.hid hwk;clear hwk))
 have b0:=cells_at HX5.out 0
 have b1:=cells_at HX5.out 1
 have b2:=cells_at HX5.out 2
 have b3:=cells_at HX5.out 3
 have b4:=cells_at HX5.out 4
 have e0:=cells_at HY5.out 0
 have e1:=cells_at HY5.out 1
 have e2:=cells_at HY5.out 2
 have e3:=cells_at HY5.out 3
 have e4:=cells_at HY5.out 4
 have f0:=frozen_at HY5.out 0
 have f1:=frozen_at HY5.out 1
 have f2:=frozen_at HY5.out 2
 have f3:=frozen_at HY5.out 3
 have f4:=frozen_at HY5.out 4
 clear ke d1 d3 dr hwr hwq hwp
 go_wp2
 have hfin:=heap_set5 HY5.out (.slice pa' n pc') (.slice (some ⟨g,0,none⟩) n cc') (.int .i8 lv) (.int .u8 sos) (.int .u8 eos)
 have hres:∀ (tmps:Array Value) (W':World),W'.heap[w.heap.size + 1]? = some (.cells #[.slice pa' n pc',.slice (some ⟨g,0,none⟩) n cc',.int .i8 lv,.int .u8 sos,.int .u8 eos] 75)→tmps.getD 4 undef = .pointer (some ⟨w.heap.size + 1,0,none⟩)→tmps.getD 5 undef = .int .i64 0→(results Tryz.f45 tmps).run Tryz.prog W' = .ok (.tuple #[.agg #[.slice pa' n pc',.slice (some ⟨g,0,none⟩) n cc',.int .i8 lv,.int .u8 sos,.int .u8 eos],.int .i64 0]) W':=by
  intro tmps W' h1 h2 h3
  rw [results_cell_tmp rfl]
  have hlv:=run_loadVar_row (P:=Tryz.prog) _ (w.heap.size + 1) 75 75 _ _ _ h1 Tryz.underlying75 rfl (by kernel_rfl)
  rw [h2,h3]
  simp [asAddr,hlv]
 have q1:w.heap.size + 1 ∉ blk pa':=fun h => by have:=(HLT.out _ (.inr h)).1;have:=HS1.out;have:=HS2.out;omega
 have q2:w.heap.size + 1 ∉ blk (some (⟨g,0,none⟩:Addr)):=fun h => by have:=(HLT.out _ (.inl h)).1;have:=HS1.out;have:=HS2.out;omega
 have p5:=HWK5.out.kept.own ((HP3.out.drew).alloc _) (fun g' hg' e => HNE.out g' (blk_mem.2 hg') (by rw [e];simp [blk_some]))
 refine bodyPost_ret (hres _ _ hfin rfl rfl) rfl ⟨pa',pc',some ⟨g,0,none⟩,cc',rfl,(p5.set5 q1 _ _ _ _ _).mono (by have:=HS1.out;have:=HS2.out;omega),(HWK5.out.own.set5 q2 _ _ _ _ _).mono (by have:=HS1.out;have:=HS2.out;omega),below_set5 (HWK5.out.kept.below ((HB4.out.drew).alloc HB4.out.size _) (fun k hk => by rw [hk];have:=(HLT.out g (.inl (by simp [blk_some]))).1;have:=HS1.out;have:=HS2.out;omega) (by have:=HB4.out.size;simp;omega)) (by omega) _ _ _ _ _⟩
end Go.Proofs.YtjnidopbdjbbgaaGreat
