/-
  The brackets' pass: walked.
-/
import Derived.Test.YtjnidopbdjbbgaaGreatB32
namespace Go.Proofs.YtjnidopbdjbbgaaGreat
open Go.RowKit
set_option linter.unusedVariables false
set_option maxRecDepth 20000
set_option maxHeartbeats 4000000
attribute [local go_sem] Oper.semAt_some
/-- The sequence behind the brackets. -/
def seqT2:Sq:=⟨[0,1,2,3,4,5,6],[1,13,2,2,2,2,4],0,1,1⟩
def firstC:List Nat:=[1,13,2,14,2,14,4]
theorem presolve_any (w:World) (hb:Nat) (ta:Option Addr) (tc:Nat) (pa ca:Option Addr) (pc cc:Nat) (fb fo fc:Nat) (hi:seqT1.In w pa ca) (ht:Cells w ta (textT.map i32V)) (hh:Cells w (some ⟨hb,0,none⟩) (chV handC)) (hf:Cells w (some ⟨fb,fo,none⟩) (firstC.map u8V)):
 Calls Tryz.prog 38 #[.iface 52 (propsV hb),.slice ta 7 tc,.slice (some ⟨fb,fo,none⟩) 7 fc,seqT1.val pa pc ca cc] w fun e w' => ∃ pa' pc' ca' cc',e = .returned (.tuple #[seqT2.val pa' pc' ca' cc',.int .i64 0])∧seqT2.In w' pa' ca'∧Below w.heap.size w w'∧FreshA w.heap.size pa'∧FreshA w.heap.size ca':=by
 have HFI:=Lib.hid (fun w h ht hh => pfind_any w hb ta tc pa ca pc cc h ht hh)
 have HCP:Hid (∀ w,seqT1.In w pa ca→Calls Tryz.prog 49 #[.agg #[.slice pa 7 pc,.slice ca 7 cc,.int .i8 0,.int .u8 1,.int .u8 1]] w fun e w' => ∃ pa' pc' ca' cc',e = .returned (.agg #[.slice pa' 7 pc',.slice ca' 7 cc',.int .i8 0,.int .u8 1,.int .u8 1])∧Own w' w.heap.size 1 pa' 7 pc' (seqT1.ps.map natV)∧Own w' w.heap.size 1 ca' 7 cc' (seqT1.cs.map u8V)∧(∀ g∈blk pa',g ∉ blk ca')∧Below w.heap.size w w'):=Lib.hid (fun w h => copy_any w seqT1 seqT1_ok pa ca pc cc h)
 have HWY:Hid (∀ w,Calls Tryz.prog 50 #[.int .i8 0] w fun e w' => e = .returned (.int .u8 1)∧w = w'):=Lib.hid (fun w => way_any w 0 (Nat.zero_le _))
 have HIN:=Lib.hid hi
 have HT:=Lib.hid ht
 have HH:=Lib.hid hh
 have HF:=Lib.hid hf
 have hv:seqT1.val pa pc ca cc = .agg #[.slice pa 7 pc,.slice ca 7 cc,.int .i8 0,.int .u8 1,.int .u8 1]:=rfl
 rw [hv] at HFI ⊢
 obtain ⟨O1,hO1⟩:∃ O,O = Obj.cells #[.slice pa 7 pc,.slice ca 7 cc,.int .i8 0,.int .u8 1,.int .u8 1] 75:=⟨_,rfl⟩
 obtain ⟨O2,hO2⟩:∃ O,O = Obj.cells #[.slice none 0 0,.slice none 0 0,.int .i8 0,.int .u8 0,.int .u8 0] 75:=⟨_,rfl⟩
 obtain ⟨W0,hW0⟩:∃ W0,W0 = (w.alloc O1).alloc O2:=⟨_,rfl⟩
 have hs0:W0.heap.size = w.heap.size + 2:=by rw [hW0];simp
 have hx1:W0.heap[w.heap.size]? = some O1:=by
  rw [hW0]
  exact (((Below.refl (w.alloc O1).heap.size (w.alloc O1)).alloc (Nat.le_refl _) O2).block w.heap.size (by simp)).trans (heap_alloc_new w O1)
 have hx2:W0.heap[w.heap.size + 1]? = some O2:=by
  rw [hW0]
  have:=heap_alloc_new (w.alloc O1) O2
  rwa [World.size_alloc] at this
 have hb0:Below w.heap.size w W0:=by rw [hW0];exact ((Below.refl _ _).alloc (Nat.le_refl _) _).alloc (by simp) _
 have HS0:=Lib.hid hs0
 have HX1:=Lib.hid hx1
 have HX2:=Lib.hid hx2
 have HB0:=Lib.hid hb0
 have HW0:=Lib.hid hW0
 subst hO1
 subst hO2
 clear hi ht hh hf hv hs0 hx1 hx2 hb0 hW0
 have c0:=cells_at HX1.out 0
 have c1:=cells_at HX1.out 1
 have c2:=cells_at HX1.out 2
 have c3:=cells_at HX1.out 3
 have c4:=cells_at HX1.out 4
 go_enter Tryz.func38,Tryz.ntmps38
 go_wp2_with fail
 rw [← HW0.out]
 refine (HFI.out W0 (HIN.out.below HB0.out) (HT.out.below HB0.out) (HH.out.below HB0.out)).mono ?_
 rintro e w1 ⟨ba,bc,rfl,ho1,hb1⟩
 have HO1:=Lib.hid ho1
 have HB1:=Lib.hid hb1
 have HX11:=Lib.hid ((hb1.block w.heap.size (by have:=HS0.out;omega)).trans HX1.out)
 have HX12:=Lib.hid ((hb1.block (w.heap.size + 1) (by have:=HS0.out;omega)).trans HX2.out)
 have HB01:=Lib.hid (HB0.out.trans (hb1.mono (by have:=HS0.out;omega)))
 clear ho1 hb1 c0 c1 c2 c3 c4
 have c0:=cells_at HX11.out 0
 have c1:=cells_at HX11.out 1
 have c2:=cells_at HX11.out 2
 have c3:=cells_at HX11.out 3
 have c4:=cells_at HX11.out 4
 obtain ⟨pb0,po0,rfl,h6⟩:=HIN.out.ps.getm (k:=6) (x:=6) rfl
 unfold natV at h6
 have g6:=(HB01.out.cell (World.block_lt_of_cell? w _ h6)).trans h6
 clear h6
 go_wp2_with fail
 refine wp_region_any (by kernel_rfl) ?_
 change wpAny _ _ _ _ _ _ _ (World.drew _)
 apply once
 case h =>
  intro h511
  apply once
  case h =>
   intro h255
   apply once
   case h =>
    intro h127
    apply once
    case h =>
     intro h63
     apply once
     case h =>
      intro h31
      apply once
      case h =>
       intro h59
       apply once
       case h =>
        intro h15
        apply once
        case h =>
         intro h27
         apply once
         case h =>
          intro h29
          apply once
          case h =>
           intro h7
           apply once
           case h =>
            intro h11
            apply once
            case h =>
             intro h13
             apply once
             case h =>
              intro h25
              apply once
              case h =>
               intro h28
               apply once
               case h =>
                intro h3
                apply once
                case h =>
                 intro h5
                 apply once
                 case h =>
                  intro h9
                  apply once
                  case h =>
                   intro h12
                   apply once
                   case h =>
                    intro h24
                    apply once
                    case h =>
                     intro h1
                     apply once
                     case h =>
                      intro h4
                      apply once
                      case h =>
                       intro h8
                       refine wpAny_ready (rs:=[0,2,3]) (by kernel_rfl) (by simp) ?_
                       refine AllReady.cons rfl (fun K hK => ?_) ?_
                       · (go_simp);refine hK _ _ ?_;show wpAny _ _ _ _ _ #[true,false,false,false,false,false,false,false,false] _ _;exact h1
                       refine AllReady.cons rfl (fun K hK => ?_) ?_
                       · (go_simp);refine hK _ _ ?_;show wpAny _ _ _ _ _ #[false,false,true,false,false,false,false,false,false] _ _;exact h4
                       refine AllReady.cons rfl (fun K hK => ?_) ?_
                       · (go_simp);refine hK _ _ ?_;show wpAny _ _ _ _ _ #[false,false,false,true,false,false,false,false,false] _ _;exact h8
                       exact AllReady.nil
                      case g =>
                       refine wpAny_ready (rs:=[0,2,4]) (by kernel_rfl) (by simp) ?_
                       refine AllReady.cons rfl (fun K hK => ?_) ?_
                       · (go_simp);refine hK _ _ ?_;show wpAny _ _ _ _ _ #[true,false,false,true,false,false,false,false,false] _ _;exact h9
                       refine AllReady.cons rfl (fun K hK => ?_) ?_
                       · (go_simp);refine hK _ _ ?_;show wpAny _ _ _ _ _ #[false,false,true,true,false,false,false,false,false] _ _;exact h12
                       refine AllReady.cons rfl (fun K hK => ?_) ?_
                       · (go_simp);refine hK _ _ ?_;show wpAny _ _ _ _ _ #[false,false,false,true,true,false,false,false,false] _ _;exact h24
                       exact AllReady.nil
                     case g =>
                      refine wpAny_ready (rs:=[0,3]) (by kernel_rfl) (by simp) ?_
                      refine AllReady.cons rfl (fun K hK => ?_) ?_
                      · (go_simp);refine hK _ _ ?_;show wpAny _ _ _ _ _ #[true,false,true,false,false,false,false,false,false] _ _;exact h5
                      refine AllReady.cons rfl (fun K hK => ?_) ?_
                      · (go_simp);refine hK _ _ ?_;show wpAny _ _ _ _ _ #[false,false,true,true,false,false,false,false,false] _ _;exact h12
                      exact AllReady.nil
                    case g =>
                     refine wpAny_ready (rs:=[1,2,3]) (by kernel_rfl) (by simp) ?_
                     refine AllReady.cons rfl (fun K hK => ?_) ?_
                     · (go_simp);refine (HCP.out w1.drew (HIN.out.below HB01.out.drew)).mono ?_;rintro e w2 ⟨pa',pc',ca',cc',rfl,hcp⟩;have HCQ:=Lib.hid hcp;clear hcp;refine hK _ _ ?_;show wpAny _ _ _ _ _ #[true,true,false,false,false,false,false,false,false] _ _;(try clear z2);revert HCQ;revert w2 pa' pc' ca' cc';exact h3
                     refine AllReady.cons rfl (fun K hK => ?_) ?_
                     · (go_simp);refine hK _ _ ?_;show wpAny _ _ _ _ _ #[true,false,true,false,false,false,false,false,false] _ _;exact h5
                     refine AllReady.cons rfl (fun K hK => ?_) ?_
                     · (go_simp);refine hK _ _ ?_;show wpAny _ _ _ _ _ #[true,false,false,true,false,false,false,false,false] _ _;exact h9
                     exact AllReady.nil
                   case g =>
                    refine wpAny_ready (rs:=[0,2]) (by kernel_rfl) (by simp) ?_
                    refine AllReady.cons rfl (fun K hK => ?_) ?_
                    · (go_simp);refine hK _ _ ?_;show wpAny _ _ _ _ _ #[true,false,false,true,true,false,false,false,false] _ _;exact h25
                    refine AllReady.cons rfl (fun K hK => ?_) ?_
                    · (go_simp);refine hK _ _ ?_;show wpAny _ _ _ _ _ #[false,false,true,true,true,false,false,false,false] _ _;exact h28
                    exact AllReady.nil
                  case g =>
                   refine wpAny_ready (rs:=[0,4]) (by kernel_rfl) (by simp) ?_
                   refine AllReady.cons rfl (fun K hK => ?_) ?_
                   · (go_simp);refine hK _ _ ?_;show wpAny _ _ _ _ _ #[true,false,true,true,false,false,false,false,false] _ _;exact h13
                   refine AllReady.cons rfl (fun K hK => ?_) ?_
                   · (go_simp);refine hK _ _ ?_;show wpAny _ _ _ _ _ #[false,false,true,true,true,false,false,false,false] _ _;exact h28
                   exact AllReady.nil
                 case g =>
                  refine wpAny_ready (rs:=[1,2,4]) (by kernel_rfl) (by simp) ?_
                  refine AllReady.cons rfl (fun K hK => ?_) ?_
                  · (go_simp);refine (HCP.out w1.drew (HIN.out.below HB01.out.drew)).mono ?_;rintro e w2 ⟨pa',pc',ca',cc',rfl,hcp⟩;have HCQ:=Lib.hid hcp;clear hcp;refine hK _ _ ?_;show wpAny _ _ _ _ _ #[true,true,false,true,false,false,false,false,false] _ _;(try clear z2);revert HCQ;revert w2 pa' pc' ca' cc';exact h11
                  refine AllReady.cons rfl (fun K hK => ?_) ?_
                  · (go_simp);refine hK _ _ ?_;show wpAny _ _ _ _ _ #[true,false,true,true,false,false,false,false,false] _ _;exact h13
                  refine AllReady.cons rfl (fun K hK => ?_) ?_
                  · (go_simp);refine hK _ _ ?_;show wpAny _ _ _ _ _ #[true,false,false,true,true,false,false,false,false] _ _;exact h25
                  exact AllReady.nil
                case g =>
                 refine wpAny_ready (rs:=[1,3]) (by kernel_rfl) (by simp) ?_
                 refine AllReady.cons rfl (fun K hK => ?_) ?_
                 · (go_simp);refine (HCP.out w1.drew (HIN.out.below HB01.out.drew)).mono ?_;rintro e w2 ⟨pa',pc',ca',cc',rfl,hcp⟩;have HCQ:=Lib.hid hcp;clear hcp;refine hK _ _ ?_;show wpAny _ _ _ _ _ #[true,true,true,false,false,false,false,false,false] _ _;(try clear z2);revert HCQ;revert w2 pa' pc' ca' cc';exact h7
                 refine AllReady.cons rfl (fun K hK => ?_) ?_
                 · (go_simp);refine hK _ _ ?_;show wpAny _ _ _ _ _ #[true,false,true,true,false,false,false,false,false] _ _;exact h13
                 exact AllReady.nil
               case g =>
                intro w2 pa' pc' ca' cc' HCQ
                have z2:=cells_at ((HCQ.out.2.2.2.block w.heap.size (Array.getElem?_eq_some_iff.1 HX11.out).1).trans HX11.out) 2
                refine wpAny_ready (rs:=[2,3]) (by kernel_rfl) (by simp) ?_
                refine AllReady.cons rfl (fun K hK => ?_) ?_
                · (go_simp);refine hK _ _ ?_;show wpAny _ _ _ _ _ #[true,true,true,false,false,false,false,false,false] _ _;(try clear z2);revert HCQ;revert w2 pa' pc' ca' cc';exact h7
                refine AllReady.cons rfl (fun K hK => ?_) ?_
                · (go_simp);refine hK _ _ ?_;show wpAny _ _ _ _ _ #[true,true,false,true,false,false,false,false,false] _ _;(try clear z2);revert HCQ;revert w2 pa' pc' ca' cc';exact h11
                exact AllReady.nil
              case g =>
               refine wpAny_ready (rs:=[0]) (by kernel_rfl) (by simp) ?_
               refine AllReady.cons rfl (fun K hK => ?_) ?_
               · (go_simp);refine hK _ _ ?_;show wpAny _ _ _ _ _ #[true,false,true,true,true,false,false,false,false] _ _;exact h29
               exact AllReady.nil
             case g =>
              refine wpAny_ready (rs:=[1,2]) (by kernel_rfl) (by simp) ?_
              refine AllReady.cons rfl (fun K hK => ?_) ?_
              · (go_simp);refine (HCP.out w1.drew (HIN.out.below HB01.out.drew)).mono ?_;rintro e w2 ⟨pa',pc',ca',cc',rfl,hcp⟩;have HCQ:=Lib.hid hcp;clear hcp;refine hK _ _ ?_;show wpAny _ _ _ _ _ #[true,true,false,true,true,false,false,false,false] _ _;(try clear z2);revert HCQ;revert w2 pa' pc' ca' cc';exact h27
              refine AllReady.cons rfl (fun K hK => ?_) ?_
              · (go_simp);refine hK _ _ ?_;show wpAny _ _ _ _ _ #[true,false,true,true,true,false,false,false,false] _ _;exact h29
              exact AllReady.nil
            case g =>
             refine wpAny_ready (rs:=[1,4]) (by kernel_rfl) (by simp) ?_
             refine AllReady.cons rfl (fun K hK => ?_) ?_
             · (go_simp);refine (HCP.out w1.drew (HIN.out.below HB01.out.drew)).mono ?_;rintro e w2 ⟨pa',pc',ca',cc',rfl,hcp⟩;have HCQ:=Lib.hid hcp;clear hcp;refine hK _ _ ?_;show wpAny _ _ _ _ _ #[true,true,true,true,false,false,false,false,false] _ _;(try clear z2);revert HCQ;revert w2 pa' pc' ca' cc';exact h15
             refine AllReady.cons rfl (fun K hK => ?_) ?_
             · (go_simp);refine hK _ _ ?_;show wpAny _ _ _ _ _ #[true,false,true,true,true,false,false,false,false] _ _;exact h29
             exact AllReady.nil
           case g =>
            intro w2 pa' pc' ca' cc' HCQ
            have z2:=cells_at ((HCQ.out.2.2.2.block w.heap.size (Array.getElem?_eq_some_iff.1 HX11.out).1).trans HX11.out) 2
            refine wpAny_ready (rs:=[2,4]) (by kernel_rfl) (by simp) ?_
            refine AllReady.cons rfl (fun K hK => ?_) ?_
            · (go_simp);refine hK _ _ ?_;show wpAny _ _ _ _ _ #[true,true,true,true,false,false,false,false,false] _ _;(try clear z2);revert HCQ;revert w2 pa' pc' ca' cc';exact h15
            refine AllReady.cons rfl (fun K hK => ?_) ?_
            · (go_simp);refine hK _ _ ?_;show wpAny _ _ _ _ _ #[true,true,false,true,true,false,false,false,false] _ _;(try clear z2);revert HCQ;revert w2 pa' pc' ca' cc';exact h27
            exact AllReady.nil
          case g =>
           intro w2 pa' pc' ca' cc' HCQ
           have z2:=cells_at ((HCQ.out.2.2.2.block w.heap.size (Array.getElem?_eq_some_iff.1 HX11.out).1).trans HX11.out) 2
           refine wpAny_ready (rs:=[3]) (by kernel_rfl) (by simp) ?_
           refine AllReady.cons rfl (fun K hK => ?_) ?_
           · (go_simp);refine hK _ _ ?_;show wpAny _ _ _ _ _ #[true,true,true,true,false,false,false,false,false] _ _;(try clear z2);revert HCQ;revert w2 pa' pc' ca' cc';exact h15
           exact AllReady.nil
         case g =>
          refine wpAny_ready (rs:=[1]) (by kernel_rfl) (by simp) ?_
          refine AllReady.cons rfl (fun K hK => ?_) ?_
          · (go_simp);refine (HCP.out w1.drew (HIN.out.below HB01.out.drew)).mono ?_;rintro e w2 ⟨pa',pc',ca',cc',rfl,hcp⟩;have HCQ:=Lib.hid hcp;clear hcp;refine hK _ _ ?_;show wpAny _ _ _ _ _ #[true,true,true,true,true,false,false,false,false] _ _;(try clear z2);revert HCQ;revert w2 pa' pc' ca' cc';exact h31
          exact AllReady.nil
        case g =>
         intro w2 pa' pc' ca' cc' HCQ
         have z2:=cells_at ((HCQ.out.2.2.2.block w.heap.size (Array.getElem?_eq_some_iff.1 HX11.out).1).trans HX11.out) 2
         refine wpAny_ready (rs:=[2,5]) (by kernel_rfl) (by simp) ?_
         refine AllReady.cons rfl (fun K hK => ?_) ?_
         · (go_simp);refine hK _ _ ?_;show wpAny _ _ _ _ _ #[true,true,true,true,true,false,false,false,false] _ _;(try clear z2);revert HCQ;revert w2 pa' pc' ca' cc';exact h31
         refine AllReady.cons rfl (fun K hK => ?_) ?_
         · (go_simp);refine (HWY.out _).mono ?_;rintro e w3 ⟨rfl,rfl⟩;refine hK _ _ ?_;show wpAny _ _ _ _ _ #[true,true,false,true,true,true,false,false,false] _ _;(try clear z2);revert HCQ;revert w2 pa' pc' ca' cc';exact h59
         exact AllReady.nil
       case g =>
        intro w2 pa' pc' ca' cc' HCQ
        have z2:=cells_at ((HCQ.out.2.2.2.block w.heap.size (Array.getElem?_eq_some_iff.1 HX11.out).1).trans HX11.out) 2
        refine wpAny_ready (rs:=[4]) (by kernel_rfl) (by simp) ?_
        refine AllReady.cons rfl (fun K hK => ?_) ?_
        · (go_simp);refine hK _ _ ?_;show wpAny _ _ _ _ _ #[true,true,true,true,true,false,false,false,false] _ _;(try clear z2);revert HCQ;revert w2 pa' pc' ca' cc';exact h31
        exact AllReady.nil
      case g =>
       intro w2 pa' pc' ca' cc' HCQ
       have z2:=cells_at ((HCQ.out.2.2.2.block w.heap.size (Array.getElem?_eq_some_iff.1 HX11.out).1).trans HX11.out) 2
       refine wpAny_ready (rs:=[2]) (by kernel_rfl) (by simp) ?_
       refine AllReady.cons rfl (fun K hK => ?_) ?_
       · (go_simp);refine hK _ _ ?_;show wpAny _ _ _ _ _ #[true,true,true,true,true,true,false,false,false] _ _;(try clear z2);revert HCQ;revert w2 pa' pc' ca' cc';exact h63
       exact AllReady.nil
     case g =>
      intro w2 pa' pc' ca' cc' HCQ
      have z2:=cells_at ((HCQ.out.2.2.2.block w.heap.size (Array.getElem?_eq_some_iff.1 HX11.out).1).trans HX11.out) 2
      refine wpAny_ready (rs:=[5]) (by kernel_rfl) (by simp) ?_
      refine AllReady.cons rfl (fun K hK => ?_) ?_
      · (go_simp);refine (HWY.out _).mono ?_;rintro e w3 ⟨rfl,rfl⟩;refine hK _ _ ?_;show wpAny _ _ _ _ _ #[true,true,true,true,true,true,false,false,false] _ _;(try clear z2);revert HCQ;revert w2 pa' pc' ca' cc';exact h63
      exact AllReady.nil
    case g =>
     intro w2 pa' pc' ca' cc' HCQ
     have z2:=cells_at ((HCQ.out.2.2.2.block w.heap.size (Array.getElem?_eq_some_iff.1 HX11.out).1).trans HX11.out) 2
     refine wpAny_ready (rs:=[6]) (by kernel_rfl) (by simp) ?_
     refine AllReady.cons rfl (fun K hK => ?_) ?_
     · (go_simp);refine hK _ _ ?_;show wpAny _ _ _ _ _ #[true,true,true,true,true,true,true,false,false] _ _;(try clear z2);revert HCQ;revert w2 pa' pc' ca' cc';exact h127
     exact AllReady.nil
   case g =>
    intro w2 pa' pc' ca' cc' HCQ
    have z2:=cells_at ((HCQ.out.2.2.2.block w.heap.size (Array.getElem?_eq_some_iff.1 HX11.out).1).trans HX11.out) 2
    refine wpAny_ready (rs:=[7]) (by kernel_rfl) (by simp) ?_
    refine AllReady.cons rfl (fun K hK => ?_) ?_
    · (go_simp);refine hK _ _ ?_;show wpAny _ _ _ _ _ #[true,true,true,true,true,true,true,true,false] _ _;(try clear z2);revert HCQ;revert w2 pa' pc' ca' cc';exact h255
    exact AllReady.nil
  case g =>
   intro w2 pa' pc' ca' cc' HCQ
   have z2:=cells_at ((HCQ.out.2.2.2.block w.heap.size (Array.getElem?_eq_some_iff.1 HX11.out).1).trans HX11.out) 2
   refine wpAny_ready (rs:=[8]) (by kernel_rfl) (by simp) ?_
   refine AllReady.cons rfl (fun K hK => ?_) ?_
   · (go_simp);refine hK _ _ ?_;show wpAny _ _ _ _ _ #[true,true,true,true,true,true,true,true,true] _ _;(try clear z2);revert HCQ;revert w2 pa' pc' ca' cc';exact h511
   exact AllReady.nil
 intro w2 pa' pc' ca' cc' HCQ
 have z2:=cells_at ((HCQ.out.2.2.2.block w.heap.size (Array.getElem?_eq_some_iff.1 HX11.out).1).trans HX11.out) 2
 refine wpAny_done (by kernel_rfl) ?_ _
 obtain ⟨ho2,ho3,hdis,hb2⟩:=HCQ.out
 have HO2:=Lib.hid ho2
 have HO3:=Lib.hid ho3
 have HDI:=Lib.hid hdis
 have HB2:=Lib.hid (show Below w.heap.size w w2 from HB01.out.drew.trans (hb2.mono HB01.out.size))
 have HBX:=Lib.hid (show Below w1.heap.size w1.drew w2 from hb2)
 clear HCQ ho2 ho3 hdis hb2
 obtain ⟨pb,rfl,hpl,hpu⟩:∃ pb,pa' = some ⟨pb,0,none⟩∧w1.heap.size≤pb∧pb < w2.heap.size:=by
  rcases HO2.out.row with ⟨_,h0⟩ | ⟨g,e,h1,h2,_⟩
  · have:=HO2.out.le;rw [h0] at this;exact absurd this (by decide)
  · exact ⟨g,e,h1,h2⟩
 obtain ⟨g,rfl,hgl,hgu⟩:∃ g,ca' = some ⟨g,0,none⟩∧w1.heap.size≤g∧g < w2.heap.size:=by
  rcases HO3.out.row with ⟨_,h0⟩ | ⟨g,e,h1,h2,_⟩
  · have:=HO3.out.le;rw [h0] at this;exact absurd this (by decide)
  · exact ⟨g,e,h1,h2⟩
 have HG:=Lib.hid (And.intro (And.intro hpl hpu) (And.intro hgl hgu))
 have HNE:=Lib.hid (show pb≠g from fun e => HDI.out pb (by rw [blk_some];simp) (by rw [blk_some,e];simp))
 clear hpl hpu hgl hgu
 obtain ⟨q,hq⟩:∃ q,w2.heap.size = q:=⟨_,rfl⟩
 have HQ:=Lib.hid hq
 clear c0 c1 c2 c3 c4 g6 hq
 rw [HQ.out]
 obtain ⟨W3,hW3⟩:∃ W3,W3 = w2.alloc (.cells #[.slice (some ⟨pb,0,none⟩) 7 pc',.slice (some ⟨g,0,none⟩) 7 cc',.int .i8 0,.int .u8 1,.int .u8 1,.slice (some ⟨fb,fo,none⟩) 7 fc,.int .u8 1] 117):=⟨_,rfl⟩
 have hA3:QAt W3 q (some ⟨pb,0,none⟩) pc' g cc' (some ⟨fb,fo,none⟩) fc:=by rw [hW3,← HQ.out];exact heap_alloc_new w2 _
 have hB3:Below w2.heap.size w2 W3:=by rw [hW3];exact (Below.refl _ _).alloc (Nat.le_refl _) _
 have hS3:W3.heap.size = q + 1:=by rw [hW3,← HQ.out];simp
 obtain ⟨bb,hbb⟩:=HO1.out.pos (by decide)
 subst hbb
 have hbl:=HO1.out.lt.2
 have hcl:∀ j u,[(.int .i64 (3:Nat):Value),.int .i64 (5:Nat)][j]? = some u→W3.cell? ⟨bb,j,none⟩ = some u:=fun j u hu => by
  rcases HO1.out.row with ⟨e,_⟩ | ⟨b,e,_,_,hc,_⟩
  · cases e
  · cases e
    exact (hB3.cell (p:=⟨bb,j,none⟩) (Nat.lt_of_lt_of_le hbl (show w1.heap.size≤w2.heap.size from HBX.out.size))).trans ((HBX.out.cell (p:=⟨bb,j,none⟩) hbl).trans (hc j u hu))
 have b0:=hcl 0 _ rfl
 have b1:=hcl 1 _ rfl
 have HA3:=Lib.hid hA3
 have HB3:=Lib.hid hB3
 have HS3:=Lib.hid hS3
 rw [← hW3]
 clear hA3 hB3 hS3 hcl hbl hW3
 go_wp2_with fail
 refine wp_loop_rounds 2 ?_
 rw [rounds_succ]
 go_wp2_with fail
 have HSZ:=Lib.hid (show w1.heap.size≤w2.heap.size from HBX.out.size)
 have hQM:QMem W3 q pb g fb fo pc' cc' fc:=by
  have c:∀ j u,(seqT1.cs.map u8V)[j]? = some u→W3.cell? ⟨g,j,none⟩ = some u∧W3.frozen? ⟨g,j,none⟩ = false:=fun j u hu => by
   rcases HO3.out.row with ⟨e,_⟩ | ⟨b,e,_,hl,hc,hd⟩
   · cases e
   · cases e
     have hj:j < cc' * 1:=by
      have h1:=(List.getElem?_eq_some_iff.1 hu).1
      have h2:(seqT1.cs.map u8V).length = 7:=rfl
      have h3:=HO3.out.le
      omega
     exact ⟨(HB3.out.cell (p:=⟨g,j,none⟩) hl).trans (hc j u hu),(HB3.out.frozen (p:=⟨g,j,none⟩) hl).trans (hd j hj).2⟩
  have p:∀ j u,(seqT1.ps.map natV)[j]? = some u→W3.cell? ⟨pb,j,none⟩ = some u:=fun j u hu => by
   rcases HO2.out.row with ⟨e,_⟩ | ⟨b,e,_,hl,hc,hd⟩
   · cases e
   · cases e
     exact (HB3.out.cell (p:=⟨pb,j,none⟩) hl).trans (hc j u hu)
  have f:∀ j u,(firstC.map u8V)[j]? = some u→fb < w.heap.size∧W3.cell? ⟨fb,fo + j,none⟩ = some u:=fun j u hu => by
   obtain ⟨b,off,e,h1⟩:=HF.out.getv hu
   cases e
   have hl:fb < w.heap.size:=World.block_lt_of_cell? w _ h1
   exact ⟨hl,(HB3.out.cell (p:=⟨fb,fo + j,none⟩) (Nat.lt_of_lt_of_le hl HB2.out.size)).trans ((HB2.out.cell (p:=⟨fb,fo + j,none⟩) hl).trans h1)⟩
  have hwl:=HB01.out.size
  have hgq:=HG.out
  have hqq:=HQ.out
  exact ⟨HA3.out,HO3.out.le,by omega,HNE.out,by have:=(f 4 _ rfl).1;omega,by omega,(c 2 _ rfl).1,(c 3 _ rfl).1,(c 4 _ rfl).1,(c 5 _ rfl).1,(c 3 _ rfl).2,(c 5 _ rfl).2,p 4 _ rfl,p 6 _ rfl,(f 4 _ rfl).2,(f 6 _ rfl).2⟩
 have HQM:=Lib.hid hQM
 clear hQM
 obtain ⟨W4,hW4⟩:∃ W4,W4 = W3.alloc (.cells #[.int .i64 3,.int .i64 5] 119):=⟨_,rfl⟩
 have HB4:=Lib.hid (show Below W3.heap.size W3 W4 by rw [hW4];exact (Below.refl _ _).alloc (Nat.le_refl _) _)
 rw [← hW4]
 clear hW4
 refine (settle_any W4 q pb g fb fo pc' cc' fc (HQM.out.below (Nat.le_refl _) HB4.out)).mono ?_
 rintro e w5 ⟨rfl,wx,kk,jj,hbx,hw5⟩
 have HBW:=Lib.hid (show Below W3.heap.size W3 wx from HB4.out.trans (hbx.mono HB4.out.size))
 have HW5:=Lib.hid hw5
 have hkeep:∀ (b:Nat) (o:Obj),W3.heap[b]? = some o→b≠g→w5.heap[b]? = some o:=fun b o hb hne => by
  rw [hw5]
  exact (Below.heap_setCell (wx.setCell ⟨g,3,none⟩ (.int .u8 2)) ⟨g,5,none⟩ (.int .u8 2) b hne).trans ((Below.heap_setCell wx ⟨g,3,none⟩ (.int .u8 2) b hne).trans ((HBW.out.block b (Array.getElem?_eq_some_iff.1 hb).1).trans hb))
 have HKP:=Lib.hid hkeep
 have HA5:=Lib.hid (hkeep q _ HA3.out (by have:=HG.out;have:=HQ.out;omega))
 have HX5:=Lib.hid (hkeep (w.heap.size + 1) _ ((HB3.out.block (w.heap.size + 1) (by have:=HSZ.out;have:=(Array.getElem?_eq_some_iff.1 HX12.out).1;omega)).trans ((HBX.out.block (w.heap.size + 1) (Array.getElem?_eq_some_iff.1 HX12.out).1).trans HX12.out)) (by have:=HG.out;have:=(Array.getElem?_eq_some_iff.1 HX12.out).1;omega))
 clear hw5 hkeep hbx
 have a0:=cells_at HA5.out 0
 have a1:=cells_at HA5.out 1
 have a2:=cells_at HA5.out 2
 have a3:=cells_at HA5.out 3
 have a4:=cells_at HA5.out 4
 have r0:=cells_at HX5.out 0
 have r1:=cells_at HX5.out 1
 have r2:=cells_at HX5.out 2
 have r3:=cells_at HX5.out 3
 have r4:=cells_at HX5.out 4
 have f0:=frozen_at HX5.out 0
 have f1:=frozen_at HX5.out 1
 have f2:=frozen_at HX5.out 2
 have f3:=frozen_at HX5.out 3
 have f4:=frozen_at HX5.out 4
 go_wp2_with fail
 rw [rounds_succ]
 go_wp2_with fail
 have hfin:=heap_set5 HX5.out (.slice (some ⟨pb,0,none⟩) 7 pc') (.slice (some ⟨g,0,none⟩) 7 cc') (.int .i8 0) (.int .u8 1) (.int .u8 1)
 have hres:∀ (tmps:Array Value) (W':World),W'.heap[w.heap.size + 1]? = some (.cells #[.slice (some ⟨pb,0,none⟩) 7 pc',.slice (some ⟨g,0,none⟩) 7 cc',.int .i8 0,.int .u8 1,.int .u8 1] 75)→tmps.getD 8 undef = .pointer (some ⟨w.heap.size + 1,0,none⟩)→tmps.getD 9 undef = .int .i64 0→(results Tryz.f38 tmps).run Tryz.prog W' = .ok (.tuple #[.agg #[.slice (some ⟨pb,0,none⟩) 7 pc',.slice (some ⟨g,0,none⟩) 7 cc',.int .i8 0,.int .u8 1,.int .u8 1],.int .i64 0]) W':=by
  intro tmps W' h1 h2 h3
  rw [results_cell_tmp rfl]
  have hlv:=run_loadVar_row (P:=Tryz.prog) _ (w.heap.size + 1) 75 75 _ _ _ h1 Tryz.underlying75 rfl (by kernel_rfl)
  rw [h2,h3]
  simp [asAddr,hlv]
 have hN1:w.heap.size + 1 < w1.heap.size:=(Array.getElem?_eq_some_iff.1 HX12.out).1
 have hgq:=HG.out
 have own1:Own w5 0 1 (some ⟨pb,0,none⟩) 7 pc' (seqT1.ps.map natV):=(HO2.out.mono (Nat.zero_le _)).same (by rw [HW5.out];simpa using Nat.le_trans HB3.out.size HBW.out.size) (fun b e => by
  cases e
  rw [HW5.out]
  exact (Below.heap_setCell (wx.setCell ⟨g,3,none⟩ (.int .u8 2)) ⟨g,5,none⟩ (.int .u8 2) pb HNE.out).trans ((Below.heap_setCell wx ⟨g,3,none⟩ (.int .u8 2) pb HNE.out).trans ((HBW.out.block pb (by have:=HB3.out.size;omega)).trans (HB3.out.block pb hgq.1.2))))
 have own2:Own w5 0 1 (some ⟨g,0,none⟩) 7 cc' (seqT2.cs.map u8V):=by
  have h0:Own wx 0 1 (some ⟨g,0,none⟩) 7 cc' (seqT1.cs.map u8V):=((HO3.out.mono (Nat.zero_le _)).below HB3.out).below HBW.out
  have h1:=(h0.stored 3 (by decide) (.int .u8 2))
  have h2:Own ((wx.setCell ⟨g,3,none⟩ (.int .u8 2)).drewN kk) 0 1 (some ⟨g,0,none⟩) 7 cc' ((seqT1.cs.map u8V).set 3 (.int .u8 2)):=h1.same (Nat.le_refl _) (fun _ _ => rfl)
  have h3:=h2.stored 5 (by decide) (.int .u8 2)
  rw [HW5.out]
  exact h3.same (Nat.le_refl _) (fun _ _ => rfl)
 have hbel:Below w.heap.size w w5:=by
  rw [HW5.out]
  have hx:=HB2.out.trans ((HB3.out.mono HB2.out.size).trans (HBW.out.mono (Nat.le_trans HB2.out.size HB3.out.size)))
  exact below_drewN ((below_drewN (hx.setCell (p:=⟨g,3,none⟩) (by show w.heap.size≤g;omega) _) kk).setCell (p:=⟨g,5,none⟩) (by show w.heap.size≤g;omega) _) jj
 refine bodyPost_ret (hres _ _ hfin rfl rfl) rfl ⟨some ⟨pb,0,none⟩,pc',some ⟨g,0,none⟩,cc',rfl,⟨(own1.set5 (fun h => by rw [blk_some] at h;simp at h;omega) _ _ _ _ _).toCells,(own2.set5 (fun h => by rw [blk_some] at h;simp at h;omega) _ _ _ _ _).toCells⟩,below_set5 hbel (by omega) _ _ _ _ _,fun g' hg' => by rw [blk_some] at hg';simp at hg';omega,fun g' hg' => by rw [blk_some] at hg';simp at hg';omega⟩
end Go.Proofs.YtjnidopbdjbbgaaGreat
