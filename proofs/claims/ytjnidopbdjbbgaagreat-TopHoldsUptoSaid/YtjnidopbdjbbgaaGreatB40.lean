/-
  The classes of the text's characters: walked.
-/
import Derived.Test.YtjnidopbdjbbgaaGreatB39
namespace Go.Proofs.YtjnidopbdjbbgaaGreat
open Go.RowKit
set_option linter.unusedVariables false
set_option maxRecDepth 20000
set_option maxHeartbeats 4000000
attribute [local go_sem] Oper.semAt_some
theorem text_at (k:Nat) (h:k < 7):∃ r x,textT[k]? = some r∧chOf handC r = some x∧firstC[k]? = some x.cls∧0≤r∧r≤1114111∧knownOf x.cls = x.cls:=by
 rcases (show k = 0∨k = 1∨k = 2∨k = 3∨k = 4∨k = 5∨k = 6 by omega) with rfl | rfl | rfl | rfl | rfl | rfl | rfl <;> exact ⟨_,_,rfl,rfl,rfl,by decide,by decide,rfl⟩
theorem para_any (w:World) (hb:Nat) (ta:Option Addr) (tc:Nat) (ht:Cells w ta (textT.map i32V)) (hh:Cells w (some ⟨hb,0,none⟩) (chV handC)):
 Calls Tryz.prog 35 #[.iface 52 (propsV hb),.slice ta 7 tc] w fun e w' => ∃ ka kc,e = .returned (.tuple #[.slice ka 7 kc,.int .i64 0])∧Own w' w.heap.size 1 ka 7 kc (firstC.map u8V)∧Below w.heap.size w w':=by
 obtain ⟨i0,hi,hz0,hz1,hz2⟩:=info_parts info35
 have HCO:Hid (∀ W,Cells W (some ⟨hb,0,none⟩) (chV handC)→∀ r x,chOf handC r = some x→Calls Tryz.prog 175 #[propsV hb,.int .i32 r] W fun e w' => e = .returned (.int .u8 x.cls)∧Below W.heap.size W w'):=
  Lib.hid (fun W h r x hx => class_of W handC (some ⟨hb,0,none⟩) 9 14 r (by decide) h x hx)
 have HT:=Lib.hid ht
 have HH:=Lib.hid hh
 have hmc:=m_class hb
 clear ht hh
 go_enter Tryz.func35,Tryz.ntmps35
 go_wp2
 go_loopg [6,13] 7 (fun r s i wr => ∃ k ka kc,k + r = 7∧s = .slice ka k kc∧i = .int .i64 (k:Nat)∧Own wr w.heap.size 1 ka k kc ((firstC.take k).map u8V)∧Below w.heap.size w wr)
 case atStart => exact ⟨0,none,0,by omega,rfl,rfl,Own.nil _ _ _,Below.refl _ _⟩
 case round =>
  obtain ⟨k,ka,kc,hk,rfl,rfl,ho,hbw⟩:=hrel
  have HK:=Lib.hid hk
  have HO:=Lib.hid ho
  have HBW:=Lib.hid hbw
  have hk0:(0:Int)≤(k:Int):=by omega
  by_cases hlt:k < 7
  · have hk1:(k:Int) < 7:=by omega
    obtain ⟨r,x,hr,hx,hc,hr0,hr1,hkn⟩:=text_at k hlt
    obtain ⟨tb,tf,rfl,q0⟩:=(HT.out.below hbw).getm hr
    unfold i32V at q0
    have HLT:=Lib.hid hlt
    have HX:=Lib.hid hx
    have HC:=Lib.hid hc
    have HR:=Lib.hid (And.intro hr0 hr1)
    have HKN:=Lib.hid hkn
    clear hk hbw hlt ho hr hx hc hr0 hr1 hkn
    go_wp2_with fail
    have HL1:Hid (k + 1≤maxLen):=Lib.hid (by have:=HLT.out;simp only [maxLen];omega)
    have HL2:Hid ((k + 1) * 1≤140737488355328):=Lib.hid (by have:=HLT.out;omega)
    have HL3:Hid (∀ w2,Below wr.drew.heap.size wr.drew w2→∀ o,w.heap.size≤(w2.alloc o).heap.size):=Lib.hid (fun w2 h o => by rw [World.size_alloc];have h1:=h.size;have h2:=HBW.out.size;have h3:wr.drew.heap.size = wr.heap.size:=rfl;omega)
    refine wp_region_any (by kernel_rfl) ?_
    change wpAny _ _ _ _ _ _ _ (World.drew _)
    apply once
    case h =>
     intro h4095
     apply once
     case h =>
      intro h2047
      apply once
      case h =>
       intro h1023
       apply once
       case h =>
        intro h511
        apply once
        case h =>
         intro h1022
         apply once
         case h =>
          intro h255
          apply once
          case h =>
           intro h510
           apply once
           case h =>
            intro h127
            apply once
            case h =>
             intro h254
             apply once
             case h =>
              intro h63
              apply once
              case h =>
               intro h119
               apply once
               case h =>
                intro h126
                apply once
                case h =>
                 intro h31
                 apply once
                 case h =>
                  intro h55
                  apply once
                  case h =>
                   intro h62
                   apply once
                   case h =>
                    intro h115
                    apply once
                    case h =>
                     intro h118
                     apply once
                     case h =>
                      intro h15
                      apply once
                      case h =>
                       intro h23
                       apply once
                       case h =>
                        intro h30
                        apply once
                        case h =>
                         intro h51
                         apply once
                         case h =>
                          intro h54
                          apply once
                          case h =>
                           intro h114
                           apply once
                           case h =>
                            intro h7
                            apply once
                            case h =>
                             intro h13
                             apply once
                             case h =>
                              intro h14
                              apply once
                              case h =>
                               intro h19
                               apply once
                               case h =>
                                intro h22
                                apply once
                                case h =>
                                 intro h50
                                 apply once
                                 case h =>
                                  intro h3
                                  apply once
                                  case h =>
                                   intro h5
                                   apply once
                                   case h =>
                                    intro h6
                                    apply once
                                    case h =>
                                     intro h12
                                     apply once
                                     case h =>
                                      intro h18
                                      apply once
                                      case h =>
                                       intro h1
                                       apply once
                                       case h =>
                                        intro h2
                                        apply once
                                        case h =>
                                         intro h4
                                         refine wpAny_ready (rs:=[0,1,2]) (by kernel_rfl) (by simp) ?_
                                         refine AllReady.cons rfl (fun K hK => ?_) ?_
                                         · (go_simp);refine hK _ _ ?_;show wpAny _ _ _ _ _ #[true,false,false,false,false,false,false,false,false,false,false,false] _ _;exact h1
                                         refine AllReady.cons rfl (fun K hK => ?_) ?_
                                         · (go_simp);refine hK _ _ ?_;show wpAny _ _ _ _ _ #[false,true,false,false,false,false,false,false,false,false,false,false] _ _;exact h2
                                         refine AllReady.cons rfl (fun K hK => ?_) ?_
                                         · (go_simp);refine hK _ _ ?_;show wpAny _ _ _ _ _ #[false,false,true,false,false,false,false,false,false,false,false,false] _ _;exact h4
                                         exact AllReady.nil
                                        case g =>
                                         refine wpAny_ready (rs:=[0,1,3]) (by kernel_rfl) (by simp) ?_
                                         refine AllReady.cons rfl (fun K hK => ?_) ?_
                                         · (go_simp);refine hK _ _ ?_;show wpAny _ _ _ _ _ #[true,false,true,false,false,false,false,false,false,false,false,false] _ _;exact h5
                                         refine AllReady.cons rfl (fun K hK => ?_) ?_
                                         · (go_simp);refine hK _ _ ?_;show wpAny _ _ _ _ _ #[false,true,true,false,false,false,false,false,false,false,false,false] _ _;exact h6
                                         refine AllReady.cons rfl (fun K hK => ?_) ?_
                                         · (go_simp);refine (asked_ok _ r HR.out.1 HR.out.2).mono ?_;rintro e w3 ⟨rfl,rfl⟩;refine hK _ _ ?_;show wpAny _ _ _ _ _ #[false,false,true,true,false,false,false,false,false,false,false,false] _ _;exact h12
                                         exact AllReady.nil
                                       case g =>
                                        refine wpAny_ready (rs:=[0,2,4]) (by kernel_rfl) (by simp) ?_
                                        refine AllReady.cons rfl (fun K hK => ?_) ?_
                                        · (go_simp);refine hK _ _ ?_;show wpAny _ _ _ _ _ #[true,true,false,false,false,false,false,false,false,false,false,false] _ _;exact h3
                                        refine AllReady.cons rfl (fun K hK => ?_) ?_
                                        · (go_simp);refine hK _ _ ?_;show wpAny _ _ _ _ _ #[false,true,true,false,false,false,false,false,false,false,false,false] _ _;exact h6
                                        refine AllReady.cons rfl (fun K hK => ?_) ?_
                                        · (go_simp);refine hK _ _ ?_;show wpAny _ _ _ _ _ #[false,true,false,false,true,false,false,false,false,false,false,false] _ _;exact h18
                                        exact AllReady.nil
                                      case g =>
                                       refine wpAny_ready (rs:=[1,2]) (by kernel_rfl) (by simp) ?_
                                       refine AllReady.cons rfl (fun K hK => ?_) ?_
                                       · (go_simp);refine hK _ _ ?_;show wpAny _ _ _ _ _ #[true,true,false,false,false,false,false,false,false,false,false,false] _ _;exact h3
                                       refine AllReady.cons rfl (fun K hK => ?_) ?_
                                       · (go_simp);refine hK _ _ ?_;show wpAny _ _ _ _ _ #[true,false,true,false,false,false,false,false,false,false,false,false] _ _;exact h5
                                       exact AllReady.nil
                                     case g =>
                                      refine wpAny_ready (rs:=[0,2,5]) (by kernel_rfl) (by simp) ?_
                                      refine AllReady.cons rfl (fun K hK => ?_) ?_
                                      · (go_simp);refine hK _ _ ?_;show wpAny _ _ _ _ _ #[true,true,false,false,true,false,false,false,false,false,false,false] _ _;exact h19
                                      refine AllReady.cons rfl (fun K hK => ?_) ?_
                                      · (go_simp);refine hK _ _ ?_;show wpAny _ _ _ _ _ #[false,true,true,false,true,false,false,false,false,false,false,false] _ _;exact h22
                                      refine AllReady.cons rfl (fun K hK => ?_) ?_
                                      · (go_simp);refine hK _ _ ?_;show wpAny _ _ _ _ _ #[false,true,false,false,true,true,false,false,false,false,false,false] _ _;exact h50
                                      exact AllReady.nil
                                    case g =>
                                     refine wpAny_ready (rs:=[0,1]) (by kernel_rfl) (by simp) ?_
                                     refine AllReady.cons rfl (fun K hK => ?_) ?_
                                     · (go_simp);refine hK _ _ ?_;show wpAny _ _ _ _ _ #[true,false,true,true,false,false,false,false,false,false,false,false] _ _;exact h13
                                     refine AllReady.cons rfl (fun K hK => ?_) ?_
                                     · (go_simp);refine hK _ _ ?_;show wpAny _ _ _ _ _ #[false,true,true,true,false,false,false,false,false,false,false,false] _ _;exact h14
                                     exact AllReady.nil
                                   case g =>
                                    refine wpAny_ready (rs:=[0,3,4]) (by kernel_rfl) (by simp) ?_
                                    refine AllReady.cons rfl (fun K hK => ?_) ?_
                                    · (go_simp);refine hK _ _ ?_;show wpAny _ _ _ _ _ #[true,true,true,false,false,false,false,false,false,false,false,false] _ _;exact h7
                                    refine AllReady.cons rfl (fun K hK => ?_) ?_
                                    · (go_simp);refine (asked_ok _ r HR.out.1 HR.out.2).mono ?_;rintro e w3 ⟨rfl,rfl⟩;refine hK _ _ ?_;show wpAny _ _ _ _ _ #[false,true,true,true,false,false,false,false,false,false,false,false] _ _;exact h14
                                    refine AllReady.cons rfl (fun K hK => ?_) ?_
                                    · (go_simp);refine hK _ _ ?_;show wpAny _ _ _ _ _ #[false,true,true,false,true,false,false,false,false,false,false,false] _ _;exact h22
                                    exact AllReady.nil
                                  case g =>
                                   refine wpAny_ready (rs:=[1,3]) (by kernel_rfl) (by simp) ?_
                                   refine AllReady.cons rfl (fun K hK => ?_) ?_
                                   · (go_simp);refine hK _ _ ?_;show wpAny _ _ _ _ _ #[true,true,true,false,false,false,false,false,false,false,false,false] _ _;exact h7
                                   refine AllReady.cons rfl (fun K hK => ?_) ?_
                                   · (go_simp);refine (asked_ok _ r HR.out.1 HR.out.2).mono ?_;rintro e w3 ⟨rfl,rfl⟩;refine hK _ _ ?_;show wpAny _ _ _ _ _ #[true,false,true,true,false,false,false,false,false,false,false,false] _ _;exact h13
                                   exact AllReady.nil
                                 case g =>
                                  refine wpAny_ready (rs:=[2,4]) (by kernel_rfl) (by simp) ?_
                                  refine AllReady.cons rfl (fun K hK => ?_) ?_
                                  · (go_simp);refine hK _ _ ?_;show wpAny _ _ _ _ _ #[true,true,true,false,false,false,false,false,false,false,false,false] _ _;exact h7
                                  refine AllReady.cons rfl (fun K hK => ?_) ?_
                                  · (go_simp);refine hK _ _ ?_;show wpAny _ _ _ _ _ #[true,true,false,false,true,false,false,false,false,false,false,false] _ _;exact h19
                                  exact AllReady.nil
                                case g =>
                                 refine wpAny_ready (rs:=[0,2,6]) (by kernel_rfl) (by simp) ?_
                                 refine AllReady.cons rfl (fun K hK => ?_) ?_
                                 · (go_simp);refine hK _ _ ?_;show wpAny _ _ _ _ _ #[true,true,false,false,true,true,false,false,false,false,false,false] _ _;exact h51
                                 refine AllReady.cons rfl (fun K hK => ?_) ?_
                                 · (go_simp);refine hK _ _ ?_;show wpAny _ _ _ _ _ #[false,true,true,false,true,true,false,false,false,false,false,false] _ _;exact h54
                                 refine AllReady.cons rfl (fun K hK => ?_) ?_
                                 · (go_simp);refine hK _ _ ?_;show wpAny _ _ _ _ _ #[false,true,false,false,true,true,true,false,false,false,false,false] _ _;exact h114
                                 exact AllReady.nil
                               case g =>
                                refine wpAny_ready (rs:=[0,3,5]) (by kernel_rfl) (by simp) ?_
                                refine AllReady.cons rfl (fun K hK => ?_) ?_
                                · (go_simp);refine hK _ _ ?_;show wpAny _ _ _ _ _ #[true,true,true,false,true,false,false,false,false,false,false,false] _ _;exact h23
                                refine AllReady.cons rfl (fun K hK => ?_) ?_
                                · (go_simp);refine (asked_ok _ r HR.out.1 HR.out.2).mono ?_;rintro e w3 ⟨rfl,rfl⟩;refine hK _ _ ?_;show wpAny _ _ _ _ _ #[false,true,true,true,true,false,false,false,false,false,false,false] _ _;exact h30
                                refine AllReady.cons rfl (fun K hK => ?_) ?_
                                · (go_simp);refine hK _ _ ?_;show wpAny _ _ _ _ _ #[false,true,true,false,true,true,false,false,false,false,false,false] _ _;exact h54
                                exact AllReady.nil
                              case g =>
                               refine wpAny_ready (rs:=[2,5]) (by kernel_rfl) (by simp) ?_
                               refine AllReady.cons rfl (fun K hK => ?_) ?_
                               · (go_simp);refine hK _ _ ?_;show wpAny _ _ _ _ _ #[true,true,true,false,true,false,false,false,false,false,false,false] _ _;exact h23
                               refine AllReady.cons rfl (fun K hK => ?_) ?_
                               · (go_simp);refine hK _ _ ?_;show wpAny _ _ _ _ _ #[true,true,false,false,true,true,false,false,false,false,false,false] _ _;exact h51
                               exact AllReady.nil
                             case g =>
                              refine wpAny_ready (rs:=[0,4]) (by kernel_rfl) (by simp) ?_
                              refine AllReady.cons rfl (fun K hK => ?_) ?_
                              · (go_simp);refine hK _ _ ?_;show wpAny _ _ _ _ _ #[true,true,true,true,false,false,false,false,false,false,false,false] _ _;exact h15
                              refine AllReady.cons rfl (fun K hK => ?_) ?_
                              · (go_simp);refine hK _ _ ?_;show wpAny _ _ _ _ _ #[false,true,true,true,true,false,false,false,false,false,false,false] _ _;exact h30
                              exact AllReady.nil
                            case g =>
                             refine wpAny_ready (rs:=[1]) (by kernel_rfl) (by simp) ?_
                             refine AllReady.cons rfl (fun K hK => ?_) ?_
                             · (go_simp);refine hK _ _ ?_;show wpAny _ _ _ _ _ #[true,true,true,true,false,false,false,false,false,false,false,false] _ _;exact h15
                             exact AllReady.nil
                           case g =>
                            refine wpAny_ready (rs:=[3,4]) (by kernel_rfl) (by simp) ?_
                            refine AllReady.cons rfl (fun K hK => ?_) ?_
                            · (go_simp);refine (asked_ok _ r HR.out.1 HR.out.2).mono ?_;rintro e w3 ⟨rfl,rfl⟩;refine hK _ _ ?_;show wpAny _ _ _ _ _ #[true,true,true,true,false,false,false,false,false,false,false,false] _ _;exact h15
                            refine AllReady.cons rfl (fun K hK => ?_) ?_
                            · (go_simp);refine hK _ _ ?_;show wpAny _ _ _ _ _ #[true,true,true,false,true,false,false,false,false,false,false,false] _ _;exact h23
                            exact AllReady.nil
                          case g =>
                           refine wpAny_ready (rs:=[0,2]) (by kernel_rfl) (by simp) ?_
                           refine AllReady.cons rfl (fun K hK => ?_) ?_
                           · (go_simp);refine hK _ _ ?_;show wpAny _ _ _ _ _ #[true,true,false,false,true,true,true,false,false,false,false,false] _ _;exact h115
                           refine AllReady.cons rfl (fun K hK => ?_) ?_
                           · (go_simp);refine hK _ _ ?_;show wpAny _ _ _ _ _ #[false,true,true,false,true,true,true,false,false,false,false,false] _ _;exact h118
                           exact AllReady.nil
                         case g =>
                          refine wpAny_ready (rs:=[0,3,6]) (by kernel_rfl) (by simp) ?_
                          refine AllReady.cons rfl (fun K hK => ?_) ?_
                          · (go_simp);refine hK _ _ ?_;show wpAny _ _ _ _ _ #[true,true,true,false,true,true,false,false,false,false,false,false] _ _;exact h55
                          refine AllReady.cons rfl (fun K hK => ?_) ?_
                          · (go_simp);refine (asked_ok _ r HR.out.1 HR.out.2).mono ?_;rintro e w3 ⟨rfl,rfl⟩;refine hK _ _ ?_;show wpAny _ _ _ _ _ #[false,true,true,true,true,true,false,false,false,false,false,false] _ _;exact h62
                          refine AllReady.cons rfl (fun K hK => ?_) ?_
                          · (go_simp);refine hK _ _ ?_;show wpAny _ _ _ _ _ #[false,true,true,false,true,true,true,false,false,false,false,false] _ _;exact h118
                          exact AllReady.nil
                        case g =>
                         refine wpAny_ready (rs:=[2,6]) (by kernel_rfl) (by simp) ?_
                         refine AllReady.cons rfl (fun K hK => ?_) ?_
                         · (go_simp);refine hK _ _ ?_;show wpAny _ _ _ _ _ #[true,true,true,false,true,true,false,false,false,false,false,false] _ _;exact h55
                         refine AllReady.cons rfl (fun K hK => ?_) ?_
                         · (go_simp);refine hK _ _ ?_;show wpAny _ _ _ _ _ #[true,true,false,false,true,true,true,false,false,false,false,false] _ _;exact h115
                         exact AllReady.nil
                       case g =>
                        refine wpAny_ready (rs:=[0,5]) (by kernel_rfl) (by simp) ?_
                        refine AllReady.cons rfl (fun K hK => ?_) ?_
                        · (go_simp);refine hK _ _ ?_;show wpAny _ _ _ _ _ #[true,true,true,true,true,false,false,false,false,false,false,false] _ _;exact h31
                        refine AllReady.cons rfl (fun K hK => ?_) ?_
                        · (go_simp);refine hK _ _ ?_;show wpAny _ _ _ _ _ #[false,true,true,true,true,true,false,false,false,false,false,false] _ _;exact h62
                        exact AllReady.nil
                      case g =>
                       refine wpAny_ready (rs:=[3,5]) (by kernel_rfl) (by simp) ?_
                       refine AllReady.cons rfl (fun K hK => ?_) ?_
                       · (go_simp);refine (asked_ok _ r HR.out.1 HR.out.2).mono ?_;rintro e w3 ⟨rfl,rfl⟩;refine hK _ _ ?_;show wpAny _ _ _ _ _ #[true,true,true,true,true,false,false,false,false,false,false,false] _ _;exact h31
                       refine AllReady.cons rfl (fun K hK => ?_) ?_
                       · (go_simp);refine hK _ _ ?_;show wpAny _ _ _ _ _ #[true,true,true,false,true,true,false,false,false,false,false,false] _ _;exact h55
                       exact AllReady.nil
                     case g =>
                      refine wpAny_ready (rs:=[4]) (by kernel_rfl) (by simp) ?_
                      refine AllReady.cons rfl (fun K hK => ?_) ?_
                      · (go_simp);refine hK _ _ ?_;show wpAny _ _ _ _ _ #[true,true,true,true,true,false,false,false,false,false,false,false] _ _;exact h31
                      exact AllReady.nil
                    case g =>
                     refine wpAny_ready (rs:=[0,3]) (by kernel_rfl) (by simp) ?_
                     refine AllReady.cons rfl (fun K hK => ?_) ?_
                     · (go_simp);refine hK _ _ ?_;show wpAny _ _ _ _ _ #[true,true,true,false,true,true,true,false,false,false,false,false] _ _;exact h119
                     refine AllReady.cons rfl (fun K hK => ?_) ?_
                     · (go_simp);refine (asked_ok _ r HR.out.1 HR.out.2).mono ?_;rintro e w3 ⟨rfl,rfl⟩;refine hK _ _ ?_;show wpAny _ _ _ _ _ #[false,true,true,true,true,true,true,false,false,false,false,false] _ _;exact h126
                     exact AllReady.nil
                   case g =>
                    refine wpAny_ready (rs:=[2]) (by kernel_rfl) (by simp) ?_
                    refine AllReady.cons rfl (fun K hK => ?_) ?_
                    · (go_simp);refine hK _ _ ?_;show wpAny _ _ _ _ _ #[true,true,true,false,true,true,true,false,false,false,false,false] _ _;exact h119
                    exact AllReady.nil
                  case g =>
                   refine wpAny_ready (rs:=[0,6]) (by kernel_rfl) (by simp) ?_
                   refine AllReady.cons rfl (fun K hK => ?_) ?_
                   · (go_simp);refine hK _ _ ?_;show wpAny _ _ _ _ _ #[true,true,true,true,true,true,false,false,false,false,false,false] _ _;exact h63
                   refine AllReady.cons rfl (fun K hK => ?_) ?_
                   · (go_simp);refine hK _ _ ?_;show wpAny _ _ _ _ _ #[false,true,true,true,true,true,true,false,false,false,false,false] _ _;exact h126
                   exact AllReady.nil
                 case g =>
                  refine wpAny_ready (rs:=[3,6]) (by kernel_rfl) (by simp) ?_
                  refine AllReady.cons rfl (fun K hK => ?_) ?_
                  · (go_simp);refine (asked_ok _ r HR.out.1 HR.out.2).mono ?_;rintro e w3 ⟨rfl,rfl⟩;refine hK _ _ ?_;show wpAny _ _ _ _ _ #[true,true,true,true,true,true,false,false,false,false,false,false] _ _;exact h63
                  refine AllReady.cons rfl (fun K hK => ?_) ?_
                  · (go_simp);refine hK _ _ ?_;show wpAny _ _ _ _ _ #[true,true,true,false,true,true,true,false,false,false,false,false] _ _;exact h119
                  exact AllReady.nil
                case g =>
                 refine wpAny_ready (rs:=[5]) (by kernel_rfl) (by simp) ?_
                 refine AllReady.cons rfl (fun K hK => ?_) ?_
                 · (go_simp);refine hK _ _ ?_;show wpAny _ _ _ _ _ #[true,true,true,true,true,true,false,false,false,false,false,false] _ _;exact h63
                 exact AllReady.nil
               case g =>
                refine wpAny_ready (rs:=[0,7]) (by kernel_rfl) (by simp) ?_
                refine AllReady.cons rfl (fun K hK => ?_) ?_
                · (go_simp);refine hK _ _ ?_;show wpAny _ _ _ _ _ #[true,true,true,true,true,true,true,false,false,false,false,false] _ _;exact h127
                refine AllReady.cons rfl (fun K hK => ?_) ?_
                · (go_simp);refine (HCO.out wr.drew (HH.out.below HBW.out.drew) r x HX.out).mono ?_;rintro e w2 ⟨rfl,hb2⟩;have HB2:=Lib.hid hb2;clear hb2;refine hK _ _ ?_;show wpAny _ _ _ _ _ #[false,true,true,true,true,true,true,true,false,false,false,false] _ _;revert w2;exact h254
                exact AllReady.nil
              case g =>
               refine wpAny_ready (rs:=[3]) (by kernel_rfl) (by simp) ?_
               refine AllReady.cons rfl (fun K hK => ?_) ?_
               · (go_simp);refine (asked_ok _ r HR.out.1 HR.out.2).mono ?_;rintro e w3 ⟨rfl,rfl⟩;refine hK _ _ ?_;show wpAny _ _ _ _ _ #[true,true,true,true,true,true,true,false,false,false,false,false] _ _;exact h127
               exact AllReady.nil
             case g =>
              refine wpAny_ready (rs:=[6]) (by kernel_rfl) (by simp) ?_
              refine AllReady.cons rfl (fun K hK => ?_) ?_
              · (go_simp);refine hK _ _ ?_;show wpAny _ _ _ _ _ #[true,true,true,true,true,true,true,false,false,false,false,false] _ _;exact h127
              exact AllReady.nil
            case g =>
             intro w2 HB2
             skip
             refine wpAny_ready (rs:=[0,8]) (by kernel_rfl) (by simp) ?_
             refine AllReady.cons rfl (fun K hK => ?_) ?_
             · (go_simp);refine hK _ _ ?_;show wpAny _ _ _ _ _ #[true,true,true,true,true,true,true,true,false,false,false,false] _ _;revert w2;exact h255
             refine AllReady.cons rfl (fun K hK => ?_) ?_
             · (go_simp);refine (knownP_any _ x.cls).mono ?_;rintro e w3 ⟨rfl,rfl⟩;refine hK _ _ ?_;show wpAny _ _ _ _ _ #[false,true,true,true,true,true,true,true,true,false,false,false] _ _;revert w2;exact h510
             exact AllReady.nil
           case g =>
            refine wpAny_ready (rs:=[7]) (by kernel_rfl) (by simp) ?_
            refine AllReady.cons rfl (fun K hK => ?_) ?_
            · (go_simp);refine (HCO.out wr.drew (HH.out.below HBW.out.drew) r x HX.out).mono ?_;rintro e w2 ⟨rfl,hb2⟩;have HB2:=Lib.hid hb2;clear hb2;refine hK _ _ ?_;show wpAny _ _ _ _ _ #[true,true,true,true,true,true,true,true,false,false,false,false] _ _;revert w2;exact h255
            exact AllReady.nil
          case g =>
           intro w2 HB2
           skip
           refine wpAny_ready (rs:=[0,9]) (by kernel_rfl) (by simp) ?_
           refine AllReady.cons rfl (fun K hK => ?_) ?_
           · (go_simp);refine hK _ _ ?_;show wpAny _ _ _ _ _ #[true,true,true,true,true,true,true,true,true,false,false,false] _ _;revert w2;exact h511
           refine AllReady.cons rfl (fun K hK => ?_) ?_
           · (go_simp);refine hK _ _ ?_;show wpAny _ _ _ _ _ #[false,true,true,true,true,true,true,true,true,true,false,false] _ _;revert w2;exact h1022
           exact AllReady.nil
         case g =>
          intro w2 HB2
          skip
          refine wpAny_ready (rs:=[8]) (by kernel_rfl) (by simp) ?_
          refine AllReady.cons rfl (fun K hK => ?_) ?_
          · (go_simp);refine (knownP_any _ x.cls).mono ?_;rintro e w3 ⟨rfl,rfl⟩;refine hK _ _ ?_;show wpAny _ _ _ _ _ #[true,true,true,true,true,true,true,true,true,false,false,false] _ _;revert w2;exact h511
          exact AllReady.nil
        case g =>
         intro w2 HB2
         skip
         refine wpAny_ready (rs:=[0]) (by kernel_rfl) (by simp) ?_
         refine AllReady.cons rfl (fun K hK => ?_) ?_
         · (go_simp);refine hK _ _ ?_;show wpAny _ _ _ _ _ #[true,true,true,true,true,true,true,true,true,true,false,false] _ _;revert w2;exact h1023
         exact AllReady.nil
       case g =>
        intro w2 HB2
        skip
        refine wpAny_ready (rs:=[9]) (by kernel_rfl) (by simp) ?_
        refine AllReady.cons rfl (fun K hK => ?_) ?_
        · (go_simp);refine hK _ _ ?_;show wpAny _ _ _ _ _ #[true,true,true,true,true,true,true,true,true,true,false,false] _ _;revert w2;exact h1023
        exact AllReady.nil
      case g =>
       intro w2 HB2
       skip
       refine wpAny_ready (rs:=[10]) (by kernel_rfl) (by simp) ?_
       refine AllReady.cons rfl (fun K hK => ?_) ?_
       · refine step_app (by rfl) _ _ 22 22 (by rfl) 35 i0 (.int .u8 0) 1 1 Tryz.underlying22 hi hz0 hz1 hz2 rfl (by simp [Value.cells,Value.oneCell']) w.heap.size ka k kc _ (by rfl) ((HO.out.drew.below HB2.out).alloc _) _ 1 [.int .u8 (knownOf x.cls)] (by rfl) (Src.ofCells Tryz.underlying22 _ _ _ _ rfl (Cells.new w2 [.int .u8 (knownOf x.cls)] 35) (by simp [Value.oneCell']) (by decide)) HL1.out HL2.out (HL3.out w2 HB2.out _) ?_;intro a' c' w4 ho4 hap;have HO4:=Lib.hid ho4;have HAP:=Lib.hid hap;clear ho4 hap;refine hK _ _ ?_;show wpAny _ _ _ _ _ #[true,true,true,true,true,true,true,true,true,true,true,false] _ _;revert a' c' w4;revert w2;exact h2047
       exact AllReady.nil
     case g =>
      intro w2 HB2
      skip
      intro a' c' w4 HO4 HAP
      skip
      refine wpAny_ready (rs:=[11]) (by kernel_rfl) (by simp) ?_
      refine AllReady.cons rfl (fun K hK => ?_) ?_
      · (go_simp);refine hK _ _ ?_;show wpAny _ _ _ _ _ #[true,true,true,true,true,true,true,true,true,true,true,true] _ _;revert a' c' w4;revert w2;exact h4095
      exact AllReady.nil
    intro w2 HB2
    skip
    intro a' c' w4 HO4 HAP
    skip
    refine wpAny_done (by kernel_rfl) ?_ _
    have hq:(firstC.take (k + 1)).map u8V = (firstC.take k).map u8V ++ [.int .u8 (knownOf x.cls)]:=by
     rw [HKN.out,List.take_add_one,HC.out]
     simp [u8V]
    have hbel:Below w.heap.size w w4:=((HBW.out.drew.trans (HB2.out.mono HBW.out.size)).alloc (Nat.le_trans HBW.out.size HB2.out.size) _).trans (HAP.out.below ((HO.out.drew.below HB2.out).alloc _) (HL3.out w2 HB2.out _))
    have HN4:Hid (Own w4 w.heap.size 1 a' (k + 1) c' ((firstC.take (k + 1)).map u8V)):=Lib.hid (by rw [hq];exact HO4.out)
    have HBL:=Lib.hid hbel
    clear hq hbel
    have hk2:(k:Int)≤1048576:=by omega
    go_wp2
    go_roundg (gk - 1)
    case measure => have:=HK.out;have:=HLT.out;omega
    case rel => exact ⟨k + 1,a',c',by have:=HK.out;have:=HLT.out;omega,rfl,by simp,HN4.out,HBL.out⟩
  · obtain rfl:k = 7:=by omega
    clear hk hbw hlt ho
    go_wp2
    go_ret2
    exact ⟨ka,kc,rfl,HO.out,HBW.out⟩
end Go.Proofs.YtjnidopbdjbbgaaGreat
