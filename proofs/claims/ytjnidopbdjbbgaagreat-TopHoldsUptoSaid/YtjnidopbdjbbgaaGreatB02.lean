/-
  Questions of one class: walked (printed by genleaf.py).
-/
import Derived.Test.YtjnidopbdjbbgaaGreatProg
import Derived.WalkKit
import Derived.WalkSpells
import Derived.WalkLawsBesides
section
namespace Go.Proofs.YtjnidopbdjbbgaaGreat
open Go.RowKit
set_option maxHeartbeats 2000000 in
theorem begins_any (w:World) (c:Nat) (h0:1≤c) (h1:c≤23):Calls Tryz.prog 72 #[.int .u8 c] w fun e w' => e = .returned (.bool (([20,21,22]:List Nat).contains c))∧w = w':=by
 rcases (show c = 20∨c = 21∨c = 22∨(c≠20∧c≠21∧c≠22) by omega) with rfl | rfl | rfl | ⟨k20,k21,k22⟩
 · go_enter Tryz.func72,Tryz.ntmps72
   go_wp2
   go_ret
   exact ⟨rfl,rfl⟩
 · go_enter Tryz.func72,Tryz.ntmps72
   go_wp2
   go_ret
   exact ⟨rfl,rfl⟩
 · go_enter Tryz.func72,Tryz.ntmps72
   go_wp2
   go_ret
   exact ⟨rfl,rfl⟩
 · have g0:(1:Int)≤(c:Int):=by omega
   have g1:(c:Int)≤23:=by omega
   have e20:((c:Int) == 20) = false:=by simp;omega
   have e21:((c:Int) == 21) = false:=by simp;omega
   have e22:((c:Int) == 22) = false:=by simp;omega
   have r:([20,21,22]:List Nat).contains c = false:=by simp;omega
   rw [r]
   clear h0 h1 r k20 k21 k22
   go_enter Tryz.func72,Tryz.ntmps72
   go_wp2
   go_ret
   first
    | exact ⟨rfl,rfl⟩
    | (refine ⟨?_,rfl⟩;show Ending.returned (.bool (decide ((c:Int) < 1) || decide ((23:Int) < (c:Int)))) = _;rw [decide_eq_false (by omega),decide_eq_false (by omega)];rfl)
set_option maxHeartbeats 2000000 in
theorem beginsP_any (w:World) (c:Nat) (h0:1≤c) (h1:c≤23):Calls Tryz.prog 110 #[.int .u8 c] w fun e w' => e = .returned (.bool (([20,21,22]:List Nat).contains c))∧w = w':=by
 rcases (show c = 20∨c = 21∨c = 22∨(c≠20∧c≠21∧c≠22) by omega) with rfl | rfl | rfl | ⟨k20,k21,k22⟩
 · go_enter Tryz.func110,Tryz.ntmps110
   go_wp2
   go_ret
   exact ⟨rfl,rfl⟩
 · go_enter Tryz.func110,Tryz.ntmps110
   go_wp2
   go_ret
   exact ⟨rfl,rfl⟩
 · go_enter Tryz.func110,Tryz.ntmps110
   go_wp2
   go_ret
   exact ⟨rfl,rfl⟩
 · have g0:(1:Int)≤(c:Int):=by omega
   have g1:(c:Int)≤23:=by omega
   have e20:((c:Int) == 20) = false:=by simp;omega
   have e21:((c:Int) == 21) = false:=by simp;omega
   have e22:((c:Int) == 22) = false:=by simp;omega
   have r:([20,21,22]:List Nat).contains c = false:=by simp;omega
   rw [r]
   clear h0 h1 r k20 k21 k22
   go_enter Tryz.func110,Tryz.ntmps110
   go_wp2
   go_ret
   first
    | exact ⟨rfl,rfl⟩
    | (refine ⟨?_,rfl⟩;show Ending.returned (.bool (decide ((c:Int) < 1) || decide ((23:Int) < (c:Int)))) = _;rw [decide_eq_false (by omega),decide_eq_false (by omega)];rfl)
set_option maxHeartbeats 2000000 in
theorem removed_any (w:World) (c:Nat) (h0:1≤c) (h1:c≤23):Calls Tryz.prog 31 #[.int .u8 c] w fun e w' => e = .returned (.bool (([10,15,16,17,18,19]:List Nat).contains c))∧w = w':=by
 rcases (show c = 10∨c = 15∨c = 16∨c = 17∨c = 18∨c = 19∨(c≠10∧c≠15∧c≠16∧c≠17∧c≠18∧c≠19) by omega) with rfl | rfl | rfl | rfl | rfl | rfl | ⟨k10,k15,k16,k17,k18,k19⟩
 · go_enter Tryz.func31,Tryz.ntmps31
   go_wp2
   go_ret
   exact ⟨rfl,rfl⟩
 · go_enter Tryz.func31,Tryz.ntmps31
   go_wp2
   go_ret
   exact ⟨rfl,rfl⟩
 · go_enter Tryz.func31,Tryz.ntmps31
   go_wp2
   go_ret
   exact ⟨rfl,rfl⟩
 · go_enter Tryz.func31,Tryz.ntmps31
   go_wp2
   go_ret
   exact ⟨rfl,rfl⟩
 · go_enter Tryz.func31,Tryz.ntmps31
   go_wp2
   go_ret
   exact ⟨rfl,rfl⟩
 · go_enter Tryz.func31,Tryz.ntmps31
   go_wp2
   go_ret
   exact ⟨rfl,rfl⟩
 · have g0:(1:Int)≤(c:Int):=by omega
   have g1:(c:Int)≤23:=by omega
   have e10:((c:Int) == 10) = false:=by simp;omega
   have e15:((c:Int) == 15) = false:=by simp;omega
   have e16:((c:Int) == 16) = false:=by simp;omega
   have e17:((c:Int) == 17) = false:=by simp;omega
   have e18:((c:Int) == 18) = false:=by simp;omega
   have e19:((c:Int) == 19) = false:=by simp;omega
   have r:([10,15,16,17,18,19]:List Nat).contains c = false:=by simp;omega
   rw [r]
   clear h0 h1 r k10 k15 k16 k17 k18 k19
   go_enter Tryz.func31,Tryz.ntmps31
   go_wp2
   go_ret
   first
    | exact ⟨rfl,rfl⟩
    | (refine ⟨?_,rfl⟩;show Ending.returned (.bool (decide ((c:Int) < 1) || decide ((23:Int) < (c:Int)))) = _;rw [decide_eq_false (by omega),decide_eq_false (by omega)];rfl)
set_option maxHeartbeats 2000000 in
theorem removedR_any (w:World) (c:Nat) (h0:1≤c) (h1:c≤23):Calls Tryz.prog 90 #[.int .u8 c] w fun e w' => e = .returned (.bool (([10,15,16,17,18,19]:List Nat).contains c))∧w = w':=by
 rcases (show c = 10∨c = 15∨c = 16∨c = 17∨c = 18∨c = 19∨(c≠10∧c≠15∧c≠16∧c≠17∧c≠18∧c≠19) by omega) with rfl | rfl | rfl | rfl | rfl | rfl | ⟨k10,k15,k16,k17,k18,k19⟩
 · go_enter Tryz.func90,Tryz.ntmps90
   go_wp2
   go_ret
   exact ⟨rfl,rfl⟩
 · go_enter Tryz.func90,Tryz.ntmps90
   go_wp2
   go_ret
   exact ⟨rfl,rfl⟩
 · go_enter Tryz.func90,Tryz.ntmps90
   go_wp2
   go_ret
   exact ⟨rfl,rfl⟩
 · go_enter Tryz.func90,Tryz.ntmps90
   go_wp2
   go_ret
   exact ⟨rfl,rfl⟩
 · go_enter Tryz.func90,Tryz.ntmps90
   go_wp2
   go_ret
   exact ⟨rfl,rfl⟩
 · go_enter Tryz.func90,Tryz.ntmps90
   go_wp2
   go_ret
   exact ⟨rfl,rfl⟩
 · have g0:(1:Int)≤(c:Int):=by omega
   have g1:(c:Int)≤23:=by omega
   have e10:((c:Int) == 10) = false:=by simp;omega
   have e15:((c:Int) == 15) = false:=by simp;omega
   have e16:((c:Int) == 16) = false:=by simp;omega
   have e17:((c:Int) == 17) = false:=by simp;omega
   have e18:((c:Int) == 18) = false:=by simp;omega
   have e19:((c:Int) == 19) = false:=by simp;omega
   have r:([10,15,16,17,18,19]:List Nat).contains c = false:=by simp;omega
   rw [r]
   clear h0 h1 r k10 k15 k16 k17 k18 k19
   go_enter Tryz.func90,Tryz.ntmps90
   go_wp2
   go_ret
   first
    | exact ⟨rfl,rfl⟩
    | (refine ⟨?_,rfl⟩;show Ending.returned (.bool (decide ((c:Int) < 1) || decide ((23:Int) < (c:Int)))) = _;rw [decide_eq_false (by omega),decide_eq_false (by omega)];rfl)
set_option maxHeartbeats 2000000 in
theorem removedT_any (w:World) (c:Nat) (h0:1≤c) (h1:c≤23):Calls Tryz.prog 12 #[.int .u8 c] w fun e w' => e = .returned (.bool (([10,15,16,17,18,19]:List Nat).contains c))∧w = w':=by
 rcases (show c = 10∨c = 15∨c = 16∨c = 17∨c = 18∨c = 19∨(c≠10∧c≠15∧c≠16∧c≠17∧c≠18∧c≠19) by omega) with rfl | rfl | rfl | rfl | rfl | rfl | ⟨k10,k15,k16,k17,k18,k19⟩
 · go_enter Tryz.func12,Tryz.ntmps12
   go_wp2
   go_ret
   exact ⟨rfl,rfl⟩
 · go_enter Tryz.func12,Tryz.ntmps12
   go_wp2
   go_ret
   exact ⟨rfl,rfl⟩
 · go_enter Tryz.func12,Tryz.ntmps12
   go_wp2
   go_ret
   exact ⟨rfl,rfl⟩
 · go_enter Tryz.func12,Tryz.ntmps12
   go_wp2
   go_ret
   exact ⟨rfl,rfl⟩
 · go_enter Tryz.func12,Tryz.ntmps12
   go_wp2
   go_ret
   exact ⟨rfl,rfl⟩
 · go_enter Tryz.func12,Tryz.ntmps12
   go_wp2
   go_ret
   exact ⟨rfl,rfl⟩
 · have g0:(1:Int)≤(c:Int):=by omega
   have g1:(c:Int)≤23:=by omega
   have e10:((c:Int) == 10) = false:=by simp;omega
   have e15:((c:Int) == 15) = false:=by simp;omega
   have e16:((c:Int) == 16) = false:=by simp;omega
   have e17:((c:Int) == 17) = false:=by simp;omega
   have e18:((c:Int) == 18) = false:=by simp;omega
   have e19:((c:Int) == 19) = false:=by simp;omega
   have r:([10,15,16,17,18,19]:List Nat).contains c = false:=by simp;omega
   rw [r]
   clear h0 h1 r k10 k15 k16 k17 k18 k19
   go_enter Tryz.func12,Tryz.ntmps12
   go_wp2
   go_ret
   first
    | exact ⟨rfl,rfl⟩
    | (refine ⟨?_,rfl⟩;show Ending.returned (.bool (decide ((c:Int) < 1) || decide ((23:Int) < (c:Int)))) = _;rw [decide_eq_false (by omega),decide_eq_false (by omega)];rfl)
set_option maxHeartbeats 2000000 in
theorem neutral_any (w:World) (c:Nat) (h0:1≤c) (h1:c≤23):Calls Tryz.prog 48 #[.int .u8 c] w fun e w' => e = .returned (.bool (([11,12,13,14,20,21,22,23]:List Nat).contains c))∧w = w':=by
 rcases (show c = 11∨c = 12∨c = 13∨c = 14∨c = 20∨c = 21∨c = 22∨c = 23∨(c≠11∧c≠12∧c≠13∧c≠14∧c≠20∧c≠21∧c≠22∧c≠23) by omega) with rfl | rfl | rfl | rfl | rfl | rfl | rfl | rfl | ⟨k11,k12,k13,k14,k20,k21,k22,k23⟩
 · go_enter Tryz.func48,Tryz.ntmps48
   go_wp2
   go_ret
   exact ⟨rfl,rfl⟩
 · go_enter Tryz.func48,Tryz.ntmps48
   go_wp2
   go_ret
   exact ⟨rfl,rfl⟩
 · go_enter Tryz.func48,Tryz.ntmps48
   go_wp2
   go_ret
   exact ⟨rfl,rfl⟩
 · go_enter Tryz.func48,Tryz.ntmps48
   go_wp2
   go_ret
   exact ⟨rfl,rfl⟩
 · go_enter Tryz.func48,Tryz.ntmps48
   go_wp2
   go_ret
   exact ⟨rfl,rfl⟩
 · go_enter Tryz.func48,Tryz.ntmps48
   go_wp2
   go_ret
   exact ⟨rfl,rfl⟩
 · go_enter Tryz.func48,Tryz.ntmps48
   go_wp2
   go_ret
   exact ⟨rfl,rfl⟩
 · go_enter Tryz.func48,Tryz.ntmps48
   go_wp2
   go_ret
   exact ⟨rfl,rfl⟩
 · have g0:(1:Int)≤(c:Int):=by omega
   have g1:(c:Int)≤23:=by omega
   have e11:((c:Int) == 11) = false:=by simp;omega
   have e12:((c:Int) == 12) = false:=by simp;omega
   have e13:((c:Int) == 13) = false:=by simp;omega
   have e14:((c:Int) == 14) = false:=by simp;omega
   have e20:((c:Int) == 20) = false:=by simp;omega
   have e21:((c:Int) == 21) = false:=by simp;omega
   have e22:((c:Int) == 22) = false:=by simp;omega
   have e23:((c:Int) == 23) = false:=by simp;omega
   have r:([11,12,13,14,20,21,22,23]:List Nat).contains c = false:=by simp;omega
   rw [r]
   clear h0 h1 r k11 k12 k13 k14 k20 k21 k22 k23
   go_enter Tryz.func48,Tryz.ntmps48
   go_wp2
   go_ret
   first
    | exact ⟨rfl,rfl⟩
    | (refine ⟨?_,rfl⟩;show Ending.returned (.bool (decide ((c:Int) < 1) || decide ((23:Int) < (c:Int)))) = _;rw [decide_eq_false (by omega),decide_eq_false (by omega)];rfl)
set_option maxHeartbeats 2000000 in
theorem neutralR_any (w:World) (c:Nat) (h0:1≤c) (h1:c≤23):Calls Tryz.prog 99 #[.int .u8 c] w fun e w' => e = .returned (.bool (([11,12,13,14,20,21,22,23]:List Nat).contains c))∧w = w':=by
 rcases (show c = 11∨c = 12∨c = 13∨c = 14∨c = 20∨c = 21∨c = 22∨c = 23∨(c≠11∧c≠12∧c≠13∧c≠14∧c≠20∧c≠21∧c≠22∧c≠23) by omega) with rfl | rfl | rfl | rfl | rfl | rfl | rfl | rfl | ⟨k11,k12,k13,k14,k20,k21,k22,k23⟩
 · go_enter Tryz.func99,Tryz.ntmps99
   go_wp2
   go_ret
   exact ⟨rfl,rfl⟩
 · go_enter Tryz.func99,Tryz.ntmps99
   go_wp2
   go_ret
   exact ⟨rfl,rfl⟩
 · go_enter Tryz.func99,Tryz.ntmps99
   go_wp2
   go_ret
   exact ⟨rfl,rfl⟩
 · go_enter Tryz.func99,Tryz.ntmps99
   go_wp2
   go_ret
   exact ⟨rfl,rfl⟩
 · go_enter Tryz.func99,Tryz.ntmps99
   go_wp2
   go_ret
   exact ⟨rfl,rfl⟩
 · go_enter Tryz.func99,Tryz.ntmps99
   go_wp2
   go_ret
   exact ⟨rfl,rfl⟩
 · go_enter Tryz.func99,Tryz.ntmps99
   go_wp2
   go_ret
   exact ⟨rfl,rfl⟩
 · go_enter Tryz.func99,Tryz.ntmps99
   go_wp2
   go_ret
   exact ⟨rfl,rfl⟩
 · have g0:(1:Int)≤(c:Int):=by omega
   have g1:(c:Int)≤23:=by omega
   have e11:((c:Int) == 11) = false:=by simp;omega
   have e12:((c:Int) == 12) = false:=by simp;omega
   have e13:((c:Int) == 13) = false:=by simp;omega
   have e14:((c:Int) == 14) = false:=by simp;omega
   have e20:((c:Int) == 20) = false:=by simp;omega
   have e21:((c:Int) == 21) = false:=by simp;omega
   have e22:((c:Int) == 22) = false:=by simp;omega
   have e23:((c:Int) == 23) = false:=by simp;omega
   have r:([11,12,13,14,20,21,22,23]:List Nat).contains c = false:=by simp;omega
   rw [r]
   clear h0 h1 r k11 k12 k13 k14 k20 k21 k22 k23
   go_enter Tryz.func99,Tryz.ntmps99
   go_wp2
   go_ret
   first
    | exact ⟨rfl,rfl⟩
    | (refine ⟨?_,rfl⟩;show Ending.returned (.bool (decide ((c:Int) < 1) || decide ((23:Int) < (c:Int)))) = _;rw [decide_eq_false (by omega),decide_eq_false (by omega)];rfl)
set_option maxHeartbeats 2000000 in
theorem blank_any (w:World) (c:Nat) (h0:1≤c) (h1:c≤23):Calls Tryz.prog 59 #[.int .u8 c] w fun e w' => e = .returned (.bool (([13,20,21,22,23]:List Nat).contains c))∧w = w':=by
 rcases (show c = 13∨c = 20∨c = 21∨c = 22∨c = 23∨(c≠13∧c≠20∧c≠21∧c≠22∧c≠23) by omega) with rfl | rfl | rfl | rfl | rfl | ⟨k13,k20,k21,k22,k23⟩
 · go_enter Tryz.func59,Tryz.ntmps59
   go_wp2
   go_ret
   exact ⟨rfl,rfl⟩
 · go_enter Tryz.func59,Tryz.ntmps59
   go_wp2
   go_ret
   exact ⟨rfl,rfl⟩
 · go_enter Tryz.func59,Tryz.ntmps59
   go_wp2
   go_ret
   exact ⟨rfl,rfl⟩
 · go_enter Tryz.func59,Tryz.ntmps59
   go_wp2
   go_ret
   exact ⟨rfl,rfl⟩
 · go_enter Tryz.func59,Tryz.ntmps59
   go_wp2
   go_ret
   exact ⟨rfl,rfl⟩
 · have g0:(1:Int)≤(c:Int):=by omega
   have g1:(c:Int)≤23:=by omega
   have e13:((c:Int) == 13) = false:=by simp;omega
   have e20:((c:Int) == 20) = false:=by simp;omega
   have e21:((c:Int) == 21) = false:=by simp;omega
   have e22:((c:Int) == 22) = false:=by simp;omega
   have e23:((c:Int) == 23) = false:=by simp;omega
   have r:([13,20,21,22,23]:List Nat).contains c = false:=by simp;omega
   rw [r]
   clear h0 h1 r k13 k20 k21 k22 k23
   go_enter Tryz.func59,Tryz.ntmps59
   go_wp2
   go_ret
   first
    | exact ⟨rfl,rfl⟩
    | (refine ⟨?_,rfl⟩;show Ending.returned (.bool (decide ((c:Int) < 1) || decide ((23:Int) < (c:Int)))) = _;rw [decide_eq_false (by omega),decide_eq_false (by omega)];rfl)
end Go.Proofs.YtjnidopbdjbbgaaGreat
end
/-
  Small functions of classes and levels: walked.
-/
section
namespace Go.Proofs.YtjnidopbdjbbgaaGreat
open Go.RowKit
/-- A class; ON of what is none. -/
def knownOf (c:Nat):Nat:=if 1≤c∧c≤23 then c else 14
set_option maxHeartbeats 2000000 in
theorem knownE_any (w:World) (c:Nat):Calls Tryz.prog 21 #[.int .u8 c] w fun e w' => e = .returned (.int .u8 (knownOf c))∧w = w':=by
 unfold knownOf
 rcases (show c < 1∨23 < c∨(1≤c∧c≤23) by omega) with h | h | h
 · have h1:(c:Int) < 1:=by omega
   rw [if_neg (by omega)]
   clear h
   go_enter Tryz.func21,Tryz.ntmps21
   go_wp2
   go_ret
   exact ⟨rfl,rfl⟩
 · have h0:(1:Int)≤(c:Int):=by omega
   have h1:(23:Int) < (c:Int):=by omega
   rw [if_neg (by omega)]
   clear h
   go_enter Tryz.func21,Tryz.ntmps21
   go_wp2
   go_ret
   exact ⟨rfl,rfl⟩
 · have h0:(1:Int)≤(c:Int):=by omega
   have h1:(c:Int)≤23:=by omega
   rw [if_pos h]
   clear h
   go_enter Tryz.func21,Tryz.ntmps21
   go_wp2
   go_ret
   exact ⟨rfl,rfl⟩
set_option maxHeartbeats 2000000 in
theorem knownS_any (w:World) (c:Nat):Calls Tryz.prog 83 #[.int .u8 c] w fun e w' => e = .returned (.int .u8 (knownOf c))∧w = w':=by
 unfold knownOf
 rcases (show c < 1∨23 < c∨(1≤c∧c≤23) by omega) with h | h | h
 · have h1:(c:Int) < 1:=by omega
   rw [if_neg (by omega)]
   clear h
   go_enter Tryz.func83,Tryz.ntmps83
   go_wp2
   go_ret
   exact ⟨rfl,rfl⟩
 · have h0:(1:Int)≤(c:Int):=by omega
   have h1:(23:Int) < (c:Int):=by omega
   rw [if_neg (by omega)]
   clear h
   go_enter Tryz.func83,Tryz.ntmps83
   go_wp2
   go_ret
   exact ⟨rfl,rfl⟩
 · have h0:(1:Int)≤(c:Int):=by omega
   have h1:(c:Int)≤23:=by omega
   rw [if_pos h]
   clear h
   go_enter Tryz.func83,Tryz.ntmps83
   go_wp2
   go_ret
   exact ⟨rfl,rfl⟩
set_option maxHeartbeats 2000000 in
theorem knownP_any (w:World) (c:Nat):Calls Tryz.prog 61 #[.int .u8 c] w fun e w' => e = .returned (.int .u8 (knownOf c))∧w = w':=by
 unfold knownOf
 rcases (show c < 1∨23 < c∨(1≤c∧c≤23) by omega) with h | h | h
 · have h1:(c:Int) < 1:=by omega
   rw [if_neg (by omega)]
   clear h
   go_enter Tryz.func61,Tryz.ntmps61
   go_wp2
   go_ret
   exact ⟨rfl,rfl⟩
 · have h0:(1:Int)≤(c:Int):=by omega
   have h1:(23:Int) < (c:Int):=by omega
   rw [if_neg (by omega)]
   clear h
   go_enter Tryz.func61,Tryz.ntmps61
   go_wp2
   go_ret
   exact ⟨rfl,rfl⟩
 · have h0:(1:Int)≤(c:Int):=by omega
   have h1:(c:Int)≤23:=by omega
   rw [if_pos h]
   clear h
   go_enter Tryz.func61,Tryz.ntmps61
   go_wp2
   go_ret
   exact ⟨rfl,rfl⟩
set_option maxHeartbeats 2000000 in
theorem knownR_any (w:World) (c:Nat):Calls Tryz.prog 28 #[.int .u8 c] w fun e w' => e = .returned (.int .u8 (knownOf c))∧w = w':=by
 unfold knownOf
 rcases (show c < 1∨23 < c∨(1≤c∧c≤23) by omega) with h | h | h
 · have h1:(c:Int) < 1:=by omega
   rw [if_neg (by omega)]
   clear h
   go_enter Tryz.func28,Tryz.ntmps28
   go_wp2
   go_ret
   exact ⟨rfl,rfl⟩
 · have h0:(1:Int)≤(c:Int):=by omega
   have h1:(23:Int) < (c:Int):=by omega
   rw [if_neg (by omega)]
   clear h
   go_enter Tryz.func28,Tryz.ntmps28
   go_wp2
   go_ret
   exact ⟨rfl,rfl⟩
 · have h0:(1:Int)≤(c:Int):=by omega
   have h1:(c:Int)≤23:=by omega
   rw [if_pos h]
   clear h
   go_enter Tryz.func28,Tryz.ntmps28
   go_wp2
   go_ret
   exact ⟨rfl,rfl⟩
/-- The side of a settled class; none: it is not settled. -/
def sideV (c:Nat):Int × Bool:=if c = 1 then (1,true) else if c = 2∨c = 4∨c = 7 then (2,true) else (0,false)
set_option maxHeartbeats 2000000 in
theorem side_any (w:World) (c:Nat):Calls Tryz.prog 47 #[.int .u8 c] w fun e w' => e = .returned (.tuple #[.int .u8 (sideV c).1,.bool (sideV c).2])∧w = w':=by
 rcases (show c = 1∨c = 2∨c = 4∨c = 7∨(c≠1∧c≠2∧c≠4∧c≠7) by omega) with rfl | rfl | rfl | rfl | ⟨k1,k2,k4,k7⟩
 · go_enter Tryz.func47,Tryz.ntmps47
   go_wp2
   go_ret2
   exact ⟨rfl,rfl⟩
 · go_enter Tryz.func47,Tryz.ntmps47
   go_wp2
   go_ret2
   exact ⟨rfl,rfl⟩
 · go_enter Tryz.func47,Tryz.ntmps47
   go_wp2
   go_ret2
   exact ⟨rfl,rfl⟩
 · go_enter Tryz.func47,Tryz.ntmps47
   go_wp2
   go_ret2
   exact ⟨rfl,rfl⟩
 · have e1:((c:Int) == 1) = false:=by simp;omega
   have e2:((c:Int) == 2) = false:=by simp;omega
   have e4:((c:Int) == 4) = false:=by simp;omega
   have e7:((c:Int) == 7) = false:=by simp;omega
   have r:sideV c = (0,false):=by unfold sideV;rw [if_neg k1,if_neg (by omega)]
   rw [r]
   clear r k1 k2 k4 k7
   go_enter Tryz.func47,Tryz.ntmps47
   go_wp2
   go_ret2
   exact ⟨rfl,rfl⟩
/-- The way of a level. -/
def wayOf (l:Nat):Nat:=if l % 2 = 0 then 1 else 2
set_option maxHeartbeats 2000000 in
theorem way_any (w:World) (l:Nat) (h:l≤126):Calls Tryz.prog 50 #[.int .i8 l] w fun e w' => e = .returned (.int .u8 (wayOf l))∧w = w':=by
 unfold wayOf
 have h0:(0:Int)≤(l:Int):=by omega
 have h1:(l:Int)≤126:=by omega
 by_cases h2:l % 2 = 0
 · have e1:((l:Int) % 2 == 0) = true:=by simp;omega
   have e2:(((l:Int).tmod 2) == 0) = true:=by rw [show (l:Int).tmod 2 = ((l % 2:Nat):Int) from rfl,h2];rfl
   rw [if_pos h2]
   clear h h2
   go_enter Tryz.func50,Tryz.ntmps50
   go_wp2
   go_ret
   exact ⟨rfl,rfl⟩
 · have e1:((l:Int) % 2 == 0) = false:=by simp;omega
   have e2:(((l:Int).tmod 2) == 0) = false:=by rw [show (l:Int).tmod 2 = ((l % 2:Nat):Int) from rfl,show l % 2 = 1 by omega];rfl
   rw [if_neg h2]
   clear h h2
   go_enter Tryz.func50,Tryz.ntmps50
   go_wp2
   go_ret
   exact ⟨rfl,rfl⟩
end Go.Proofs.YtjnidopbdjbbgaaGreat
end
