/-
  Backward, at its first element: walked.
-/
import Derived.Test.YtjnidopbdjbbgaaGreatB01
import Derived.Test.YtjnidopbdjbbgaaGreatB29
import Derived.Sort.BigQuietIn
import Derived.LoopIn
import Derived.LoopNIn
namespace Go.Proofs.YtjnidopbdjbbgaaGreat
open Go.RowKit
set_option linter.unusedVariables false
attribute [local go_sem] Oper.semAt_some
set_option maxRecDepth 100000 in
set_option maxHeartbeats 4000000 in
theorem back_open (n:Nat) (hn1:1≤n) (bb ab c m:Nat) (at0:Nat) (cl:Int) (hm:m≤1048576):
 SeqR Fence.wide n Tryz.prog 151 #[.pointer (some ⟨bb,0,none⟩)] #[.int .i64 m,.agg #[.int .i64 at0,.int .i32 cl]]
  (fun W => W.heap[bb]? = some (.cells #[.slice (some ⟨ab,0,none⟩) (m + 1) c] 214)∧W.cell? ⟨ab,m * 2,none⟩ = some (.int .i64 at0)∧W.cell? ⟨ab,m * 2 + 1,none⟩ = some (.int .i32 cl)):=fun l Jx W hS hY => by
 obtain ⟨h1,hS⟩:=hS
 have c0:=cells_at h1 0
 obtain ⟨h2,h3⟩:=hS
 obtain ⟨fn,tmps,assign,body,hy,hR⟩:=hY W (Below.refl _ _)
 have hm0:(0:Int)≤(m:Int):=by omega
 have hm1:(m:Int)≤1048576:=by omega
 have hm3:(m:Int) < (m:Int) + 1:=by omega
 clear h1 hY
 refine callsIn_of_wp Tryz.func151 rfl trivial ?_ rfl
 simp only [Tryz.ntmps151,List.size_toArray,List.length_cons,List.length_nil,Nat.reduceAdd,Nat.reduceSub,Array.replicate_succ,Array.replicate_zero,List.push_toArray,List.append_toArray,List.nil_append,List.cons_append]
 gi_wp2
 gi_loopw [3] (fun i wr => i = .int .i64 m∧W = wr) (fun _ _ => 0)
 case atStart => exact ⟨rfl,rfl⟩
 case round =>
  obtain ⟨rfl,rfl⟩:=hrel
  gi_wp2
  refine hR.mono ?_
  rintro e W4 ⟨rfl,hJx4⟩
  have HJ:=Lib.hid hJx4
  clear hJx4 hy hR
  gi_wp2
  refine bodyPost_ret (results_none rfl _ _ _) rfl ?_
  exact ⟨⟨_,rfl⟩,HJ.out⟩
set_option maxRecDepth 100000 in
set_option maxHeartbeats 4000000 in
theorem back_class (n:Nat) (hn1:1≤n) (bb ab c m:Nat) (x:Nat) (hm:m≤1048576):
 SeqR Fence.wide n Tryz.prog 153 #[.pointer (some ⟨bb,0,none⟩)] #[.int .i64 m,.int .u8 x]
  (fun W => W.heap[bb]? = some (.cells #[.slice (some ⟨ab,0,none⟩) (m + 1) c] 22)∧W.cell? ⟨ab,m,none⟩ = some (.int .u8 x)):=fun l Jx W hS hY => by
 obtain ⟨h1,hS⟩:=hS
 have c0:=cells_at h1 0
 have h2:=hS
 obtain ⟨fn,tmps,assign,body,hy,hR⟩:=hY W (Below.refl _ _)
 have hm0:(0:Int)≤(m:Int):=by omega
 have hm1:(m:Int)≤1048576:=by omega
 have hm3:(m:Int) < (m:Int) + 1:=by omega
 clear h1 hY
 refine callsIn_of_wp Tryz.func153 rfl trivial ?_ rfl
 simp only [Tryz.ntmps153,List.size_toArray,List.length_cons,List.length_nil,Nat.reduceAdd,Nat.reduceSub,Array.replicate_succ,Array.replicate_zero,List.push_toArray,List.append_toArray,List.nil_append,List.cons_append]
 gi_wp2
 gi_loopw [3] (fun i wr => i = .int .i64 m∧W = wr) (fun _ _ => 0)
 case atStart => exact ⟨rfl,rfl⟩
 case round =>
  obtain ⟨rfl,rfl⟩:=hrel
  gi_wp2
  refine hR.mono ?_
  rintro e W4 ⟨rfl,hJx4⟩
  have HJ:=Lib.hid hJx4
  clear hJx4 hy hR
  gi_wp2
  refine bodyPost_ret (results_none rfl _ _ _) rfl ?_
  exact ⟨⟨_,rfl⟩,HJ.out⟩
end Go.Proofs.YtjnidopbdjbbgaaGreat
