/-
  append, at a step of a region that draws its order; over any program.
-/
import Derived.Test.YtjnidopbdjbbgaaGreatB03
import Derived.Deep.AppendLies
import Derived.Deep.RegionHeld3
namespace Go.Proofs.YtjnidopbdjbbgaaGreat
open Go.RowKit
section
variable {P:Program} {w:World}
/-- append, at a step of a region that draws its order. -/
theorem step_app {ops:Array Oper} {o:Oper} {a:Act} {K:Act→World→Prop} {Q:Exit→Act→World→Prop} {E:Prop} (hgd:o.guard = none) (s x:Operand) (t tx:TypeId)
 (ho:o.op = .call { callee:=.builtin .append,args:=#[s,x],argTypes:=#[t,tx] })
 (e:TypeId) (i:TypeInfo) (z:Value) (size bytes:Nat) (ht:P.underlying t = some (.slice e)) (hi:P.info? e = some i) (hz:i.zero = some z) (hsize:i.size = size) (hby:i.bytes = bytes) (hzs:z.cells.size = size)
 (hz1:∀ u∈z.cells.toList,u.oneCell' = true)
 (B:Nat) (a0:Option Addr) (n c:Nat) (xs:List Value) (hs:a.eval s = .slice a0 n c) (hown:Own w B size a0 n c xs) (xv:Value) (m:Nat) (news:List Value) (hx:a.eval x = xv) (hsrc:Src P size tx xv m news w)
 (h63:n + m≤maxLen) (hb:(n + m) * bytes≤140737488355328) (hB:B≤w.heap.size)
 (h:∀ a' c' w',Own w' B size a' (n + m) c' (xs ++ news)→Apped w w' a0 a'→K (a.put o.dst (.slice a' (n + m) c')) w'):
 if Region.wanted o (yielded ops a.tmps) = true then Oper.wp P o a w K Q else E:=by
 have hw:Region.wanted o (yielded ops a.tmps) = true:=by simp [Region.wanted,hgd]
 rw [if_pos hw]
 obtain ⟨a',c',w',hr,h2,h3⟩:=run_app (P:=P) (w:=w) t tx o.type e i z size bytes ht hi hz hsize hby hzs hz1 B a0 n c xs hown xv m news hsrc h63 hb hB
 unfold Oper.wp execOp
 simp only [ho,resolve,invoke,builtin,Sem.run_bind,Sem.run_pure,Result.andThen_ok,List.map_toArray,List.map_cons,List.map_nil,hs,hx,hr]
 exact h a' c' w' h2 h3
end
end Go.Proofs.YtjnidopbdjbbgaaGreat
