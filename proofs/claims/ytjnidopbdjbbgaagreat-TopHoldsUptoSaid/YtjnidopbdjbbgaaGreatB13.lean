/-
  What the arguments of a law are, read as data: slices of integers and of strings, opened as lists; the bound on the bulk, part by part.
-/
import Derived.Test.YtjnidopbdjbbgaaGreatB03
import Derived.Test.YtjnidopbdjbbgaaGreatRows
import Derived.ProofKit
import Derived.OpenShut
import Derived.ShutString
import Derived.ChangeOld
import Derived.Below
import Derived.SizedLaws
import Derived.SliceStrings
import Derived.JoinedCond
namespace Go.Proofs.YtjnidopbdjbbgaaGreat
open Go.ChangeShapes Go.WideShapes Go.ChangeAt Go.RowKit
open Go.ChangeMaps (open_string shut_string)
theorem laidOut:laidOutB Tryz.prog = true:=by kernel_rfl
theorem ownK:ownKnob Tryz.prog.godebug = none:=by kernel_rfl
theorem bulk_one {H:Type} (d:DataW H):1≤Rows.uptoBulk d:=by
 cases d with
 | lit l => cases l <;> simp [Rows.uptoBulk]
 | _ => simp [Rows.uptoBulk]
theorem bulk_part {H:Type} {d:DataW H} {l:List (DataW H)} (h:d∈l):Rows.uptoBulk d≤Rows.uptoBulkAll l:=by
 induction l with
 | nil => cases h
 | cons x r ih =>
  simp only [Rows.uptoBulkAll]
  cases List.mem_cons.1 h with
  | inl e => subst e;omega
  | inr e => have:=ih e;omega
theorem bulk_length {H:Type} (l:List (DataW H)):l.length≤Rows.uptoBulkAll l:=by
 induction l with
 | nil => simp [Rows.uptoBulkAll]
 | cons x r ih => have:=bulk_one x;simp only [Rows.uptoBulkAll,List.length_cons];omega
theorem small_part {H:Type} {ds:List (DataW H)} (hk:Rows.uptoSmall H ds = true) {d:DataW H} (hd:d∈ds):Rows.uptoBulk d≤1048576:=by
 have h:Rows.uptoBulkAll ds≤1048576:=of_decide_eq_true hk
 have:=bulk_part hd
 omega
/-- What a slice that came in is, as data. -/
structure Came {H:Type} (d:DataW H) (c:Nat) (parts:List (DataW H)):Prop where
 shape:(d = .nil∧c = 0∧parts = [])∨∃ elems spare,d = .slice elems spare∧elems.length + spare.length = c∧parts = elems
theorem Came.bulk {H:Type} {d:DataW H} {c:Nat} {parts:List (DataW H)} (h:Came d c parts):c≤Rows.uptoBulk d:=by
 rcases h.shape with ⟨_,rfl,_⟩ | ⟨elems,spare,rfl,hc,_⟩
 · exact Nat.zero_le _
 · have h1:=bulk_length elems
   have h2:=bulk_length spare
   simp only [Rows.uptoBulk]
   omega
section
variable {H:Type} {enc:TypeId × Value→H} {W:World}
theorem cells_of {α:Type} (f:α→Value) (a:Addr) (zs:List α) (n:Nat) (hn:n≤zs.length) (h:∀ i (hi:i < zs.length),W.cell? (a.add i) = some (f zs[i])):Cells W (some a) ((zs.take n).map f):=by
 intro hne
 have h0:0 < n:=by
  rcases Nat.eq_zero_or_pos n with h0 | h0
  · subst h0;simp at hne
  · exact h0
 obtain ⟨b,off,spot⟩:=a
 have hc:=h 0 (by omega)
 have hspot:spot = none:=by simpa [Addr.add] using World.cell?_spot hc
 subst hspot
 refine ⟨b,off,rfl,fun j u hu => ?_⟩
 have hj:j < (zs.take n).length:=by
  have:=(List.getElem?_eq_some_iff.1 hu).1
  simpa using this
 have hj2:j < zs.length:=by rw [List.length_take] at hj;omega
 have:=h j hj2
 rw [Addr.add_lit] at this
 rw [this]
 rw [List.getElem?_map,List.getElem?_take_of_lt (by rw [List.length_take] at hj;omega),List.getElem?_eq_getElem hj2] at hu
 exact hu
/-- A slice of integers that came in. -/
theorem came_ints {t e:TypeId} {k:IntKind} (ht:Tryz.prog.underlying t = some (.slice e)) (he:Tryz.prog.underlying e = some (.int k)) (hc:Tryz.prog.cellsOf e = 1) {a:Option Addr} {n c:Nat} {d:DataW H} {p:List MemPlace}
 (h:DataW.Trod enc Tryz.prog W 0 (fun _ => true) true t (.slice a n c) d p):
 ∃ xs:List Int,n = xs.length∧xs.length≤c∧c≤maxLen∧Cells W a (xs.map (Value.int k))∧(∀ x∈xs,(Lit.int k x).wf = true)∧Came d c (lits k xs):=by
 obtain ⟨fuel,hf⟩:=h
 rcases open_ints ht he hc hf with ⟨hcs,hx⟩ | ⟨x,l,c',zs,hcs,_,hl,hm,hz,hx,hcell,hwz⟩
 · simp [Value.cells] at hcs
   obtain ⟨rfl,rfl,rfl⟩:=hcs
   simp only [Prod.mk.injEq] at hx
   obtain ⟨rfl,_⟩:=hx
   exact ⟨[],rfl,Nat.le_refl _,by simp [maxLen],Cells.nil _ _,by simp,⟨.inl ⟨rfl,rfl,rfl⟩⟩⟩
 · simp [Value.cells] at hcs
   obtain ⟨rfl,rfl,rfl⟩:=hcs
   simp only [Prod.mk.injEq] at hx
   obtain ⟨rfl,_⟩:=hx
   have hz':zs.length = c:=by simpa using hz
   refine ⟨zs.take n,by rw [List.length_take];omega,by rw [List.length_take];omega,hm,cells_of _ _ _ _ (by omega) (fun i hi => ?_),fun y hy => hwz y (List.mem_of_mem_take hy),⟨.inr ⟨_,_,rfl,?_,rfl⟩⟩⟩
   · rw [hcell i hi]
     simp [List.getD,List.getElem?_eq_getElem hi]
   · simp only [lits,List.length_map,List.length_take,List.length_drop]
     omega
/-- Numbers without a sign, as natural ones. -/
theorem came_nats {k:IntKind} (hk:k.signed = false) {xs:List Int} (hwf:∀ x∈xs,(Lit.int k x).wf = true):∃ ys:List Nat,xs.map (Value.int k) = ys.map (fun (y:Nat) => Value.int k (y:Int))∧ys.length = xs.length∧∀ y∈ys,(y:Int)≤k.max:=by
 refine ⟨xs.map Int.toNat,?_,by simp,?_⟩
 · rw [List.map_map]
   refine List.map_congr_left fun x hx => ?_
   have:=hwf x hx
   simp [Lit.wf,IntKind.min,hk] at this
   simp
   omega
 · intro y hy
   obtain ⟨x,hx,rfl⟩:=List.mem_map.1 hy
   have:=hwf x hx
   simp [Lit.wf,IntKind.min,hk] at this
   omega
end
end Go.Proofs.YtjnidopbdjbbgaaGreat
