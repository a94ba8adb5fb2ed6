import Derived.Test.YtjbbjnjcjjomgaaGreatDoorL2
import Derived.KernelRfl
set_option linter.unusedSimpArgs false
set_option linter.unusedVariables false
set_option linter.unusedSectionVars false
namespace Go.Sq
open Go.Rx
theorem j5D {X R:Type} {f:X→Option (X⊕R)} (st:Nat→X):∀ n,(∀ i,i<n→f (st i)=some (.inl (st (i+1))))→iter f (st 0)=iter f (st n)
 | 0,_=>rfl
 | n+1,h=>(j5D st n fun i hi=>h i (by omega)).trans (l5A (h n (by omega)))
theorem t6A {X R:Type} {f:X→Option (X⊕R)} (st:Nat→X) (n:Nat) {r:R} (h:∀ i,i<n→f (st i)=some (.inl (st (i+1)))) (h':f (st n)=some (.inr r)):iter f (st 0)=some r:=
 (j5D st n h).trans (m4A h')
theorem k7F {i:Nat} (h:i<9000000000000000000):IntKind.i64.wrap ((i:Int)+1)=((i+1:Nat):Int):=by
 rw [b8A (by omega) (by omega)]; rfl
section
variable {α:Type}
def f4E (g:Nat→α) (n:Nat):List α:=(List.range n).map g
end
def lv (l:List Int):Prop:=∀ i,i<6→0≤l.getD i 0∧l.getD i 0≤255
instance (l:List Int):Decidable (lv l):=by unfold lv; infer_instance
end Go.Sq
namespace Go.Sq
open Go.Rx
def mx (a b:Int):Int:=if a<b then b else a
def spF (l:List Int):Nat→Int
 | 0=>0
 | b+1=>mx (spF l b) (l.getD b 0) - 12
def spB (l:List Int):Nat→Int
 | 0=>0
 | k+1=>mx (spB l k) (l.getD (5 - k) 0) - 12
def mF (l:List Int) (b:Nat):Int:=mx 0 (spF l b - 8)
def mB (l:List Int) (b:Nat):Int:=mx (mF l b) (spB l (5 - b) - 8)
end Go.Sq
namespace Go.Sq
open Go.Rx
def al0 (l:List Int) (b:Nat):Int:=if l.getD b 0≤mB l b then 0 else if 7<(l.getD b 0 - mB l b+7) / 8 then 7 else (l.getD b 0 - mB l b+7) / 8
def first (l:List Int):List Int:=f4E (al0 l) 6
end Go.Sq
namespace Go.Sq
open Go.Rx
end Go.Sq
namespace Go.Sq
open Go.Rx
end Go.Sq
namespace Go.Sq
open Go.Rx
def pre (w:List Int):Nat→Int
 | 0=>0
 | i+1=>pre w i+w.getD i 0
end Go.Sq
