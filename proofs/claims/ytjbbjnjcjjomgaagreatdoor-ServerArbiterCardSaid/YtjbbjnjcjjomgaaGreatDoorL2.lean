import Derived.Test.YtjbbjnjcjjomgaaGreatDoorL1
import Derived.KernelRfl
import Derived.Test.YtjbbjnjcjjomgaaGreatDoorX4
set_option linter.unusedSimpArgs false
set_option linter.unusedVariables false
set_option linter.unusedSectionVars false
namespace Go.Sq
open Go.Rx
end Go.Sq
namespace Go.Sq
open Go.Rx
end Go.Sq
namespace Go.Sq
open Go.Rx
end Go.Sq
namespace Go.Sq
open Go.Rx
end Go.Sq
namespace Go.Sq
open Go.Rx
theorem k6F {a b:List Int} (ha:small a) (hb:small b):i4F a b=some (decide (a=b)):=by
 unfold small at ha hb
 by_cases h:a.length=b.length
 ·have loop:∃ r,iter i7F (a,b,(a.length:Int),0,())=some r∧((r=(.inl ():Unit⊕(Bool×Unit))∧a=b)∨(r=.inr (false,())∧a≠b)):=by
   refine f3B (fun x=>((a.length:Int) - x.2.2.2.1).toNat) (fun x=>∃ i:Nat,x=(a,b,(a.length:Int),(i:Int),())∧i≤a.length∧∀ j,j<i→a.getD j 0=b.getD j 0)
    (fun r=>(r=(.inl ():Unit⊕(Bool×Unit))∧a=b)∨(r=.inr (false,())∧a≠b)) ?_ _ ⟨0,rfl,De _,fun j hj=>by omega⟩
   rintro x ⟨i,rfl,h1,h2⟩
   by_cases h3:i<a.length
   ·by_cases h4:a.getD i 0=b.getD i 0
    ·left
     refine ⟨(a,b,(a.length:Int),((i+1:Nat):Int),()),?_,⟨i+1,rfl,h3,fun j hj => ?_⟩,by simp only; omega⟩
     ·simp (disch:=omega) only [i7F,dT,wT,Ao,nF,b8A]
      rfl
     ·rcases Nat.lt_or_eq_of_le (Nat.lt_succ_iff.1 hj) with h | rfl
      ·exact h2 j h
      ·exact h4
    ·right
     refine ⟨_,?_,.inr ⟨rfl,fun e=>h4 (by rw [e])⟩⟩
     simp (disch:=omega) only [i7F,dT,wT,Ao,nT]
   ·right
    refine ⟨_,?_,.inl ⟨rfl,k5F h fun k hk=>h2 k (by omega)⟩⟩
    simp (disch:=omega) only [i7F,dF]
  obtain ⟨r,h1,h2⟩:=loop
  rcases h2 with ⟨rfl,h2⟩ | ⟨rfl,h2⟩
  ·rw [Ah h2]
   simp (disch:=omega) only [i4F,nF,h1,Aa]
  ·rw [Am h2]
   simp (disch:=omega) only [i4F,nF,h1,Aa]
 ·rw [Am (fun e=>h (by rw [e]))]
  simp (disch:=omega) only [i4F,nT]
end Go.Sq
namespace Go.Sq
open Go.Rx
end Go.Sq
namespace Go.Sq
open Go.Rx
end Go.Sq
namespace Go.Sq
open Go.Rx
end Go.Sq
namespace Go.Sq
open Go.Rx
end Go.Sq
namespace Go.Sq
open Go.Rx
end Go.Sq
namespace Go.Sq
open Go.Rx
def j4D:List Bool→Nat
 | []=>0
 | b::l=>b.toNat*2 ^ l.length+j4D l
end Go.Sq
namespace Go.Sq
open Go.Rx
def base (l:List Bool) (w:Nat):Int:=(j4D l:Int)*(4294967296*2 ^ w)+2147483648*(2 ^ w - 1)
end Go.Sq
namespace Go.Sq
open Go.Rx
end Go.Sq
namespace Go.Sq
open Go.Rx
end Go.Sq
