import Derived.Test.YtjbbjnjcjjomgaaGreatDoorL3
import Derived.Test.YtjbbjnjcjjomgaaGreatDoorL2
import Derived.ProofKit
set_option linter.unusedSimpArgs false
set_option linter.unusedVariables false
set_option linter.unusedSectionVars false
namespace Go.Sq
open Go.Rx
end Go.Sq
namespace Go.Sq
open Go.Rx
end Go.Sq
namespace Go.Sq
open Go.Rx
end Go.Sq
namespace Go.Sq
open Go.Rx
theorem s7F {a b:List Int} (ha:j1F a) (hb:j1F b):p5F a b=some (decide (a=b)):=by
 unfold j1F at ha hb
 by_cases hl:a.length=b.length
 ·have step:∀ i,i<a.length→a.getD i 0=b.getD i 0→p1F (a,b,(a.length:Int),(i:Int),())=some (.inl (a,b,(a.length:Int),((i+1:Nat):Int),())):=fun i hi he=>by
   simp (disch:=omega) only [p1F,dT,wT,Int.toNat_natCast,nF,b8A]
   rfl
  rcases r8F (fun i=>a.getD i 0=b.getD i 0) a.length with h | ⟨k,hk,h,hn⟩
  ·have a1:iter p1F (a,b,(a.length:Int),0,())=some (.inl ()):=t6A (fun i=>(a,b,(a.length:Int),(i:Int),())) a.length (fun i hi=>step i hi (h i hi)) (by simp (disch:=omega) only [p1F,dF])
   simp (disch:=omega) only [p5F,nF,a1,Option.bind_some]
   rw [decide_eq_true (s6F 0 hl h)]
  ·have a1:iter p1F (a,b,(a.length:Int),0,())=some (.inr (false,())):=t6A (fun i=>(a,b,(a.length:Int),(i:Int),())) k (fun i hi=>step i (by omega) (h i hi)) (by simp (disch:=omega) only [p1F,dT,wT,Int.toNat_natCast,nT])
   simp (disch:=omega) only [p5F,nF,a1,Option.bind_some]
   rw [decide_eq_false fun e=>hn (by rw [e])]
 ·simp (disch:=omega) only [p5F,nT]
  rw [decide_eq_false fun e=>hl (by rw [e])]
end Go.Sq
