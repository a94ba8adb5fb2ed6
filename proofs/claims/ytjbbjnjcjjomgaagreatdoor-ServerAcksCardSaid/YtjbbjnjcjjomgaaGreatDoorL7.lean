import Derived.Test.YtjbbjnjcjjomgaaGreatDoorL6
import Derived.Test.YtjbbjnjcjjomgaaGreatDoorF
import Derived.Laws.RangeString
import Derived.Laws.RangeAny
import Derived.Test.YtjbbjnjcjjomgaaGreatDoorL5
import Derived.KernelRfl
import Derived.Test.YtjbbjnjcjjomgaaGreatDoorX4
set_option linter.unusedSimpArgs false
set_option linter.unusedVariables false
set_option linter.unusedSectionVars false
namespace Go.Sq
open Go.Rx
end Go.Sq
namespace Go.Sq
open Go.Rx
end Go.Sq
namespace Go.Sq
open Go.Rx
abbrev Dc:=Int×Int×Int×Int
end Go.Sq
namespace Go.Sq
open Go.Rx
end Go.Sq
namespace Go.Sq
open Go.Rx
end Go.Sq
namespace Go.Sq
open Go.Rx
abbrev FlT:=Int×Int×Int×Int×Int×Int×Int×List (Int×Int)×List Int
theorem l1E (a b:Int):k5A a b=some (decide (0≤a)&&decide (a≤b)):=by
 unfold k5A
 by_cases h:a≥0
 ·rw [dT h,decide_eq_true (show 0≤a from h)]; rfl
 ·rw [dF h,decide_eq_false (show ¬ 0≤a from h)]; rfl
end Go.Sq
namespace Go.Sq
open Go.Rx
end Go.Sq
namespace Go.Sq
open Go.Rx
abbrev N12:=Int×Int×Int×Int×Int×Int×Int×Int×Int×Int×Int×Int×Unit
theorem r41:i7D=j5B:=rfl
theorem r52:i8D=f0B:=rfl
end Go.Sq
namespace Go.Sq
open Go.Rx
end Go.Sq
namespace Go.Sq
open Go.Rx
theorem m6D {A:Type} {b:Nat} {l v:List A} {i:Nat} (h1:i≤l.length) (h2:0<v.length) (h3:(l.length+v.length)*b≤140737488355328):s4A b l (i:Int) v=some (l.take i++(v++l.drop i)):=by
 unfold s4A
 rw [decide_eq_true (by omega),decide_eq_true (by omega),decide_eq_true h2,n4A.2 h3,Int.toNat_natCast]
 rfl
theorem l2E {A:Type} {b:Nat} {l:List A} {i j:Nat} (h1:i≤j) (h2:j≤l.length) (h3:l.length*b≤140737488355328):j4B b l (i:Int) (j:Int)=some (l.take i++l.drop j):=by
 unfold j4B
 rw [decide_eq_true (by omega),decide_eq_true (by omega),decide_eq_true (by omega),n4A.2 h3,Int.toNat_natCast,Int.toNat_natCast]
 rfl
theorem f8B {W:List (Int×Int)} (h:W.length≤1000000):u8B W=some W:=by
 unfold u8B
 rw [List.nil_append,n4A.2 (by omega),cond_true]
theorem f9B {M:List Int} (h:M.length≤1000000):s2A M=some M:=by
 unfold s2A
 rw [List.nil_append,n4A.2 (by omega),cond_true]
section
variable {s e h p u l n a1 a2 a3 a4:Int} {W:List (Int×Int)} {M:List Int}
end
end Go.Sq
namespace Go.Sq
open Go.Rx
variable {s e h p u l n a1 a2 a3 a4:Int} {W:List (Int×Int)} {M:List Int}
end Go.Sq
namespace Go.Sq
open Go.Rx
variable {s e h p u l n a1 a2 a3 a4:Int} {W:List (Int×Int)} {M:List Int}
end Go.Sq
namespace Go.Sq
open Go.Rx
variable {s e h p u l n a1 a2 a3 a4:Int} {W:List (Int×Int)} {M:List Int}
end Go.Sq
namespace Go.Sq
open Go.Rx
theorem m7D.step {all ds:List Dc} {hs:List Int} {f g:FlT} {i:Nat} (r:m7D all hs f i) (s:StepFl f g ds) (hW:g.2.2.2.2.2.2.2.1.length≤10) (hM:g.2.2.2.2.2.2.2.2.length≤10) :
  m7D (all++ds) (hs++if f.2.1<g.2.1 then [g.2.2.1] else []) g (i+1):=by
 obtain ⟨h1,h2⟩:=good_app all ds j0 r.good
 have e:=r.after
 rw [e] at h1 h2
 rw [s.good] at h1
 have hh:heads j0 (all++ds)=hs++if f.2.1<g.2.1 then [g.2.2.1] else []:=by rw [h2,r.hds,s.hds]
 have hep:=s.ep
 rw [s.hds] at hep
 refine ⟨by rw [h1,List.length_append],by rw [after_app,e,s.after],hh,?_,?_,?_,hW,hM⟩
 ·rw [List.length_append]
  have:=r.ep
  omega
 ·rw [List.length_append]; have:=r.len; have:=s.len; omega
 ·rw [←hh]; exact heads_le _ _
end Go.Sq
