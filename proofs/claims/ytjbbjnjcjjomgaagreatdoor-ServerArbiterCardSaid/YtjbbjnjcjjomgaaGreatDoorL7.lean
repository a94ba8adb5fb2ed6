import Derived.Test.YtjbbjnjcjjomgaaGreatDoorL6
import Derived.Test.YtjbbjnjcjjomgaaGreatDoorF
import Derived.Laws.RangeString
import Derived.Laws.RangeAny
import Derived.Test.YtjbbjnjcjjomgaaGreatDoorL5
import Derived.KernelRfl
import Derived.Test.YtjbbjnjcjjomgaaGreatDoorX4
set_option linter.unusedSimpArgs false
set_option linter.unusedVariables false
set_option linter.unusedSectionVars false
namespace Go.Sq
open Go.Rx
end Go.Sq
namespace Go.Sq
open Go.Rx
end Go.Sq
namespace Go.Sq
open Go.Rx
abbrev Dc:=Int×Int×Int×Int
end Go.Sq
namespace Go.Sq
open Go.Rx
end Go.Sq
namespace Go.Sq
open Go.Rx
end Go.Sq
namespace Go.Sq
open Go.Rx
abbrev FlT:=Int×Int×Int×Int×Int×Int×Int×List (Int×Int)×List Int
theorem k6E (a b:Int):k4A a b=some (decide (0≤a)&&decide (a≤b)):=by
 unfold k4A
 by_cases h:a≥0
 ·rw [dT h,Ah (show 0≤a from h)]; rfl
 ·rw [dF h,Am (show ¬ 0≤a from h)]; rfl
end Go.Sq
namespace Go.Sq
open Go.Rx
end Go.Sq
namespace Go.Sq
open Go.Rx
abbrev N12:=Int×Int×Int×Int×Int×Int×Int×Int×Int×Int×Int×Int×Unit
theorem r41:i5D=j4B:=rfl
theorem r52:i6D=f0B:=rfl
end Go.Sq
namespace Go.Sq
open Go.Rx
end Go.Sq
namespace Go.Sq
open Go.Rx
theorem m0D {A:Type} {b:Nat} {l v:List A} {i:Nat} (h1:i≤l.length) (h2:0<v.length) (h3:(l.length+v.length)*b≤140737488355328):s4A b l (i:Int) v=some (l.take i++(v++l.drop i)):=by
 unfold s4A
 rw [Ah (by omega),Ah (by omega),Ah h2,n4A.2 h3,Ao]
 rfl
theorem k7E {A:Type} {b:Nat} {l:List A} {i j:Nat} (h1:i≤j) (h2:j≤l.length) (h3:l.length*b≤140737488355328):j3B b l (i:Int) (j:Int)=some (l.take i++l.drop j):=by
 unfold j3B
 rw [Ah (by omega),Ah (by omega),Ah (by omega),n4A.2 h3,Ao,Ao]
 rfl
theorem f8B {W:List (Int×Int)} (h:W.length≤1000000):u5B W=some W:=by
 unfold u5B
 rw [Cv,n4A.2 (by omega),Al]
theorem f9B {M:List Int} (h:M.length≤1000000):s2A M=some M:=by
 unfold s2A
 rw [Cv,n4A.2 (by omega),Al]
section
variable {s e h p u l n a1 a2 a3 a4:Int} {W:List (Int×Int)} {M:List Int}
end
end Go.Sq
namespace Go.Sq
open Go.Rx
variable {s e h p u l n a1 a2 a3 a4:Int} {W:List (Int×Int)} {M:List Int}
end Go.Sq
namespace Go.Sq
open Go.Rx
variable {s e h p u l n a1 a2 a3 a4:Int} {W:List (Int×Int)} {M:List Int}
end Go.Sq
namespace Go.Sq
open Go.Rx
variable {s e h p u l n a1 a2 a3 a4:Int} {W:List (Int×Int)} {M:List Int}
end Go.Sq
namespace Go.Sq
open Go.Rx
end Go.Sq
