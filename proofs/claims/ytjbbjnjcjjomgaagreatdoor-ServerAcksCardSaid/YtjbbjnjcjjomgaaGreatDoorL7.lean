import Derived.Test.YtjbbjnjcjjomgaaGreatDoorL6
import Derived.Test.YtjbbjnjcjjomgaaGreatDoorF
import Derived.Laws.RangeString
import Derived.Laws.RangeAny
import Derived.Test.YtjbbjnjcjjomgaaGreatDoorL5
import Derived.KernelRfl
import Derived.Test.YtjbbjnjcjjomgaaGreatDoorX4
set_option linter.unusedSimpArgs false
set_option linter.unusedVariables false
set_option linter.unusedSectionVars false
namespace Go.Sq
open Go.Rx
end Go.Sq
namespace Go.Sq
open Go.Rx
end Go.Sq
namespace Go.Sq
open Go.Rx
abbrev Dc:=Int×Int×Int×Int
abbrev Jd:=Int×Int×Bool
def l7A (j:Jd) (d:Dc):Bool×Jd:=
 bif (d.1==5)&&((d.2.1==d.2.1)&&((d.2.2.1==d.2.2.1)&&((d.2.2.2==0)&&true))) then
  bif decide (d.2.1≤0) then (false,j) else
  bif d.2.2.1==IntKind.i64.wrap (j.1+1) then (true,(d.2.2.1,(d.2.1,false))) else
  bif d.2.2.1==j.1 then (bif d.2.1==j.2.1 then (!j.2.2,j) else (false,j)) else (false,j)
 else bif (d.1==8)&&((d.2.1==j.2.1)&&((d.2.2.1==j.1)&&((d.2.2.2==0)&&true))) then
  (decide (j.2.1>0),(j.1,(j.2.1,bif j.2.2 then true else decide (j.2.1>0))))
 else bif (d.1==10)&&((d.2.1==0)&&((d.2.2.1==j.1)&&((d.2.2.2==0)&&true))) then
  (decide (j.2.1>0),(j.1,(0,false)))
 else bif (d.1==7)&&((d.2.1==d.2.1)&&((d.2.2.1==0)&&((d.2.2.2==d.2.2.2)&&true))) then
  (bif decide (j.2.1>0) then bif decide (d.2.1>0) then bif d.2.1 != j.2.1 then bif decide (d.2.2.2≥1) then decide (d.2.2.2≤4) else false else false else false else false,j)
 else bif (bif (d.1==6)&&((d.2.1==d.2.1)&&((d.2.2.1==0)&&((d.2.2.2==0)&&true))) then true else (d.1==15)&&((d.2.1==d.2.1)&&((d.2.2.1==j.1)&&((d.2.2.2==0)&&true)))) then
  (decide (d.2.1>0),j)
 else (false,j)
def g0B:Jd→List Dc→Nat
 | _,[]=>0
 | j,d::l=>bif (l7A j d).1 then g0B (l7A j d).2 l+1 else 0
def j0:Jd:=(0,0,false)
def p6A:Jd→List Dc→List Int
 | _,[]=>[]
 | j,d::l=>bif (l7A j d).1 then (bif decide ((l7A j d).2.1>j.1) then d.2.1::p6A (l7A j d).2 l else p6A (l7A j d).2 l) else []
def g1B:Jd→List Dc→Jd
 | j,[]=>j
 | j,d::l=>g1B (l7A j d).2 l
theorem n2D:∀ (l:List Dc) (j:Jd),(p6A j l).length≤l.length
 | [],_=>Nat.le_refl _
 | d::l,j=>by
  unfold p6A
  have:=n2D l (l7A j d).2
  cases (l7A j d).1 <;> cases decide ((l7A j d).2.1>j.1) <;> simp <;> omega
end Go.Sq
namespace Go.Sq
open Go.Rx
theorem n3D (j:Jd) (d:Dc) (l:List Dc):g0B j (d::l)=bif (l7A j d).1 then g0B (l7A j d).2 l+1 else 0:=rfl
theorem n4D (j:Jd) (d:Dc) (l:List Dc):p6A j (d::l)=bif (l7A j d).1 then (bif decide ((l7A j d).2.1>j.1) then d.2.1::p6A (l7A j d).2 l else p6A (l7A j d).2 l) else []:=rfl
theorem m2E (j:Jd) (d:Dc) (l:List Dc):g1B j (d::l)=g1B (l7A j d).2 l:=rfl
theorem n5D:∀ (l m:List Dc) (j:Jd),g0B j l=l.length→g0B j (l++m)=l.length+g0B (g1B j l) m∧p6A j (l++m)=p6A j l++p6A (g1B j l) m
 | [],m,j,_=>by simp [g1B,p6A]
 | d::l,m,j,h=>by
  rw [n3D] at h
  rw [List.cons_append,n3D,n4D,n4D,m2E]
  cases hf:(l7A j d).1 with
  | false=>rw [hf,cond_false] at h; simp at h
  | true =>
   rw [hf,cond_true,List.length_cons] at h
   obtain ⟨h1,h2⟩:=n5D l m (l7A j d).2 (by omega)
   rw [cond_true,cond_true,cond_true,h1,h2]
   refine ⟨by rw [List.length_cons]; omega,?_⟩
   cases decide ((l7A j d).2.1>j.1) <;> rfl
end Go.Sq
namespace Go.Sq
open Go.Rx
end Go.Sq
namespace Go.Sq
open Go.Rx
abbrev FlT:=Int×Int×Int×Int×Int×Int×Int×List (Int×Int)×List Int
theorem m3E (a b:Int):k4A a b=some (decide (0≤a)&&decide (a≤b)):=by
 unfold k4A
 by_cases h:a≥0
 ·rw [dT h,decide_eq_true (show 0≤a from h)]; rfl
 ·rw [dF h,decide_eq_false (show ¬ 0≤a from h)]; rfl
end Go.Sq
namespace Go.Sq
open Go.Rx
end Go.Sq
namespace Go.Sq
open Go.Rx
def jf (f:FlT):Jd:=(f.2.1,(f.2.2.1,f.1==2))
structure m4E (f g:FlT) (ds:List Dc):Prop where
 good:g0B (jf f) ds=ds.length
 after:g1B (jf f) ds=jf g
 hds:p6A (jf f) ds=if f.2.1<g.2.1 then [g.2.2.1] else []
 ep:((p6A (jf f) ds).length:Int)=g.2.1 - f.2.1
 len:ds.length≤3
abbrev N12:=Int×Int×Int×Int×Int×Int×Int×Int×Int×Int×Int×Int×Unit
theorem r41:j1D=j8B:=rfl
theorem r52:j2D=f2B:=rfl
end Go.Sq
namespace Go.Sq
open Go.Rx
end Go.Sq
namespace Go.Sq
open Go.Rx
theorem n6D {A:Type} {b:Nat} {l v:List A} {i:Nat} (h1:i≤l.length) (h2:0<v.length) (h3:(l.length+v.length)*b≤140737488355328):s5A b l (i:Int) v=some (l.take i++(v++l.drop i)):=by
 unfold s5A
 rw [decide_eq_true (by omega),decide_eq_true (by omega),decide_eq_true h2,n4A.2 h3,Int.toNat_natCast]
 rfl
theorem m5E {A:Type} {b:Nat} {l:List A} {i j:Nat} (h1:i≤j) (h2:j≤l.length) (h3:l.length*b≤140737488355328):j7B b l (i:Int) (j:Int)=some (l.take i++l.drop j):=by
 unfold j7B
 rw [decide_eq_true (by omega),decide_eq_true (by omega),decide_eq_true (by omega),n4A.2 h3,Int.toNat_natCast,Int.toNat_natCast]
 rfl
theorem g2B {W:List (Int×Int)} (h:W.length≤1000000):v2B W=some W:=by
 unfold v2B
 rw [List.nil_append,n4A.2 (by omega),cond_true]
theorem g3B {M:List Int} (h:M.length≤1000000):s3A M=some M:=by
 unfold s3A
 rw [List.nil_append,n4A.2 (by omega),cond_true]
section
variable {s e h p u l n a1 a2 a3 a4:Int} {W:List (Int×Int)} {M:List Int}
end
end Go.Sq
namespace Go.Sq
open Go.Rx
variable {s e h p u l n a1 a2 a3 a4:Int} {W:List (Int×Int)} {M:List Int}
end Go.Sq
namespace Go.Sq
open Go.Rx
variable {s e h p u l n a1 a2 a3 a4:Int} {W:List (Int×Int)} {M:List Int}
end Go.Sq
namespace Go.Sq
open Go.Rx
variable {s e h p u l n a1 a2 a3 a4:Int} {W:List (Int×Int)} {M:List Int}
end Go.Sq
namespace Go.Sq
open Go.Rx
structure u6C (all:List Dc) (hs:List Int) (f:FlT) (i:Nat):Prop where
 good:g0B j0 all=all.length
 after:g1B j0 all=jf f
 hds:p6A j0 all=hs
 ep:(hs.length:Int)=f.2.1
 len:all.length≤3*i
 lenh:hs.length≤all.length
 W:f.2.2.2.2.2.2.2.1.length≤10
 M:f.2.2.2.2.2.2.2.2.length≤10
theorem u6C.step {all ds:List Dc} {hs:List Int} {f g:FlT} {i:Nat} (r:u6C all hs f i) (s:m4E f g ds) (hW:g.2.2.2.2.2.2.2.1.length≤10) (hM:g.2.2.2.2.2.2.2.2.length≤10) :
  u6C (all++ds) (hs++if f.2.1<g.2.1 then [g.2.2.1] else []) g (i+1):=by
 obtain ⟨h1,h2⟩:=n5D all ds j0 r.good
 have e:=r.after
 rw [e] at h1 h2
 rw [s.good] at h1
 have hh:p6A j0 (all++ds)=hs++if f.2.1<g.2.1 then [g.2.2.1] else []:=by rw [h2,r.hds,s.hds]
 have hep:=s.ep
 rw [s.hds] at hep
 refine ⟨by rw [h1,List.length_append],by rw [after_app,e,s.after],hh,?_,?_,?_,hW,hM⟩
 ·rw [List.length_append]
  have:=r.ep
  omega
 ·rw [List.length_append]; have:=r.len; have:=s.len; omega
 ·rw [←hh]; exact n2D _ _
end Go.Sq
