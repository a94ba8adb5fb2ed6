import Derived.Test.YtjbbjnjcjjomgaaGreatDoorX1
import Derived.Test.YtjbbjnjcjjomgaaGreatDoorX3
import Derived.ProofKit
import Derived.Test.YtjbbjnjcjjomgaaGreatDoorF
import Derived.KernelRfl
set_option linter.unusedSimpArgs false
set_option linter.unusedVariables false
set_option linter.unusedSectionVars false
namespace Go.Sq
open Go.Rx
theorem f3B {X R:Type} {f:X→Option (X⊕R)} (μ:X→Nat) (Inv:X→Prop) (Q:R→Prop)
  (h:∀ x,Inv x→(∃ y,f x=some (.inl y)∧Inv y∧μ y<μ x)∨∃ r,f x=some (.inr r)∧Q r):∀ x,Inv x→∃ r,iter f x=some r∧Q r:=by
 have key:∀ n x,μ x≤n→Inv x→∃ m r,j3A f m x=some r∧Q r:=by
  intro n
  induction n with
  | zero =>
   intro x hn hx
   rcases h x hx with ⟨y,_,_,h3⟩ | ⟨r,h1,h2⟩
   ·omega
   ·exact ⟨1,r,by simp [j3A,h1],h2⟩
  | succ n ih =>
   intro x hn hx
   rcases h x hx with ⟨y,h1,h2,h3⟩ | ⟨r,h1,h2⟩
   ·obtain ⟨m,r,h4,h5⟩:=ih y (by omega) h2
    exact ⟨m+1,r,by simp [j3A,h1,h4],h5⟩
   ·exact ⟨1,r,by simp [j3A,h1],h2⟩
 intro x hx
 obtain ⟨m,r,h1,h2⟩:=key (μ x) x (Ay _) hx
 have mono:∀ m k x (r:R),j3A f m x=some r→j3A f (m+k) x=some r:=by
  intro m
  induction m with
  | zero=>intro k x r h; cases h
  | succ m ih =>
   intro k x r h
   rw [show m+1+k=(m+k)+1 from by omega]
   simp only [j3A] at h ⊢
   cases hf:f x with
   | none=>rw [hf] at h; cases h
   | some z =>
    rw [hf] at h
    cases z with
    | inl y=>exact ih k y r h
    | inr s=>exact h
 refine ⟨r,?_,h2⟩
 unfold iter
 have he:∃ n r,j3A f n x=some r:=⟨m,r,h1⟩
 rw [dif_pos he]
 congr 1
 have h3:=Ei (Ei he)
 have a:=mono m (Classical.choose he) x r h1
 have b:=mono (Classical.choose he) m x _ h3
 rw [Nat.add_comm] at b
 rw [a] at b
 exact (Bp b).symm
theorem k4F {n:Int} (h:0≤n) (h':n<256):IntKind.u8.wrap n=n:=by
 simp only [IntKind.wrap,IntKind.bits,IntKind.signed]; simp; omega
theorem c0B {n:Int} (h:0≤n) (h':n<18446744073709551616):IntKind.u64.wrap n=n:=by
 simp only [IntKind.wrap,IntKind.bits,IntKind.signed]; simp; omega
theorem b8A {n:Int} (h : -9223372036854775808≤n) (h':n<9223372036854775808):IntKind.i64.wrap n=n:=by
 simp only [IntKind.wrap,IntKind.bits,IntKind.signed]; simp; split <;> omega
theorem w0A {i:Int} {n:Nat}:a7A i n=true↔0≤i∧i<n:=by simp [a7A]
theorem f1E {a b:Int} {n:Nat}:f3A a b n=true↔0≤a∧a≤b∧b≤n:=by simp [f3A,and_assoc]
theorem n4A {b n:Nat}:c6A b n=true↔n*b≤140737488355328:=by simp [c6A]
theorem w1A {a b:Nat} (ha:a<2 ^ 64) (hb:b<2 ^ 64):i5A .or .u64 (a:Int) (b:Int)=((a|||b:Nat):Int):=by
 have hor:a|||b<2 ^ 64:=Dm ha hb
 have ea:(BitVec.ofInt 64 (a:Int)).toNat=a:=by simp; omega
 have eb:(BitVec.ofInt 64 (b:Int)).toNat=b:=by simp; omega
 show IntKind.u64.wrap (((BitVec.ofInt 64 (a:Int)|||BitVec.ofInt 64 (b:Int)).toNat:Nat):Int)=_
 rw [BitVec.toNat_or,ea,eb]
 exact c0B (by omega) (by omega)
theorem k1F {a b:Nat} (ha:a<2 ^ 8) (hb:b<2 ^ 8):i5A .and .u8 (a:Int) (b:Int)=((a&&&b:Nat):Int):=by
 have hor:a&&&b<2 ^ 8:=Nat.and_lt_two_pow a hb
 have ea:(BitVec.ofInt 8 (a:Int)).toNat=a:=by simp; omega
 have eb:(BitVec.ofInt 8 (b:Int)).toNat=b:=by simp; omega
 show IntKind.u8.wrap (((BitVec.ofInt 8 (a:Int)&&&BitVec.ofInt 8 (b:Int)).toNat:Nat):Int)=_
 rw [BitVec.toNat_and,ea,eb]
 exact k4F (by omega) (by omega)
theorem f2E {a b:Nat} (ha:a<2 ^ 64) (hb:b<2 ^ 64):i5A .and .u64 (a:Int) (b:Int)=((a&&&b:Nat):Int):=by
 have hor:a&&&b<2 ^ 64:=Nat.and_lt_two_pow a hb
 have ea:(BitVec.ofInt 64 (a:Int)).toNat=a:=by simp; omega
 have eb:(BitVec.ofInt 64 (b:Int)).toNat=b:=by simp; omega
 show IntKind.u64.wrap (((BitVec.ofInt 64 (a:Int)&&&BitVec.ofInt 64 (b:Int)).toNat:Nat):Int)=_
 rw [BitVec.toNat_and,ea,eb]
 exact c0B (by omega) (by omega)
theorem s0C {k:IntKind} {a n:Nat} (h:n≤k.bits):g4A k (a:Int) (n:Int)=((a >>> n:Nat):Int):=by
 simp only [g4A,Ao,Nat.min_eq_left h,Nat.shiftRight_eq_div_pow]
 rw [show ((2:Int) ^ n)=((2 ^ n:Nat):Int) from by simp,Int.fdiv_eq_ediv_of_nonneg _ (Int.natCast_nonneg _)]
 simp
theorem f3E {a n:Nat} (h:n≤64):l4A .u64 (a:Int) (n:Int)=(((a <<< n) % 2 ^ 64:Nat):Int):=by
 simp only [l4A,Ao,IntKind.bits,Nat.min_eq_left h,Nat.shiftLeft_eq,IntKind.wrap,IntKind.signed]
 simp
section
variable {α:Type} {a b:α}
theorem dT {p:Prop} [Decidable p] (h:p):(bif decide p then a else b)=a:=by simp [h]
theorem dF {p:Prop} [Decidable p] (h:¬ p):(bif decide p then a else b)=b:=by simp [h]
theorem wT {i:Int} {n:Nat} (h:0≤i) (h':i<n):(bif a7A i n then a else b)=a:=by rw [w0A.2 ⟨h,h'⟩]; rfl
theorem gT {i j:Int} {n:Nat} (h:0≤i) (h':i≤j) (h2:j≤n):(bif f3A i j n then a else b)=a:=by rw [f1E.2 ⟨h,h',h2⟩]; rfl
theorem rT {k n:Nat} (h:n*k≤140737488355328):(bif c6A k n then a else b)=a:=by rw [n4A.2 h]; rfl
theorem nT {x y:Int} (h:x≠y):(bif x != y then a else b)=a:=by rw [bne_iff_ne.2 h]; rfl
theorem nF {x y:Int} (h:x=y):(bif x != y then a else b)=b:=by rw [h,Fe]; rfl
theorem eT {x y:Int} (h:x=y):(bif x==y then a else b)=a:=by rw [Cw.2 h]; rfl
theorem eF {x y:Int} (h:x≠y):(bif x==y then a else b)=b:=by rw [Bg h]; rfl
end
end Go.Sq
namespace Go.Sq
open Go.Rx
def bytes (B:List Int):Prop:=∀ x∈B,0≤x∧x≤255
theorem k5F {L M:List Int} (h:L.length=M.length) (hg:∀ k,k<L.length→L.getD k 0=M.getD k 0):L=M:=by
 apply List.ext_getElem h
 intro k h1 h2
 have:=hg k h1
 simpa [Cd,h1,h2] using this
end Go.Sq
namespace Go.Sq
open Go.Rx
end Go.Sq
namespace Go.Sq
open Go.Rx
def small {α:Type} (B:List α):Prop:=B.length≤9223372036854775807
end Go.Sq
namespace Go.Sq
open Go.Rx
theorem m4A {X R:Type} {f:X→Option (X⊕R)} {x:X} {r:R} (h:f x=some (.inr r)):iter f x=some r:=by
 obtain ⟨s,h1,h2⟩:=f3B (f:=f) (fun _=>0) (fun y=>y=x) (fun s=>s=r) (fun y hy=>by subst hy; exact .inr ⟨r,h,rfl⟩) x rfl
 rw [h1,h2]
theorem l5A {X R:Type} {f:X→Option (X⊕R)} {x y:X} (h:f x=some (.inl y)):iter f x=iter f y:=by
 cases hy:iter f y with
 | some r =>
  obtain ⟨n,hn⟩:=q1B hy
  unfold iter
  have he:∃ n r,j3A f n x=some r:=⟨n+1,r,by simp [j3A,h,hn]⟩
  rw [dif_pos he]
  have hx:iter f x=some (Classical.choose (Ei he)):=by unfold iter; rw [dif_pos he]
  obtain ⟨m,hm⟩:=q1B hx
  cases m with
  | zero=>cases hm
  | succ m =>
   simp only [j3A,h] at hm
   have hy2:iter f y=some (Classical.choose (Ei he)):=by
    have he2:∃ n r,j3A f n y=some r:=⟨m,_,hm⟩
    have mono:∀ m k x (r:R),j3A f m x=some r→j3A f (m+k) x=some r:=by
     intro m
     induction m with
     | zero=>intro k x r h; cases h
     | succ m ih =>
      intro k x r h
      rw [show m+1+k=(m+k)+1 from by omega]
      simp only [j3A] at h ⊢
      cases hf:f x with
      | none=>rw [hf] at h; cases h
      | some z =>
       rw [hf] at h
       cases z with
       | inl y=>exact ih k y r h
       | inr s=>exact h
    have a:=mono m n y _ hm
    have b:=mono n m y _ hn
    rw [Nat.add_comm] at b
    rw [a] at b
    rw [hy]; exact b.symm
   rw [←hy2,hy]
 | none =>
  cases hx:iter f x with
  | none=>rfl
  | some r =>
   obtain ⟨n,hn⟩:=q1B hx
   cases n with
   | zero=>cases hn
   | succ n =>
    simp only [j3A,h] at hn
    unfold iter at hy
    rw [dif_pos ⟨n,r,hn⟩] at hy
    cases hy
end Go.Sq
namespace Go.Sq
open Go.Rx
end Go.Sq
namespace Go.Sq
open Go.Rx
end Go.Sq
namespace Go.Sq
open Go.Rx
end Go.Sq
namespace Go.Sq
open Go.Rx
theorem j3D {a b:Int}:d7C a b=some (decide (a<b)):=by
 simp only [d7C,b8B,Fe,Aa,Ai]
end Go.Sq
namespace Go.Sq
open Go.Rx
end Go.Sq
namespace Go.Sq
open Go.Rx
end Go.Sq
namespace Go.Sq
open Go.Rx
end Go.Sq
namespace Go.Sq
open Go.Rx
end Go.Sq
namespace Go.Sq
open Go.Rx
end Go.Sq
namespace Go.Sq
open Go.Rx
end Go.Sq
