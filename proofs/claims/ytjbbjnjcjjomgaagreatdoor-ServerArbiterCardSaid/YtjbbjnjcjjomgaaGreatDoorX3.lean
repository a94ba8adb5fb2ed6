import Derived.Test.YtjbbjnjcjjomgaaGreatDoorX2
import Derived.Orders
import Derived.LoopNIn
import Derived.RangeFuncLeaves
import Derived.RangeFuncRecord
import Derived.RangeFuncIn
import Derived.RangeFuncOwn
set_option linter.unusedSimpArgs false
set_option linter.unusedVariables false
set_option linter.unusedSectionVars false
namespace Go.Rx
variable [Inhabited GW]
theorem w8D:∀ (l:List AV) (d:Nat),g2A l d (b1A l d)=l
 | [],d=>by cases d <;> rfl
 | a::l,0=>rfl
 | a::l,d+1=>by simp only [g2A,b1A]; rw [w8D l d]
theorem p2C {S:St} {d:Nat} {v:AV} (h:b1A S.tmps d=v):S.put (some d) v=S:=by
 subst h
 simp only [St.put,w8D]
theorem f4D:∀ (l:List Oper) (i:Nat),s0B l i=l[i]?
 | [],i=>by cases i <;> rfl
 | o::l,0=>rfl
 | o::l,i+1=>by simp only [s0B,Co]; exact f4D l i
section
variable {T:Tab} {H:Handler}
theorem c8C (hN:∀ {R:Type} (f:FuncId) (args:List AV) (S:St) (K:AV→St→Option R),H.run f args S K=(H.run f args S fun v S'=>some (v,S')).bind fun p=>K p.1 p.2) {R:Type} (op:Op) (S:St) (K:AV→Objs→Nat→Option R) :
  opV T H op S K=(opV T H op S fun v o n=>some (v,o,n)).bind fun p=>K p.1 p.2.1 p.2.2:=by
 unfold opV
 split
 ·rename_i f args hc
  rw [hN f args,hN f args (K:=fun v S'=>some (v,S'.objs,S'.next))]
  rw [Option.bind_assoc]
  rfl
 ·split
  ·rfl
  ·rename_i b v _
   cases b <;> rfl
  ·split
   ·rfl
   ·rename_i b v objs _
    cases b <;> rfl
   ·rename_i b v objs v' objs' _
    cases b <;> rfl
   ·rename_i n es z objs _
    rw [z8B,z8B]; rfl
   ·rfl
def q2A (ops:List Oper) (S:St) (o:Oper):Option Bool:=
 match o.guard with
 | none=>some true
 | some (g,want)=>match r7B ops g with
  | none=>none
  | some d=>match b1A S.tmps d with
   | .bool b=>some (b==want)
   | .tup _=>some false
   | _=>none
variable (T H)
inductive Out (ops:List Oper) (o:Oper) (S:St):AV→Objs→Nat→Prop
 | skip:q2A ops S o=some false→Out ops o S (.tup []) S.objs S.next
 | pure {v:AV}:q2A ops S o=some true→e3A T o.op=false→(m9A T (r9B S o) o.op).gives v→Out ops o S v S.objs S.next
 | grow {v:AV}:q2A ops S o=some true→e3A T o.op=false→r8B T (r9B S o) o.op=some v→Out ops o S v S.objs S.next
 | chain {v:AV} {objs:Objs} {n:Nat}:q2A ops S o=some true→e3A T o.op=true→(opV T H o.op (g6A S o) fun v o n=>some (v,o,n))=some (v,objs,n)→Out ops o S v objs n
structure Tra (ops:List Oper) (an:List Nat) (log:List Ent) (prev:Nat) (pi:List Nat) (st:Nat→St) (val:Nat→AV) (op:Nat→Oper) (ent:Nat→Ent):Prop where
 opj:∀ p,p<pi.length→s0B ops (pi.getD p 0)=some (op p)
 entj:∀ p,p<pi.length→∃ pv,ent p=l7A T H an pv (pi.getD p 0) (op p) (st p)∧(∀ i,Nat.testBit prev i=true→Nat.testBit pv i=true)∧∀ p',p'<p→e3A T (op p').op=true→Nat.testBit pv (pi.getD p' 0)=true
 out:∀ p,p<pi.length→Out T H ops (op p) (st p) (val p) (st (p+1)).objs (st (p+1)).next
 next:∀ p,p<pi.length→(st (p+1)).tmps=((st p).put (op p).dst (val p)).tmps
 old:∀ p,p<pi.length→∀ e∈log,a1C e (ent p)=true
 new:∀ p,p<pi.length→∀ p',p'<p→a1C (ent p') (ent p)=true
 src:∀ p,p<pi.length→∀ t,t∈t1A (op p).op∨t∈s3B ops (op p)→∀ i,g9B t 0 ops=some i →
  (Nat.testBit (nthN an (pi.getD p 0)) i=true∧((∃ e∈log,e.j=i)∨∃ p',p'<p∧pi.getD p' 0=i)) ∨
  ((i=pi.getD p 0∨Nat.testBit (nthN an i) (pi.getD p 0)=true)∧(∀ e∈log,e.j≠i)∧∀ p',p'<p→pi.getD p' 0≠i)
variable {T H}
theorem w9D {f:Ent}:∀ {l:List Ent},k6C f l=true→∀ e∈l,a1C e f=true
 | e::l,h,e',he=>by
  simp only [k6C,Ac] at h
  rcases Bf.1 he with rfl | he
  ·exact h.1
  ·exact w9D h.2 e' he
theorem x0D {i:Nat}:∀ {l:List Ent},inLog i l=true→∃ e∈l,e.j=i
 | e::l,h=>by
  simp only [inLog,Db] at h
  rcases h with h | h
  ·exact ⟨e,Ax,Ag h⟩
  ·obtain ⟨e',h1,h2⟩:=x0D h
   exact ⟨e',Bb _ h1,h2⟩
theorem x1D {i:Nat}:∀ {l:List Ent},inLog i l=false→∀ e∈l,e.j≠i
 | e::l,h,e',he=>by
  simp only [inLog,Fi] at h
  rcases Bf.1 he with rfl | he
  ·exact fun hx=>by rw [hx,Cn] at h; cases h.1
  ·exact x1D h.2 e' he
theorem f5D {ops:List Oper} {an:List Nat} {j anc:Nat} {log:List Ent}:∀ {l:List Nat},a2C ops an j anc log l=true→∀ t∈l,∀ i,g9B t 0 ops=some i →
  (Nat.testBit anc i=true∧∃ e∈log,e.j=i)∨((i=j∨Nat.testBit (nthN an i) j=true)∧∀ e∈log,e.j≠i)
 | t::l,h,t',ht,i,hi=>by
  simp only [a2C,Ac] at h
  rcases Bf.1 ht with rfl | ht
  ·have h1:=h.1
   simp only [p6D,hi] at h1
   cases hl:inLog i log with
   | true=>rw [hl] at h1; exact .inl ⟨h1,x0D hl⟩
   | false =>
    rw [hl] at h1
    simp only [Ai,Db] at h1
    exact .inr ⟨h1.imp Ag (fun h=>h),x1D hl⟩
  ·exact f5D h.2 t' ht i hi
theorem Tra.cons {ops:List Oper} {an:List Nat} {log:List Ent} {prev j:Nat} {rest:List Nat} {S:St} {o:Oper} {v:AV} {objs:Objs} {n:Nat}
  (hj:s0B ops j=some o) (hok:b2D ops an o (l7A T H an prev j o S) log=true) (hout:Out T H ops o S v objs n)
  {st:Nat→St} {val:Nat→AV} {op:Nat→Oper} {ent:Nat→Ent}
  (h:Tra T H ops an (l7A T H an prev j o S::log) (bif e3A T o.op then prev|||2 ^ j else prev) rest st val op ent) (h0:st 0=S.step o.dst v objs n) :
  Tra T H ops an log prev (j::rest) (fun p=>match p with | 0=>S | p+1=>st p) (fun p=>match p with | 0=>v | p+1=>val p) (fun p=>match p with | 0=>o | p+1=>op p)
   (fun p=>match p with | 0=>l7A T H an prev j o S | p+1=>ent p):=by
 simp only [b2D,Ac] at hok
 obtain ⟨⟨hp,ht1⟩,ht2⟩:=hok
 refine ⟨fun p hp' => ?_,fun p hp' => ?_,fun p hp' => ?_,fun p hp' => ?_,fun p hp' e he => ?_,fun p hp' p' hl => ?_,fun p hp' t ht i hi => ?_⟩
 ·cases p with
  | zero=>exact hj
  | succ p=>simpa using h.opj p (by simpa using hp')
 ·cases p with
  | zero=>exact ⟨prev,by simp,fun _ h=>h,fun p' h=>absurd h (Ch _)⟩
  | succ p =>
   obtain ⟨pv,h1,h2,h3⟩:=h.entj p (by simpa using hp')
   refine ⟨pv,by simpa using h1,fun i hi=>h2 i ?_,fun p' hl hc => ?_⟩
   ·cases e3A T o.op with
    | true=>simp only [Al,Nat.testBit_or,hi,Bool.true_or]
    | false=>exact hi
   ·cases p' with
    | zero =>
     have hc:e3A T o.op=true:=hc
     have:=h2 j (by rw [hc]; simp [Nat.testBit_or,Nat.testBit_two_pow_self])
     simpa using this
    | succ p'=>simpa using h3 p' (by omega) hc
 ·cases p with
  | zero =>
   show Out T H ops o S v (st 0).objs (st 0).next
   rw [h0]
   have e1:(S.step o.dst v objs n).objs=objs:=by unfold St.step; cases o.dst <;> rfl
   have e2:(S.step o.dst v objs n).next=n:=by unfold St.step; cases o.dst <;> rfl
   rw [e1,e2]; exact hout
  | succ p=>exact h.out p (by simpa using hp')
 ·cases p with
  | zero =>
   show (st 0).tmps=_
   rw [h0]
   unfold St.step
   cases o.dst <;> rfl
  | succ p=>exact h.next p (by simpa using hp')
 ·cases p with
  | zero=>exact w9D hp e he
  | succ p=>exact h.old p (by simpa using hp') e (Bb _ he)
 ·cases p with
  | zero=>exact absurd hl (Ch _)
  | succ p =>
   cases p' with
   | zero=>exact h.old p (by simpa using hp') _ Ax
   | succ p'=>exact h.new p (by simpa using hp') p' (by omega)
 ·cases p with
  | zero =>
   have key:(Nat.testBit (l7A T H an prev j o S).anc i=true∧∃ e∈log,e.j=i)∨((i=(l7A T H an prev j o S).j∨Nat.testBit (nthN an i) (l7A T H an prev j o S).j=true)∧∀ e∈log,e.j≠i):=by
    rcases ht with ht | ht
    ·exact f5D ht1 t ht i hi
    ·exact f5D ht2 t ht i hi
   rcases key with key | key
   ·exact .inl ⟨by simpa [l7A] using key.1,.inl key.2⟩
   ·exact .inr ⟨by simpa [l7A] using key.1,key.2,fun p' h=>absurd h (Ch _)⟩
  | succ p =>
   rcases h.src p (by simpa using hp') t ht i hi with ⟨h1,h2⟩ | ⟨h1,h2,h3⟩
   ·refine .inl ⟨by simpa using h1,?_⟩
    rcases h2 with ⟨e,he,hei⟩ | ⟨p',hl,hpi⟩
    ·rcases Bf.1 he with rfl | he
     ·exact .inr ⟨0,Nat.succ_pos _,by simpa [l7A] using hei⟩
     ·exact .inl ⟨e,he,hei⟩
    ·exact .inr ⟨p'+1,by omega,by simpa using hpi⟩
   ·refine .inr ⟨by simpa using h1,fun e he=>h2 e (Bb _ he),fun p' hl => ?_⟩
    cases p' with
    | zero=>have:=h2 _ Ax; simpa [l7A] using this
    | succ p'=>simpa using h3 p' (by omega)
theorem c7F (hN:∀ {R:Type} (f:FuncId) (args:List AV) (S:St) (K:AV→St→Option R),H.run f args S K=(H.run f args S fun v S'=>some (v,S')).bind fun p=>K p.1 p.2)
  {ops:List Oper} {R:Type} {o:Oper} {S:St} {K:St→Option R} {r:R} (hw:q2A ops S o=some true) (h:y2A T H o S K=some r):∃ v objs n,Out T H ops o S v objs n∧K (S.step o.dst v objs n)=some r:=by
 unfold y2A at h
 cases hc:e3A T o.op with
 | true =>
  rw [hc] at h
  simp only [Al] at h
  rw [c8C hN,Option.bind_eq_some_iff] at h
  obtain ⟨⟨v,objs,n⟩,h1,h2⟩:=h
  exact ⟨v,objs,n,.chain hw hc h1,h2⟩
 | false =>
  rw [hc] at h
  simp only [Ai] at h
  split at h
  ·rename_i v hg
   exact ⟨v,_,_,.grow hw hc hg,h⟩
  split at h
  ·rename_i v hp
   exact ⟨v,_,_,.pure hw hc (by rw [hp]; rfl),h⟩
  ·rename_i b v hp
   rcases c2A h with ⟨hb,h⟩ | ⟨_,h⟩
   ·exact ⟨v,_,_,.pure hw hc (by rw [hp]; exact ⟨hb,rfl⟩),h⟩
   ·cases h
  ·cases h
theorem x2D (hN:∀ {R:Type} (f:FuncId) (args:List AV) (S:St) (K:AV→St→Option R),H.run f args S K=(H.run f args S fun v S'=>some (v,S')).bind fun p=>K p.1 p.2)
  {ops:Array Oper} {an:List Nat} {R:Type} {K:St→Option R} {r:R}:∀ (pi:List Nat) (log:List Ent) (prev:Nat) (S:St),o2A T H ops an pi log prev S K=some r →
   ∃ st val op ent,Tra T H ops.toList an log prev pi st val op ent∧st 0=S∧K (st pi.length)=some r
 | [], log, prev, S, h => ⟨fun _ => S, fun _ => .top, fun _ => ⟨none, .move (.const undef), 0, "", #[], none⟩, fun _ => ⟨0, false, false, none, 0, 0⟩,
   ⟨fun p hp=>absurd hp (Ch _),fun p hp=>absurd hp (Ch _),fun p hp=>absurd hp (Ch _),fun p hp=>absurd hp (Ch _),fun p hp=>absurd hp (Ch _),fun p hp=>absurd hp (Ch _),fun p hp=>absurd hp (Ch _)⟩,rfl,h⟩
 | j::rest,log,prev,S,h=>by
  simp only [o2A] at h
  split at h
  ·cases h
  ·rename_i o hj
   rcases c2A h with ⟨hok,h⟩ | ⟨_,h⟩
   rotate_left
   ·cases h
   have fin:∀ {v:AV} {objs:Objs} {n:Nat},Out T H ops.toList o S v objs n→o2A T H ops an rest (l7A T H an prev j o S::log) (bif e3A T o.op then prev|||2 ^ j else prev) (S.step o.dst v objs n) K=some r →
     ∃ st val op ent,Tra T H ops.toList an log prev (j::rest) st val op ent∧st 0=S∧K (st (j::rest).length)=some r:=by
    intro v objs n hout h
    obtain ⟨st,val,op,ent,h1,h2,h3⟩:=x2D hN rest _ _ _ h
    exact ⟨_,_,_,_,Tra.cons hj hok hout h1 h2,rfl,h3⟩
   have run:q2A ops.toList S o=some true→y2A T H o S (fun S'=>o2A T H ops an rest (l7A T H an prev j o S::log) (bif e3A T o.op then prev|||2 ^ j else prev) S' K)=some r →
     ∃ st val op ent,Tra T H ops.toList an log prev (j::rest) st val op ent∧st 0=S∧K (st (j::rest).length)=some r:=by
    intro hw h
    obtain ⟨v,objs,n,h1,h2⟩:=c7F hN hw h
    exact fin h1 h2
   cases hg:u6A ops S o with
   | no=>rw [hg] at h; cases h
   | run =>
    rw [hg] at h
    refine run ?_ h
    unfold u6A at hg
    unfold q2A
    split at hg
    ·rename_i e; rw [e]
    ·split at hg
     ·cases hg
     ·split at hg <;> cases hg
   | skip =>
    rw [hg] at h
    refine fin (.skip ?_) h
    unfold u6A at hg
    unfold q2A
    split at hg
    ·cases hg
    ·rename_i e
     rw [e]
     split at hg
     ·cases hg
     ·rename_i hd
      simp only [hd]
      split at hg
      ·cases hg
      ·rename_i hl; simp only [hl]
      ·cases hg
   | test d b want =>
    rw [hg] at h
    have hfacts:b1A S.tmps d=.bool b∧q2A ops.toList S o=some (b==want):=by
     unfold u6A at hg
     unfold q2A
     split at hg
     ·cases hg
     ·rename_i e
      rw [e]
      split at hg
      ·cases hg
      ·rename_i hd
       simp only [hd]
       split at hg
       ·rename_i hb
        cases hg
        exact ⟨hb,by simp only [hb]⟩
       ·cases hg
       ·cases hg
    obtain ⟨hd,hw⟩:=hfacts
    dsimp only at h
    cases want with
    | true =>
     rcases c2A h with ⟨hb,h'⟩ | ⟨hb,h'⟩
     ·subst hb
      rw [p2C hd] at h'
      exact run (by rw [hw]; rfl) h'
     ·subst hb
      rw [p2C hd] at h'
      exact fin (.skip (by rw [hw]; rfl)) h'
    | false =>
     rcases c2A h with ⟨hb,h'⟩ | ⟨hb,h'⟩
     ·subst hb
      rw [p2C hd] at h'
      exact fin (.skip (by rw [hw]; rfl)) h'
     ·subst hb
      rw [p2C hd] at h'
      exact run (by rw [hw]; rfl) h'
end
end Go.Rx
namespace Go.Rx
variable [Inhabited GW]
theorem o0B {i:Nat}:∀ {l:List Nat},memN i l=true↔i∈l
 | []=>by simp [memN]
 | j::l=>by
  simp only [memN,Db,o0B (l:=l),Bf]
  constructor
  ·rintro (h | h)
   ·exact .inl (Ag h).symm
   ·exact .inr h
  ·rintro (h | h)
   ·subst h; exact .inl (Cn _)
   ·exact .inr h
theorem x3D (ts:List Nat):∀ (i:Nat) (l:List AV),(t2A ts i l).length=l.length
 | _,[]=>rfl
 | i,a::l=>by simp only [t2A,Be,x3D ts (i+1) l]
theorem p3C (ts:List Nat):∀ (i:Nat) (l:List AV) (k:Nat),b1A (t2A ts i l) k=bif memN (i+k) ts then b1A l k else .top
 | i,[],k=>by cases h:memN (i+k) ts <;> cases k <;> rfl
 | i,a::l,0=>by simp [t2A,b1A]
 | i,a::l,k+1=>by
  simp only [t2A,b1A]
  rw [p3C ts (i+1) l k,show i+1+k=i+(k+1) by omega]
theorem x4D {o o':Objs}:∀ {ids:List Nat},(∀ id∈ids,a1A id o=a1A id o')→y1A o ids=y1A o' ids
 | [],_=>rfl
 | id::ids,h=>by
  simp only [y1A]
  rw [h id Ax,x4D fun id hi=>h id (Bb _ hi)]
theorem f6D {o:Objs} {j:Nat} {oc:OC}:∀ {ids:List Nat},a1A j (y1A o ids)=some oc→a1A j o=some oc
 | [],h=>by cases h
 | id::ids,h=>by
  simp only [y1A] at h
  split at h
  ·rename_i oc' h'
   simp only [a1A] at h
   cases hb:Nat.beq id j with
   | true =>
    rw [hb] at h
    have:=Ag hb
    subst this
    cases h
    exact h'
   | false=>rw [hb] at h; exact f6D h
  ·exact f6D h
theorem c8F {l m:List Nat} (h:k4C l m=true):∀ a∈l,a ∉ m:=by
 induction l with
 | nil=>intro a ha; cases ha
 | cons b l ih =>
  simp only [k4C,Ac,Ew] at h
  intro a ha
  rcases Bf.1 ha with rfl | ha
  ·intro hm; rw [o0B.2 hm] at h; exact absurd h.1 (by simp)
  ·exact ih h.2 a ha
theorem c9F {n:Nat} {l:List Nat} (h:k5C n l=true):∀ a∈l,a<n:=by
 induction l with
 | nil=>intro a ha; cases ha
 | cons b l ih =>
  simp only [k5C,Ac] at h
  intro a ha
  rcases Bf.1 ha with rfl | ha
  ·simpa [Nat.blt_eq] using h.1
  ·exact ih h.2 a ha
theorem p4C:∀ (l:List Nat) (i:Nat),nthN l i=l.getD i 0
 | [],i=>by cases i <;> rfl
 | a::l,0=>rfl
 | a::l,i+1=>by simp only [nthN,List.getD_cons_succ]; exact p4C l i
theorem x5D:∀ (l:List Oper) (acc:List Nat),∃ r,u7A l acc=acc++r
 | [],acc=>⟨[],by simp [u7A]⟩
 | o::l,acc=>by
  obtain ⟨r,h⟩:=x5D l (acc++[ancE acc o.after.toList])
  exact ⟨ancE acc o.after.toList::r,by simp only [u7A,h]; simp⟩
theorem d0F (l:List Oper):∀ (acc:List Nat) (i:Nat) (o:Oper),l[i]? = some o→nthN (u7A l acc) (acc.length+i)=ancE ((u7A l acc).take (acc.length+i)) o.after.toList:=by
 induction l with
 | nil=>intro acc i o h; simp at h
 | cons o' l ih =>
  intro acc i o h
  cases i with
  | zero =>
   simp at h; subst h
   obtain ⟨r,hr⟩:=x5D l (acc++[ancE acc o'.after.toList])
   simp only [u7A,hr,Dx]
   rw [p4C]
   simp
  | succ i =>
   have:=ih (acc++[ancE acc o'.after.toList]) i o (by simpa using h)
   simp only [u7A]
   simp only [Ak,Be,List.length_nil] at this
   rw [show acc.length+(i+1)=acc.length+(0+1)+i by omega]
   exact this
theorem f7D {acc:List Nat} {k:Nat}:∀ {l:List Edge},Nat.testBit (ancE acc l) k=true→∃ e∈l,Region.binds .any e=true∧(k=e.on∨Nat.testBit (nthN acc e.on) k=true)
 | [],h=>by simp [ancE] at h
 | e::l,h=>by
  simp only [ancE] at h
  cases hb:Region.binds .any e with
  | true =>
   rw [hb] at h
   simp only [Al,Nat.testBit_or,Db] at h
   rcases h with (h | h) | h
   ·exact ⟨e,Ax,hb,.inl (by have:=Nat.testBit_two_pow.symm.trans h; simpa using (Dl this).symm)⟩
   ·exact ⟨e,Ax,hb,.inr h⟩
   ·obtain ⟨e',h1,h2⟩:=f7D h
    exact ⟨e',Bb _ h1,h2⟩
  | false =>
   rw [hb] at h
   obtain ⟨e',h1,h2⟩:=f7D h
   exact ⟨e',Bb _ h1,h2⟩
theorem d1F {l:List Nat} {n i k:Nat} (h:Nat.testBit (nthN (l.take n) i) k=true):i<n∧Nat.testBit (nthN l i) k=true:=by
 rw [p4C,Cd,Bt] at h
 by_cases hi:i<n
 ·rw [Aj hi] at h
  exact ⟨hi,by rw [p4C,Cd]; exact h⟩
 ·rw [Ae hi] at h; simp at h
theorem f8D {ops:List Oper} {D:Nat→Prop} (hD:∀ i o,ops[i]? = some o→D i→∀ e∈o.after,Region.binds .any e=true→D e.on):∀ (i:Nat) (o:Oper),ops[i]? = some o →
  (∀ e∈o.after,Region.binds .any e=true→D e.on)→∀ k,Nat.testBit (nthN (u7A ops []) i) k=true→D k:=by
 intro i
 induction i using Nat.strongRecOn with
 | ind i ih =>
  intro o ho he k hk
  have h:=d0F ops [] i o ho
  simp only [List.length_nil,Dk] at h
  rw [h] at hk
  obtain ⟨e,h1,h2,h3⟩:=f7D hk
  have h1:e∈o.after:=by simpa using h1
  have hon:=he e h1 h2
  rcases h3 with rfl | h3
  ·exact hon
  ·obtain ⟨hlt,h3⟩:=d1F h3
   have hlen:e.on<ops.length:=Nat.lt_trans hlt (Cl.1 ho).1
   have ho':ops[e.on]? = some (ops[e.on]):=Aq hlen
   exact ih e.on hlt _ ho' (hD _ _ ho' hon) k h3
theorem d2F {d:Nat} (l:List Oper) (h:dstIn d l=false):∀ (i:Nat) (o:Oper),l[i]? = some o→o.dst≠some d:=by
 induction l with
 | nil=>intro i o ho; simp at ho
 | cons a l ih =>
  simp only [dstIn,Fi] at h
  intro i o ho
  cases i with
  | zero =>
   simp at ho; subst ho
   intro hd
   rw [hd] at h
   simp at h
  | succ i=>exact ih h.2 i o (by simpa using ho)
theorem x6D {d:Nat} (l:List Oper) (h:k2C l=true):∀ (i i':Nat) (o o':Oper),l[i]? = some o→l[i']? = some o'→o.dst=some d→o'.dst=some d→i=i':=by
 induction l with
 | nil=>intro i i' o o' ho; simp at ho
 | cons a l ih =>
  simp only [k2C,Ac] at h
  intro i i' o o' ho ho' hd hd'
  have key:∀ (i:Nat) (o:Oper),a.dst=some d→l[i]? = some o→o.dst=some d→False:=by
   intro i o ha ho hd
   rw [ha] at h
   simp only [Ew] at h
   exact d2F l h.1 i o ho hd
  cases i with
  | zero =>
   cases i' with
   | zero=>rfl
   | succ i' =>
    simp at ho; subst ho
    exact (key i' o' hd (by simpa using ho') hd').elim
  | succ i =>
   cases i' with
   | zero =>
    simp at ho'; subst ho'
    exact (key i o hd' (by simpa using ho) hd).elim
   | succ i'=>rw [ih h.2 i i' o o' (by simpa using ho) (by simpa using ho') hd hd']
theorem d3F {d:Nat} (l:List Oper):∀ {k i:Nat} {o:Oper},l[i]? = some o→o.dst=some d→∃ i',g9B d k l=some (k+i')∧∃ o':Oper,l[i']? = some o'∧o'.dst=some d:=by
 induction l with
 | nil=>intro k i o ho; simp at ho
 | cons a l ih =>
  intro k i o ho hd
  by_cases ha:a.dst=some d
  ·exact ⟨0,by simp [g9B,ha],a,rfl,ha⟩
  ·cases i with
   | zero=>simp at ho; subst ho; exact absurd hd ha
   | succ i =>
    obtain ⟨i',h1,h2⟩:=ih (k:=k+1) (i:=i) (by simpa using ho) hd
    refine ⟨i'+1,?_,by simpa using h2⟩
    simp only [g9B]
    split
    ·rename_i t ht
     have:Nat.beq t d=false:=by
      cases hb:Nat.beq t d with
      | false=>rfl
      | true=>exact absurd (by rw [ht,Ag hb]) ha
     rw [this,Ai,h1,show k+1+i'=k+(i'+1) by omega]
    ·rw [h1,show k+1+i'=k+(i'+1) by omega]
theorem x7D {pi:List Nat}:∀ {n:Nat},k3C pi n=true→∀ i,i<n→i∈pi
 | n+1,h,i,hi=>by
  simp only [k3C,Ac] at h
  rcases Nat.lt_succ_iff_lt_or_eq.1 hi with h' | rfl
  ·exact x7D h.2 i h'
  ·exact o0B.1 h.1
theorem d4F {k:Nat} (m:List Edge) (hm:l4B k m=true):∀ e∈m,Region.binds .any e=true→e.on<k:=by
 induction m with
 | nil=>intro e he; cases he
 | cons x m ih =>
  intro e he hb
  simp only [l4B,Ac,Db,Ew] at hm
  rcases Bf.1 he with rfl | he
  ·rcases hm.1 with h' | h'
   ·rw [h'] at hb; cases hb
   ·simpa [Nat.blt_eq] using h'
  ·exact ih hm.2 e he hb
theorem d5F (l:List Oper):∀ (k:Nat),k1C k l=true→∀ (i:Nat) (o:Oper),l[i]? = some o→∀ e∈o.after,Region.binds .any e=true→e.on<k+i:=by
 induction l with
 | nil=>intro k h i o ho; simp at ho
 | cons a l ih =>
  intro k h i o ho e he hb
  simp only [k1C,Ac] at h
  cases i with
  | zero =>
   simp at ho; subst ho
   exact d4F _ h.1 e (by simpa using he) hb
  | succ i =>
   have:=ih (k+1) h.2 i o (by simpa using ho) e he hb
   omega
section
variable {P:Program} {T:Tab} {H:Handler}
theorem f9D {S S':St} {ts:List Nat} (h:S'.tmps=t2A ts 0 S.tmps) {x:Operand} (hx:∀ t∈tmO x,t∈ts):ev S' x=ev S x:=by
 cases x with
 | tmp t =>
  show b1A S'.tmps t=b1A S.tmps t
  rw [h,p3C,o0B.2 (by simpa using hx t (by simp [tmO])),Al]
 | const v=>rfl
 | global g=>rfl
 | func f=>rfl
theorem d6F {S:St} {t:TypeId} {id off:Nat} {v w:AV} {objs:Objs} (h:(z4B T S t (.ptr id off) v).gives w objs) {j:Nat} (hj:j≠id):a1A j objs=a1A j S.objs:=by
 unfold z4B at h
 split at h
 ·exact h.elim
 ·simp only at h
  split at h
  ·rename_i cs new h1 h2
   cases hb:Nat.beq (o0A new) (by assumption:o8A).size with
   | false=>rw [hb] at h; exact h.elim
   | true =>
    rw [hb] at h
    simp only [Al] at h
    split at h
    ·rename_i cs' _
     obtain ⟨_,rfl⟩:=h
     rw [d4A,Ae hj]
    ·exact h.elim
  ·exact h.elim
theorem x8D {S S':St} {ts:List Nat} (h:S'.tmps=t2A ts 0 S.tmps):∀ {l:List Operand},(∀ t∈tmL l,t∈ts)→d5A (ev S') l=d5A (ev S) l
 | [],_=>rfl
 | x::l,hl=>by
  have h1:ev S' x=ev S x:=f9D h fun t ht=>hl t (by cases x <;> simp only [tmO,tmL,Bf,List.not_mem_nil,or_false] at ht ⊢ <;> first | exact .inl ht | exact ht.elim)
  have h2:d5A (ev S') l=d5A (ev S) l:=x8D h fun t ht=>hl t (by cases x <;> simp only [tmL,Bf] <;> first | exact .inr ht | exact ht)
  simp only [d5A,h1,h2]
theorem x9D {S S':St} {ts:List Nat} (h:S'.tmps=t2A ts 0 S.tmps):∀ {l:List (Nat×Operand)},(∀ t∈tmP l,t∈ts)→f1A S' l=f1A S l
 | [],_=>rfl
 | x::l,hl=>by
  obtain ⟨i,x⟩:=x
  have h1:ev S' x=ev S x:=f9D h fun t ht=>hl t (by cases x <;> simp only [tmO,tmP,Bf,List.not_mem_nil,or_false] at ht ⊢ <;> first | exact .inl ht | exact ht.elim)
  have h2:f1A S' l=f1A S l:=x9D h fun t ht=>hl t (by cases x <;> simp only [tmP,Bf] <;> first | exact .inr ht | exact ht)
  simp only [f1A,h1,h2]
theorem d7F (hL:∀ (f:FuncId) (args:List AV) (S:St) (v:AV) (S':St) (l:List Nat),H.calm f S.objs (e4A.idsVs args)=some l→(H.run f args S fun v S'=>some (v,S'))=some (v,S')→∀ j,j ∉ l→j<S.next→a1A j S'.objs=a1A j S.objs)
  (hN:∀ {R:Type} (f:FuncId) (args:List AV) (S:St) (K:AV→St→Option R),H.run f args S K=(H.run f args S fun v S'=>some (v,S')).bind fun p=>K p.1 p.2)
  {S:St} {o:Oper} {v:AV} {objs:Objs} {n:Nat} (h:(opV T H o.op (g6A S o) fun v o n=>some (v,o,n))=some (v,objs,n)) {ids:List Nat×Nat} (ht:d4B H S o.op=some ids) {j:Nat} (hj:j ∉ ids.1) (hlt:j<ids.2) :
  a1A j objs=a1A j S.objs:=by
 have hm:∀ {x:Operand},(∀ t∈tmO x,t∈t1A o.op)→ev (g6A S o) x=ev S x:=fun hx=>f9D rfl hx
 have hgive:∀ {r:HR},(match r with
   | .done v objs=>some (v,objs,(g6A S o).next+1)
   | .guard b v objs=>bif b then some (v,objs,(g6A S o).next+1) else none
   | .fork b v objs v' objs'=>bif b then some (v,objs,(g6A S o).next+1) else some (v',objs',(g6A S o).next+1)
   | .pick n es z objs=>z7B n z (fun v=>some (v,objs,(g6A S o).next+1)) es
   | .no=>(none:Option (AV×Objs×Nat)))=some (v,objs,n)→r.gives v objs:=by
  intro r h
  split at h
  ·cases h; exact ⟨rfl,rfl⟩
  ·rcases c2A h with ⟨hb,h⟩ | ⟨_,h⟩
   ·cases h; exact ⟨hb,rfl,rfl⟩
   ·cases h
  ·rcases c2A h with ⟨hb,h⟩ | ⟨hb,h⟩
   ·cases h; exact .inl ⟨hb,rfl,rfl⟩
   ·cases h; exact .inr ⟨hb,rfl,rfl⟩
  ·rw [z8B] at h; cases h; exact ⟨rfl,rfl⟩
  ·cases h
 unfold d4B at ht
 split at ht
 ·rename_i t ho
  cases ht
  rw [ho] at h
  simp only [opV,y0A,m9A] at h
  have h:=hgive h
  simp only [q0A] at h
  split at h
  ·obtain ⟨_,rfl⟩:=h; rw [d4A,Ae (show ¬ j=(g6A S o).next from El hlt)]; rfl
  ·exact h.elim
 ·rename_i t x ho
  cases ht
  rw [ho] at h
  simp only [opV,y0A,m9A] at h
  have h:=hgive h
  simp only [q0A] at h
  split at h
  ·obtain ⟨_,rfl⟩:=h; rfl
  split at h
  ·obtain ⟨_,rfl⟩:=h; rw [d4A,Ae (show ¬ j=(g6A S o).next from El hlt)]; rfl
  ·exact h.elim
 ·rename_i t a b ho
  cases ht
  rw [ho] at h
  simp only [opV,y0A,m9A] at h
  have h:=hgive h
  simp only [q0A,j3C] at h
  split at h
  ·split at h
   ·obtain ⟨_,_,rfl⟩:=h; rw [d4A,Ae (show ¬ j=(g6A S o).next from El hlt)]; rfl
   ·exact h.elim
  ·exact h.elim
 ·rename_i t len ps ho
  cases ht
  have hp:f1A (g6A S o) ps.toList=f1A S ps.toList:=x9D rfl (by rw [ho]; exact fun t ht=>ht)
  rw [ho] at h
  simp only [opV,y0A,m9A] at h
  have h:=hgive h
  simp only [q0A,g7B] at h
  split at h
  ·rename_i ty by' _
   cases hop:(opT T t&&Nat.beq len 1) with
   | true =>
    rw [hop] at h
    have h:(m5B (g6A S o) (g6A S o).next ty (f1A (g6A S o) ps.toList)).gives v objs:=h
    unfold m5B at h
    split at h
    ·split at h
     ·rename_i cs _
      cases hc:(Nat.beq (o0A cs) (a0A ty)&&Nat.blt 0 (a0A ty)&&Nat.ble (a0A ty) 16777216) with
      | false=>rw [hc] at h; exact h.elim
      | true =>
       rw [hc] at h
       obtain ⟨_,rfl⟩:=h
       rw [d4A,Ae (show ¬ j=(g6A S o).next from El hlt)]; rfl
     ·exact h.elim
    ·exact h.elim
   | false =>
   rw [hop] at h
   cases hb:(m4B 0 (f1A (g6A S o) ps.toList)&&Nat.beq (m0B (f1A (g6A S o) ps.toList)) len&&Nat.ble (len*a0A ty) 16777216&&Nat.blt 0 (a0A ty)) with
   | false=>rw [hb] at h; exact h.elim
   | true =>
    rw [hb] at h
    simp only [Al] at h
    split at h
    ·rename_i xs objs1 h1
     obtain ⟨_,rfl⟩:=h
     rw [d4A,Ae (show ¬ j=(g6A S o).next from El hlt)]
     refine v8D h1 ?_
     rw [hp,←v9D]
     exact hj
    ·exact h.elim
  ·exact h.elim
 ·rename_i t a x ho
  split at ht
  ·rename_i id off hev
   cases ht
   have hv:ev (g6A S o) a=.ptr id off:=by
    rw [hm (x:=a) ?_]; exact hev
    rw [ho]; intro t ht; cases a with
    | tmp u=>simp only [tmO,Bo] at ht; subst ht; simp [t1A,tmL]
    | const _=>cases ht
    | global _=>cases ht
    | func _=>cases ht
   rw [ho] at h
   simp only [opV,y0A,m9A] at h
   have h:=hgive h
   simp only [q0A,hv] at h
   exact d6F (S:=g6A S o) h (fun e=>hj (by rw [e]; exact Ax))
  ·cases ht
 ·rename_i f args tys ho
  split at ht
  ·rename_i g first caps hev
   split at ht
   ·rename_i lst hl
    cases ht
    have hall:∀ t∈tmL (f::args.toList),t∈t1A o.op:=by rw [ho]; exact fun t ht=>ht
    have hv:ev (g6A S o) f=.func g first caps:=by
     rw [hm (x:=f) ?_]; exact hev
     intro t ht; refine hall t ?_; cases f with
     | tmp u=>simp only [tmO,Bo] at ht; subst ht; simp [tmL]
     | const _=>cases ht
     | global _=>cases ht
     | func _=>cases ht
    have ha:d5A (ev (g6A S o)) args.toList=d5A (ev S) args.toList:=x8D rfl fun t ht=>hall t (by cases f <;> simp only [tmL,Bf] <;> first | exact .inr ht | exact ht)
    rw [ho] at h
    simp only [opV,y0A,hv,ha] at h
    rw [hN,Option.bind_eq_some_iff] at h
    obtain ⟨⟨v',S'⟩,h1,h2⟩:=h
    cases h2
    exact hL _ _ ⟨[],S.objs,S.next⟩ _ _ _ hl h1 j hj hlt
   ·cases ht
  ·cases ht
 ·rename_i args tys ho
  split at ht
  ·rename_i s x he
   have hs:ev (g6A S o) s=ev S s:=hm (by
    rw [ho]; intro t ht; show t∈tmL args.toList; rw [he]; cases s with
    | tmp u=>simp only [tmO,Bo] at ht; subst ht; simp [tmL]
    | const _=>cases ht
    | global _=>cases ht
    | func _=>cases ht)
   rw [ho] at h
   simp only [opV,y0A,m9A] at h
   have h:=hgive h
   simp only [q0A,he] at h
   split at h
   ·rename_i s' x' t u e1 e2
    cases e1
    cases hb:Nat.beq t u with
    | false=>rw [hb] at h; exact h.elim
    | true =>
     rw [hb] at h
     simp only [Al,j2C,hs] at h
     split at h
     ·split at h
      ·split at h
       ·rename_i hn
        rw [hn] at ht; cases ht
        obtain ⟨_,_,rfl⟩:=h
        rw [d4A,Ae (show ¬ j=(g6A S o).next from El hlt)]; rfl
       ·rename_i id rg hn
        rw [hn] at ht; cases ht
        split at h
        ·obtain ⟨_,_,rfl⟩:=h
         rw [d4A,Ae (show ¬ j=(g6A S o).next from El hlt),i3A,Ae (fun e=>hj (by rw [e]; exact Ax))]; rfl
        ·exact h.elim
       ·exact h.elim
      ·exact h.elim
     ·exact h.elim
   ·exact h.elim
  ·cases ht
 ·cases ht
end
end Go.Rx
namespace Go.Rx
variable [Inhabited GW]
theorem y0D:∀ {l:List AV} {k:Nat},l.length≤k→b1A l k=.top
 | [],k,_=>by cases k <;> rfl
 | _::l,0,h=>by simp at h
 | _::l,k+1,h=>y0D (l:=l) (by simpa using h)
structure Cx (P:Program) (T:Tab) (H:Handler) (ops:Array Oper) (pi:List Nat) (st:Nat→St) (val:Nat→AV) (op:Nat→Oper) (ent:Nat→Ent):Prop where
 tab:TabOK P T
 hok:HOK P H
 reg:s1B ops.toList pi=true
 tra:Tra T H ops.toList (u7A ops.toList []) [] 0 pi st val op ent
section
variable {P:Program} {T:Tab} {H:Handler} {ops:Array Oper} {pi:List Nat} {st:Nat→St} {val:Nat→AV} {op:Nat→Oper} {ent:Nat→Ent} (C:Cx P T H ops pi st val op ent)
include C
theorem Cx.at {p:Nat} (hp:p<pi.length):ops[pi.getD p 0]? = some (op p):=by
 have:=C.tra.opj p hp
 rw [f4D] at this
 simpa using this
theorem Cx.atL {p:Nat} (hp:p<pi.length):ops.toList[pi.getD p 0]? = some (op p):=by
 have:=C.tra.opj p hp
 rwa [f4D] at this
theorem Cx.ej {p:Nat} (hp:p<pi.length):(ent p).j=pi.getD p 0∧(ent p).chain=e3A T (op p).op∧(ent p).alloc=r8A T (st p) (op p)∧(ent p).anc=nthN (u7A ops.toList []) (pi.getD p 0) ∧
  (ent p).fp=(bif e3A T (op p).op then d4B H (st p) (op p).op else some (g8B (st p) (op p).op,0)):=by
 obtain ⟨pv,h,_⟩:=C.tra.entj p hp
 rw [h]
 exact ⟨rfl,rfl,rfl,rfl,rfl⟩
theorem Cx.pair {p' p:Nat} (hl:p'<p) (hp:p<pi.length):pi.getD p' 0≠pi.getD p 0 ∧
    (Nat.testBit (ent p).anc (pi.getD p' 0)=true∨(match e3A T (op p').op,e3A T (op p).op with
     | true,true=>r8A T (st p) (op p)=true
     | false,false=>True
     | false,true=>s2B (some (g8B (st p') (op p').op,0)) (d4B H (st p) (op p).op)=true
     | true,false=>s2B (some (g8B (st p) (op p).op,0)) (d4B H (st p') (op p').op)=true)) ∧
    (r8A T (st p') (op p')=true→Nat.testBit (ent p).anc (pi.getD p' 0)=true→∀ p'',p''<p'→e3A T (op p'').op=true→Nat.testBit (ent p).anc (pi.getD p'' 0)=true):=by
  have hp':=Nat.lt_trans hl hp
  obtain ⟨a1,a2,a3,a4,a5⟩:=C.ej hp'
  obtain ⟨b1,b2,b3,b4,b5⟩:=C.ej hp
  have h:=C.tra.new p hp p' hl
  simp only [a1C,Ac,Db,Ew,a1,a2,a3,b1,b2,b3] at h
  obtain ⟨⟨h1,h2⟩,h3⟩:=h
  refine ⟨fun e => ?_,h2.imp id fun h => ?_,fun ha hb p'' hl' hc => ?_⟩
  · rw [e,Cn] at h1; cases h1
  · rw [a5,b5] at h
    cases hc:e3A T (op p').op <;> cases hc':e3A T (op p).op <;> rw [hc,hc'] at h
    · trivial
    · exact h
    · exact h
    · exact h
  · rcases h3 with h3 | h3
    · rw [ha,hb] at h3; cases h3
    · have h3:=Ag h3
      obtain ⟨pv,e1,_,e3⟩:=C.tra.entj p' hp'
      have hpv:(ent p').prev=pv:=by rw [e1]; rfl
      have hb':Nat.testBit (ent p').prev (pi.getD p'' 0)=true:=by rw [hpv]; exact e3 p'' hl' hc
      rw [←h3,Nat.testBit_and,Ac] at hb'
      exact hb'.2
theorem Cx.inj {p p':Nat} (hp:p<pi.length) (hp':p'<pi.length) (h:pi.getD p 0=pi.getD p' 0):p=p':=by
 rcases Nat.lt_trichotomy p p' with hl | rfl | hl
 ·exact absurd h (C.pair hl hp').1
 ·rfl
 ·exact absurd h.symm (C.pair hl hp).1
theorem Cx.pos {i:Nat} (hi:i<ops.size):∃ p,p<pi.length∧pi.getD p 0=i:=by
 have h:=C.reg
 simp only [s1B,Ac] at h
 have:=x7D h.2 i (by simpa using hi)
 obtain ⟨p,hp,e⟩:=List.getElem_of_mem this
 exact ⟨p,hp,by simp [Cd,hp,e]⟩
theorem Cx.dst {p p' d:Nat} (hp:p<pi.length) (hp':p'<pi.length) (h:(op p).dst=some d) (h':(op p').dst=some d):p=p':=by
 have hr:=C.reg
 simp only [s1B,Ac] at hr
 exact C.inj hp hp' (x6D _ hr.1.1 _ _ _ _ (C.atL hp) (C.atL hp') h h')
theorem Cx.src {p t p':Nat} (hp:p<pi.length) (ht:t∈t1A (op p).op∨t∈s3B ops.toList (op p)) (hp':p'<pi.length) (hd:(op p').dst=some t) :
  (p'<p∧Nat.testBit (ent p).anc (pi.getD p' 0)=true)∨(p≤p'∧(p'=p∨Nat.testBit (ent p').anc (pi.getD p 0)=true)):=by
 obtain ⟨i',h1,o',h2,h3⟩:=d3F (k:=0) _ (C.atL hp') hd
 have hr:=C.reg
 simp only [s1B,Ac] at hr
 have e:i'=pi.getD p' 0:=x6D _ hr.1.1 _ _ _ _ h2 (C.atL hp') h3 hd
 rw [Dk,e] at h1
 rcases C.tra.src p hp t ht _ h1 with ⟨h4,h5⟩ | ⟨h4,_,h5⟩
 ·rw [(C.ej hp).2.2.2.1]
  rcases h5 with ⟨_,hx,_⟩ | ⟨p'',hl,hpe⟩
  ·cases hx
  ·have:=C.inj (Nat.lt_trans hl hp) hp' hpe
   subst this
   exact .inl ⟨hl,h4⟩
 ·refine .inr ⟨?_,?_⟩
  ·rcases Dh p' p with h | h
   ·exact absurd rfl (h5 p' h)
   ·exact h
  ·rcases h4 with h4 | h4
   ·exact .inl (C.inj hp' hp h4)
   ·rw [(C.ej hp').2.2.2.1]; exact .inr h4
theorem Cx.len {p:Nat} (hp:p≤pi.length):(st p).tmps.length=(st 0).tmps.length:=by
 induction p with
 | zero=>rfl
 | succ p ih =>
  rw [C.tra.next p hp,←ih (Nat.le_of_succ_le hp)]
  unfold St.put
  split
  ·exact w1D _ _ _
  ·rfl
theorem Cx.stay {t p:Nat} (hp:p≤pi.length):∀ {q:Nat},p≤q→q≤pi.length→(∀ p',p≤p'→p'<q→(op p').dst≠some t)→b1A (st q).tmps t=b1A (st p).tmps t:=by
 intro q
 induction q with
 | zero=>intro h _ _; rw [Nat.le_zero.1 h]
 | succ q ih =>
  intro h hq hn
  rcases Nat.le_succ_iff.1 h with h' | rfl
  ·rw [←ih h' (Nat.le_of_succ_le hq) fun p' h1 h2=>hn p' h1 (Eh h2),C.tra.next q hq]
   have:=hn q h' (Cg _)
   unfold St.put
   split
   ·rename_i d hd
    show b1A (g2A _ _ _) t=_
    rw [f0D,Ae (fun hx=>this (by rw [hd,hx.1]))]
   ·rfl
  ·rfl
theorem Cx.own {p d:Nat} (hp:p<pi.length) (hd:(op p).dst=some d) (hlt:d<(st 0).tmps.length):b1A (st pi.length).tmps d=val p:=by
 rw [C.stay (p:=p+1) hp hp (Ay _) fun p' h1 h2 hd'=>by have:=C.dst hp h2 hd hd'; omega]
 rw [C.tra.next p hp,hd]
 show b1A (g2A _ _ _) d=_
 rw [f0D,Aj ⟨rfl,by rw [C.len (Nat.le_of_lt hp)]; exact hlt⟩]
theorem Cx.plain {p:Nat} (hp:p<pi.length) (hc:e3A T (op p).op=false):(st (p+1)).objs=(st p).objs∧(st (p+1)).next=(st p).next:=by
 have h:=C.tra.out p hp
 generalize val p=v at h
 generalize (st (p+1)).objs=o at h
 generalize (st (p+1)).next=n at h
 cases h with
 | skip _=>exact ⟨rfl,rfl⟩
 | pure _ _ _=>exact ⟨rfl,rfl⟩
 | grow _ _ _=>exact ⟨rfl,rfl⟩
 | chain _ h' _=>rw [hc] at h'; cases h'
theorem Cx.touch {p:Nat} (hp:p<pi.length) {ids:List Nat×Nat} (ht:d4B H (st p) (op p).op=some ids) {j:Nat} (hj:j ∉ ids.1) (hlt:j<ids.2):a1A j (st (p+1)).objs=a1A j (st p).objs:=by
 have h:=C.tra.out p hp
 generalize val p=v at h
 generalize (st (p+1)).objs=o at h ⊢
 generalize (st (p+1)).next=n at h
 cases h with
 | skip _=>rfl
 | pure _ _ _=>rfl
 | grow _ _ _=>rfl
 | chain _ _ h'=>exact d7F C.hok.calm C.hok.nat h' ht hj hlt
theorem Cx.same {ids:List Nat} {p:Nat} (hp:p≤pi.length):∀ {q:Nat},p≤q→q≤pi.length→(∀ p',p≤p'→p'<q→e3A T (op p').op=true→s2B (some (ids,0)) (d4B H (st p') (op p').op)=true) →
  ∀ id∈ids,a1A id (st q).objs=a1A id (st p).objs:=by
 intro q
 induction q with
 | zero=>intro h _ _ id _; rw [Nat.le_zero.1 h]
 | succ q ih =>
  intro h hq hn id hid
  rcases Nat.le_succ_iff.1 h with h' | rfl
  ·rw [←ih h' (Nat.le_of_succ_le hq) (fun p' h1 h2=>hn p' h1 (Eh h2)) id hid]
   cases hc:e3A T (op q).op with
   | false=>rw [(C.plain hq hc).1]
   | true =>
    have ha:=hn q h' (Cg _) hc
    cases ht:d4B H (st q) (op q).op with
    | none =>
     rw [ht] at ha
     cases ids with
     | nil=>cases hid
     | cons=>cases ha
    | some m =>
     rw [ht] at ha
     simp only [s2B,Ac] at ha
     exact C.touch hq ht (c8F ha.1 id hid) (c9F ha.2 id hid)
  ·rfl
end
end Go.Rx
namespace Go.Rx
variable [Inhabited GW]
theorem d8F {E:Env} {keep:Nat→Prop} {objs objs':Objs} (h:a4A E keep objs) (hs:∀ j oc,a1A j objs'=some oc→a1A j objs=some oc):a4A E keep objs' :=
 ⟨fun id oc hl=>h.rep id oc (hs _ _ hl),fun id oc b hl=>h.sep id oc b (hs _ _ hl),fun id id' oc oc' b hl hl'=>h.inj id id' oc oc' b (hs _ _ hl) (hs _ _ hl'),h.rob,h.kb,h.gl⟩
theorem y1D {t:Ty} {id:Nat} {rg:Option (Nat×Nat)} {x:List (den t)×Objs} (h:p9A t [] id rg=some x):False:=by
 simp [p9A,a1A] at h
theorem p5C:∀ (t:Ty) {cs rest:List AV} {o:Objs} {x:den t},b2A t cs []=some (x,rest,o)→o=[]∧∀ objs,b2A t cs objs=some (x,rest,objs)
 | .int k,cs,rest,o,x,h=>by
  simp only [b2A] at h ⊢
  split at h
  ·split at h
   ·rename_i hk
    cases h
    exact ⟨rfl,fun _=>by rw [Aj hk]⟩
   ·cases h
  ·cases h
 | .bool,cs,rest,o,x,h=>by
  simp only [b2A] at h ⊢
  split at h
  ·cases h; exact ⟨rfl,fun _=>rfl⟩
  ·cases h
 | .str,cs,rest,o,x,h=>by
  simp only [b2A] at h ⊢
  split at h
  ·cases h; exact ⟨rfl,fun _=>rfl⟩
  ·cases h
 | .sl t,cs,rest,o,x,h=>by
  simp only [b2A] at h ⊢
  split at h
  ·obtain ⟨y,hy,h⟩:=b4A h; cases h; exact ⟨rfl,fun _=>by rw [hy]; rfl⟩
  ·cases h; exact ⟨rfl,fun _=>rfl⟩
  ·obtain ⟨y,hy,h⟩:=b4A h; exact (y1D hy).elim
  ·cases h
 | .own t,cs,rest,o,x,h=>by
  simp only [b2A] at h ⊢
  split at h
  ·cases h; exact ⟨rfl,fun _=>rfl⟩
  ·obtain ⟨y,hy,h⟩:=b4A h; exact (y1D hy).elim
  ·cases h
 | .unit,cs,rest,o,x,h=>by
  simp only [b2A] at h ⊢; cases h; exact ⟨rfl,fun _=>rfl⟩
 | .pair a b,cs,rest,o,x,h=>by
  simp only [b2A] at h ⊢
  split at h
  ·rename_i h1
   split at h
   ·rename_i h2
    cases h
    obtain ⟨e1,g1⟩:=p5C a h1
    subst e1
    obtain ⟨e2,g2⟩:=p5C b h2
    exact ⟨e2,fun objs=>by rw [g1]; dsimp only; rw [g2]⟩
   ·cases h
  ·cases h
 | .arr n t,cs,rest,o,x,h=>by
  have key:∀ (n:Nat) {cs rest:List AV} {o:Objs} {xs:List (den t)},m8A (b2A t) n cs []=some (xs,rest,o)→o=[]∧∀ objs,m8A (b2A t) n cs objs=some (xs,rest,objs):=by
   intro n
   induction n with
   | zero=>intro cs rest o xs h; simp only [m8A] at h ⊢; cases h; exact ⟨rfl,fun _=>rfl⟩
   | succ n ih =>
    intro cs rest o xs h
    simp only [m8A] at h ⊢
    split at h
    ·rename_i h1
     split at h
     ·rename_i h2
      cases h
      obtain ⟨e1,g1⟩:=p5C t h1
      subst e1
      obtain ⟨e2,g2⟩:=ih h2
      exact ⟨e2,fun objs=>by rw [g1]; dsimp only; rw [g2]⟩
     ·cases h
    ·cases h
  simp only [b2A] at h ⊢
  split at h
  ·rename_i n' t' l r
   split at h
   ·rename_i hn
    obtain ⟨y,hy,h⟩:=b4A h; cases h
    exact ⟨rfl,fun _=>by rw [Aj hn,hy]; rfl⟩
   ·cases h
  ·exact key n h
theorem y2D {t:Ty}:∀ {vs:List AV} {xs:List (den t)} {o:Objs},u2A t vs []=some (xs,o)→o=[]∧∀ objs,u2A t vs objs=some (xs,objs)
 | [],xs,o,h=>by simp only [u2A] at h ⊢; cases h; exact ⟨rfl,fun _=>rfl⟩
 | v::vs,xs,o,h=>by
  simp only [u2A] at h ⊢
  split at h
  ·rename_i x o1 h1
   split at h
   ·rename_i ys o2 h2
    cases h
    have h1':o1=[]∧∀ objs,j6A t v objs=some (x,objs):=by
     unfold j6A at h1 ⊢
     split at h1
     ·split at h1
      ·rename_i hto
       cases h1
       obtain ⟨e,g⟩:=p5C t hto
       exact ⟨e,fun objs=>by rw [g]⟩
      ·cases h1
     ·cases h1
    obtain ⟨e1,g1⟩:=h1'
    subst e1
    obtain ⟨e2,g2⟩:=y2D h2
    exact ⟨e2,fun objs=>by rw [g1]; dsimp only; rw [g2]⟩
   ·cases h
  ·cases h
def c9C (isP:Bool) (id:Nat):AV:=match isP with
 | true=>.ptr id 0
 | false=>.oref id none
theorem y3D {T:Tab} {S:St} {op:Op} {isP:Bool} {oc:OC} (h:p3A T S op=some (isP,oc)) (id:Nat) (S':St) (ht:S'.tmps=S.tmps) :
  y0A S' op=none∧m9A T S' op=.no∧q0A T S' id op=.done (c9C isP id) (a9A id oc S'.objs)∧(isP=false→∃ t x l,oc=.arr t (x::l)):=by
 have hmp:∀ l,f1A S' l=f1A S l:=by
  intro l
  induction l with
  | nil=>rfl
  | cons p l ih =>
   simp only [f1A,ih]
   congr 2
   obtain ⟨i,x⟩:=p
   cases x <;> simp only [ev,ht]
 unfold p3A at h
 split at h
 ·rename_i t
  obtain ⟨i,hi,e⟩:=b4A h
  cases e
  exact ⟨rfl,rfl,by simp only [q0A,hi]; rfl,fun h=>(nomatch h)⟩
 ·rename_i t len ps
  split at h
  ·rename_i v objs hb
   split at h
   ·rename_i t' x l hl
    cases h
    refine ⟨rfl,rfl,?_,fun _=>⟨_,_,_,rfl⟩⟩
    simp only [q0A,hmp]
    unfold g7B at hb ⊢
    split at hb
    ·rename_i ty bytes hty
     cases hop:(opT T t&&Nat.beq len 1) with
     | true =>
      exfalso
      rw [hop] at hb
      have hb:m5B ⟨S.tmps,[],0⟩ 0 ty (f1A S ps.toList)=.done v objs:=hb
      unfold m5B at hb
      split at hb
      ·split at hb
       ·rename_i cs _
        cases hc:(Nat.beq (o0A cs) (a0A ty)&&Nat.blt 0 (a0A ty)&&Nat.ble (a0A ty) 16777216) with
        | false=>rw [hc] at hb; cases hb
        | true =>
         rw [hc] at hb
         cases hb
         simp [a9A,a1A] at hl
       ·cases hb
      ·cases hb
     | false =>
     rw [hop] at hb
     cases hc:(m4B 0 (f1A S ps.toList)&&Nat.beq (m0B (f1A S ps.toList)) len&&Nat.ble (len*a0A ty) 16777216&&Nat.blt 0 (a0A ty)) with
     | false=>rw [hc] at hb; cases hb
     | true =>
      rw [hc] at hb
      simp only [Al] at hb ⊢
      split at hb
      ·rename_i xs o hps
       cases hb
       obtain ⟨e1,g1⟩:=y2D hps
       subst e1
       rw [g1]
       have:OC.arr ty xs=.arr t' (x::l):=by simpa [a9A,a1A] using hl
       rw [←this]; rfl
      ·cases hb
    ·cases hb
   ·cases h
  ·cases h
 ·cases h
theorem d9F {ts:List Nat} {l:List AV} {k:Nat} (h:k∈ts):b1A (t2A ts 0 l) k=b1A l k:=by
 rw [p3C]
 have:memN (0+k) ts=true:=by rw [Dk]; exact o0B.2 h
 rw [this]; rfl
theorem y4D {T:Tab} {S:St} {o:Oper}:p3A T (g6A S o) o.op=p3A T S o.op:=by
 unfold p3A
 cases ho:o.op with
 | buildSlice t len ps =>
  have hmp:∀ l:List (Nat×Operand),(∀ p∈l,∀ t,p.2=.tmp t→t∈t1A o.op)→f1A (g6A S o) l=f1A S l:=by
   intro l
   induction l with
   | nil=>intro _; rfl
   | cons p l ih =>
    intro h
    simp only [f1A]
    rw [ih fun q hq=>h q (Bb _ hq)]
    congr 2
    obtain ⟨i,x⟩:=p
    cases x with
    | tmp t=>exact d9F (h _ Ax t rfl)
    | _=>rfl
  have hin:∀ (l:List (Nat×Operand)) (p:Nat×Operand) (t:Nat),p∈l→p.2=.tmp t→t∈tmP l:=by
   intro l
   induction l with
   | nil=>intro p t h; cases h
   | cons q l ih =>
    intro p t h e
    rcases Bf.1 h with rfl | h
    ·simp only [tmP,e]; exact Ax
    ·have:=ih p t h e
     simp only [tmP]
     split
     ·exact Bb _ this
     ·exact this
  have hb:∀ (S1 S2:St) (ps:List (Nat×AV)),g7B T ⟨S1.tmps,[],0⟩ 0 t len ps=g7B T ⟨S2.tmps,[],0⟩ 0 t len ps:=fun _ _ _=>rfl
  simp only
  rw [hmp ps.toList fun p hp t' e=>by rw [ho]; exact hin _ p t' hp e,hb (g6A S o) S]
 | _=>rfl
def VM (isP:Bool) (m:MI) (x:Value):Prop:=∀ (E:Env) (id:Nat),id<E.N→E.M id=m→a3A E (c9C isP id) x
theorem e0F {isP:Bool} {E:Env} {id:Nat} {x:Value} (h:a3A E (c9C isP id) x):VM isP (E.M id) x:=by
 intro E' id' hid hm
 cases isP with
 | true =>
  obtain ⟨_,b,hb,e⟩:=(show a6A E (.ptr id 0) [x] from h)
  exact ⟨hid,b,by rw [hm]; exact hb,e⟩
 | false =>
  obtain ⟨_,r⟩:=(show a6A E (.oref id none) [x] from h)
  refine ⟨hid,?_⟩
  rw [hm]; exact r
structure t4A (T:Tab) (ops:Array Oper) (pi:List Nat) (st:Nat→St) (op:Nat→Oper) (keep:Nat→Prop) (z:Nat) (E0:Env)
  (listed:Array Bool) (q:Nat) (blk:Nat→Option Nat) (E:Env) (a:Act):Prop where
 le:q≤pi.length
 done:∀ p,p<q→e3A T (op p).op=true→listed.getD (pi.getD p 0) false=true
 ahead:∀ p,q≤p→p<pi.length→e3A T (op p).op=true→listed.getD (pi.getD p 0) false=true→r8A T (st p) (op p)=true∧∃ b,blk p=some b
 pend:∀ p b,blk p=some b→q≤p∧p<pi.length∧listed.getD (pi.getD p 0) false=true∧r8A T (st p) (op p)=true∧∃ d isP oc m vs,(op p).dst=some d∧p3A T (st p) (op p).op=some (isP,oc)∧m.blk=some b ∧
  E.w.heap[b]? = some vs∧c5A E m oc∧¬ keep b∧¬ E.ro b∧∀ x,a.tmps[d]? = some x→VM isP m x
 inj:∀ p p' b,blk p=some b→blk p'=some b→p=p'
 size:a.tmps.size=z
 len:(st 0).tmps.length=z
 defers:u9A keep E0 a.defers
 next:E.N=(st q).next
 mems:a4A E (fun b=>keep b∨∃ p,blk p=some b) (st q).objs
 slots:∀ t x,a.tmps[t]? = some x→(∀ p,p<pi.length→(op p).dst=some t→listed.getD (pi.getD p 0) false=true∧blk p=none)→a3A E (b1A (st pi.length).tmps t) x
 early:∀ t x,a.tmps[t]? = some x→(∀ p,p<pi.length→(op p).dst=some t→listed.getD (pi.getD p 0) false=false)→a3A E (b1A (st 0).tmps t) x
 later:Later keep E0 E
 closed:∀ i o,ops[i]? = some o→listed.getD i false=true→∀ e∈o.after,Region.binds .any e=true→listed.getD e.on false=true
 lsize:listed.size=ops.size
theorem p6C {T:Tab} {S:St} {o:Oper} (h:r8A T S o=true):e3A T o.op=true∧o.guard=none∧∃ isP oc d,p3A T S o.op=some (isP,oc)∧o.dst=some d:=by
 simp only [r8A,Ac] at h
 obtain ⟨⟨⟨h1,h2⟩,h3⟩,h4⟩:=h
 refine ⟨h1.2,by simpa using h2,?_⟩
 ·obtain ⟨⟨isP,oc⟩,h5⟩:=Dn.1 h4
  obtain ⟨d,h6⟩:=Dn.1 h3
  exact ⟨isP,oc,d,h5,h6⟩
section
variable {P:Program} {T:Tab} {H:Handler} {ops:Array Oper} {pi:List Nat} {st:Nat→St} {val:Nat→AV} {op:Nat→Oper} {ent:Nat→Ent} (C:Cx P T H ops pi st val op ent)
include C
theorem Cx.alloc {p:Nat} (hp:p<pi.length) (ha:r8A T (st p) (op p)=true):∃ isP oc,p3A T (st p) (op p).op=some (isP,oc)∧val p=c9C isP (st p).next∧(st (p+1)).objs=a9A (st p).next oc (st p).objs∧(st (p+1)).next=(st p).next+1:=by
 obtain ⟨hc,hg,isP,oc,d,ho,hd⟩:=p6C ha
 have h:=C.tra.out p hp
 generalize val p=v at h ⊢
 generalize (st (p+1)).objs=o at h ⊢
 generalize (st (p+1)).next=n at h ⊢
 have hw:q2A ops.toList (st p) (op p)=some true:=by unfold q2A; rw [hg]
 cases h with
 | skip h=>rw [hw] at h; cases h
 | pure _ h _=>rw [hc] at h; cases h
 | grow _ h _=>rw [hc] at h; cases h
 | chain _ _ h =>
  obtain ⟨h1,h2,h3,_⟩:=y3D (show p3A T (g6A (st p) (op p)) (op p).op=some (isP,oc) by rw [y4D]; exact ho) (g6A (st p) (op p)).next (g6A (st p) (op p)) rfl
  simp only [opV,h1,h2,h3] at h
  cases h
  exact ⟨isP,oc,ho,rfl,rfl,rfl⟩
variable {keep:Nat→Prop} {z:Nat} {E0:Env}
theorem Cx.adv {listed:Array Bool} {a:Act}:∀ (k:Nat) {q:Nat} {blk:Nat→Option Nat} {E:Env},pi.length - q=k→t4A T ops pi st op keep z E0 listed q blk E a →
    ∃ q' blk' E',E'.w=E.w∧t4A T ops pi st op keep z E0 listed q' blk' E' a∧(q'<pi.length→e3A T (op q').op=true∧listed.getD (pi.getD q' 0) false=false):=by
  intro k
  induction k with
  | zero =>
    intro q blk E hk D
    exact ⟨q,blk,E,rfl,D,fun h=>by omega⟩
  | succ k ih =>
    intro q blk E hk D
    have hq:q<pi.length:=by omega
    cases hc:e3A T (op q).op with
    | false =>
      obtain ⟨e1,e2⟩:=C.plain hq hc
      refine ih (q:=q+1) (blk:=blk) (E:=E) (by omega) ⟨hq,fun p hp hc' => ?_,fun p hp=>D.ahead p (by omega),fun p b hb => ?_,D.inj,D.size,D.len,D.defers,D.next.trans e2.symm,by rw [e1]; exact D.mems,D.slots,D.early,D.later,D.closed,D.lsize⟩
      · rcases Nat.lt_succ_iff_lt_or_eq.1 hp with h | rfl
        · exact D.done p h hc'
        · rw [hc] at hc'; cases hc'
      · obtain ⟨h1,h2,h3,h4,h5⟩:=D.pend p b hb
        refine ⟨?_,h2,h3,h4,h5⟩
        rcases Nat.eq_or_lt_of_le h1 with rfl | h
        · rw [(p6C h4).1] at hc; cases hc
        · exact h
    | true =>
      cases hl:listed.getD (pi.getD q 0) false with
      | false=>exact ⟨q,blk,E,rfl,D,fun _=>⟨hc,hl⟩⟩
      | true =>
        obtain ⟨ha,b,hb⟩:=D.ahead q (Ay _) hq hc hl
        obtain ⟨_,_,_,_,d,isP,oc,m,vs,hd,ho,hmb,hrow,hz,hnk,hnr,htmp⟩:=D.pend q b hb
        obtain ⟨isP',oc',ho',hval,hobjs,hnext⟩:=C.alloc hq ha
        rw [ho] at ho'; cases ho'
        let E1:Env:={ E with M:=fun id=>if id=E.N then m else E.M id,N:=E.N+1 }
        let blk':Nat→Option Nat:=fun p=>if p=q then none else blk p
        have hL:Later (fun b=>keep b∨∃ p,blk p=some b) E E1:=⟨fun _ h=>h,fun _ h=>.inl h,fun id hid=>by show (if id=E.N then _ else E.M id)=_; rw [Ae (El hid)],Ej _,Ay _,fun _ _=>rfl,fun _ _=>rfl,e1A.refl _⟩
        have hM1:a4A E1 (fun b=>keep b∨∃ p,blk p=some b) (st q).objs:=by
          have hm:=D.mems
          have hid:∀ id oc,a1A id (st q).objs=some oc→E1.M id=E.M id:=fun id oc h=>hL.M id (hm.rep _ _ h).1
          exact ⟨fun id oc h=>⟨Eh (hm.rep _ _ h).1,by rw [hid id oc h]; exact c5A.later hL (fun _ _=>rfl) (hm.rep _ _ h).2⟩,
            fun id oc b' h h'=>hm.sep id oc b' h (by rw [←hid id oc h]; exact h'),fun id id' oc oc' b' h h' g g'=>hm.inj id id' oc oc' b' h h' (by rw [←hid id oc h]; exact g) (by rw [←hid id' oc' h']; exact g'),hm.rob,hm.kb,hm.gl.later hL⟩
        have hMN:E1.M E.N=m:=Aj rfl
        have hnk':¬ (keep b∨∃ p,blk' p=some b):=by
          rintro (h | ⟨p,h⟩)
          · exact hnk h
          · by_cases hp:p=q
            · simp [blk',hp] at h
            · simp only [blk',Ae hp] at h
              exact hp (D.inj p q b h hb)
        have hM2:a4A E1 (fun b=>keep b∨∃ p,blk' p=some b) (a9A E.N oc (st q).objs):=by
          refine i0B (b:=b) (hM1.weaker fun k hk => ?_) (Cg _) (by rw [hMN]; exact hmb) hnk' hnr ?_
          · rcases hk with (hk | ⟨p,hk⟩) | rfl
            · exact .inl hk
            · by_cases hp:p=q
              · simp [blk',hp] at hk
              · simp only [blk',Ae hp] at hk; exact .inr ⟨p,hk⟩
            · exact .inr ⟨q,hb⟩
          · rw [hMN]; exact c5A.later hL (fun _ _=>rfl) hz
        have D':t4A T ops pi st op keep z E0 listed (q+1) blk' E1 a:=by
         refine ⟨hq,fun p hp hc' => ?_,fun p hp hn hc' hl' => ?_,fun p b2 hb2 => ?_,fun p p' b2 h h' => ?_,D.size,D.len,D.defers,?_,?_,fun t x hx hcond => ?_,fun t x hx hcond=>a3A.later hL (D.early t x hx hcond),?_,D.closed,D.lsize⟩
         · rcases Nat.lt_succ_iff_lt_or_eq.1 hp with h | rfl
           · exact D.done p h hc'
           · exact hl
         · obtain ⟨h1,b2,h2⟩:=D.ahead p (by omega) hn hc' hl'
           exact ⟨h1,b2,by simp only [blk']; rw [Ae (by omega)]; exact h2⟩
         · by_cases hp:p=q
           · simp [blk',hp] at hb2
           · simp only [blk',Ae hp] at hb2
             obtain ⟨g1,g2,g3,g4,d2,t2,i2,m2,vs2,g5,g6,g7,g8,g9,g10⟩:=D.pend p b2 hb2
             exact ⟨by omega,g2,g3,g4,d2,t2,i2,m2,vs2,g5,g6,g7,g8,c5A.later hL (fun _ _=>rfl) g9,g10⟩
         · by_cases hp:p=q
           · simp [blk',hp] at h
           · by_cases hp':p'=q
             · simp [blk',hp'] at h'
             · simp only [blk',Ae hp] at h
               simp only [blk',Ae hp'] at h'
               exact D.inj p p' b2 h h'
         · show E.N+1=_
           rw [D.next,hnext]
         · rw [hobjs,←D.next]; exact hM2
         · by_cases ht:(op q).dst=some t
           · rw [hd] at ht; cases ht
             have hlt:d<(st 0).tmps.length:=by rw [D.len,←D.size]; exact (Cb.1 hx).1
             rw [C.own hq hd hlt,hval,←D.next]
             exact htmp x hx E1 E.N (Cg _) hMN
           · refine a3A.later hL (D.slots t x hx fun p hp hdp => ?_)
             obtain ⟨c1,c2⟩:=hcond p hp hdp
             refine ⟨c1,?_⟩
             have hpq:p≠q:=fun e=>ht (by rw [←e]; exact hdp)
             simpa only [blk',Ae hpq] using c2
         · exact D.later.trans (hL.weaker fun _ h=>.inl h)
        obtain ⟨q',b',E',h1,h2,h3⟩:=ih (q:=q+1) (blk:=blk') (E:=E1) (by omega) D'
        exact ⟨q',b',E',h1,h2,h3⟩
theorem Cx.mark {listed:Array Bool} {a:Act} {q:Nat} {blk:Nat→Option Nat} {E:Env} (D:t4A T ops pi st op keep z E0 listed q blk E a) {p:Nat} (hp:p<pi.length) (hun:listed.getD (pi.getD p 0) false=false)
  (hedge:∀ e∈(op p).after,Region.binds .any e=true→listed.getD e.on false=true) {q':Nat} {E':Env} (hL:Later (fun b=>keep b∨∃ p,blk p=some b) E E')
  (hM:a4A E' (fun b=>keep b∨∃ p,blk p=some b) (st q').objs) (hN:E'.N=(st q').next) (hq:(q'=q∧e3A T (op p).op=false)∨(p=q∧q'=q+1∧r8A T (st p) (op p)=false)) {x:Value} (hx:a3A E' (val p) x) :
  t4A T ops pi st op keep z E0 (listed.setIfInBounds (pi.getD p 0) true) q' blk E' (a.put (op p).dst x):=by
 have hin:pi.getD p 0<listed.size:=by rw [D.lsize]; exact (Cb.1 (C.at hp)).1
 have hset:∀ p',p'<pi.length→(listed.setIfInBounds (pi.getD p 0) true).getD (pi.getD p' 0) false=true→p'=p∨listed.getD (pi.getD p' 0) false=true:=by
  intro p' hp' h
  by_cases he:p'=p
  ·exact .inl he
  ·rw [getD_set_ne false (fun e=>he (C.inj hp hp' e).symm)] at h; exact .inr h
 have hself:(listed.setIfInBounds (pi.getD p 0) true).getD (pi.getD p 0) false=true:=by
  generalize pi.getD p 0=i at hin ⊢
  simp [hin]
 have htm:∀ t y,(a.put (op p).dst x).tmps[t]? = some y→((op p).dst=some t∧y=x∧t<z)∨((op p).dst≠some t∧a.tmps[t]? = some y):=by
  intro t y hy
  cases hd:(op p).dst with
  | none=>rw [hd] at hy; exact .inr ⟨by simp,hy⟩
  | some d =>
   rw [hd] at hy
   simp only [Act.put,Array.getElem?_setIfInBounds] at hy
   by_cases hdt:d=t
   ·subst hdt
    rw [Aj rfl] at hy
    by_cases hlt:d<a.tmps.size
    ·rw [Aj hlt] at hy; cases hy
     exact .inl ⟨rfl,rfl,by rw [←D.size]; exact hlt⟩
    ·rw [Ae hlt] at hy; cases hy
   ·rw [Ae hdt] at hy
    exact .inr ⟨by simp [hdt],hy⟩
 refine ⟨?_,fun p' hp' hc' => ?_,fun p' h1 h2 hc' hl' => ?_,fun p' b hb => ?_,D.inj,?_,D.len,?_,hN,hM,fun t y hy hcond => ?_,fun t y hy hcond => ?_,D.later.trans (hL.weaker fun _ h=>.inl h),fun i o hi hl' e he hb => ?_,?_⟩
 ·rcases hq with ⟨rfl,_⟩ | ⟨rfl,rfl,_⟩
  ·exact D.le
  ·exact hp
 ·rcases hq with ⟨rfl,_⟩ | ⟨rfl,rfl,_⟩
  ·exact getD_set_true (D.done p' hp' hc')
  ·rcases Nat.lt_succ_iff_lt_or_eq.1 hp' with h | rfl
   ·exact getD_set_true (D.done p' h hc')
   ·exact hself
 ·rcases hset p' h2 hl' with rfl | hl'
  ·rcases hq with ⟨_,h⟩ | ⟨rfl,rfl,_⟩
   ·rw [h] at hc'; cases hc'
   ·omega
  ·refine D.ahead p' ?_ h2 hc' hl'
   rcases hq with ⟨rfl,_⟩ | ⟨rfl,rfl,_⟩
   ·exact h1
   ·omega
 ·obtain ⟨g1,g2,g3,g4,d2,t2,i2,m2,vs2,g6,g5,g7,g8,g9,g10,g11,g12⟩:=D.pend p' b hb
  have hpp:p'≠p:=fun e=>by rw [e,hun] at g3; cases g3
  refine ⟨?_,g2,getD_set_true g3,g4,d2,t2,i2,m2,vs2,g6,g5,g7,(hL.heapKeep b (.inr ⟨p',hb⟩)).trans g8,c5A.later hL (fun b' hb'=>by rw [g7] at hb'; cases hb'; exact hL.heapKeep b (.inr ⟨p',hb⟩)) g9,g10,fun hr => ?_,fun y hy => ?_⟩
  ·rcases hq with ⟨rfl,_⟩ | ⟨rfl,rfl,_⟩
   ·exact g1
   ·omega
  ·rcases hL.roN b hr with h | h
   ·exact g11 h
   ·exact h (.inr ⟨p',hb⟩)
  ·rcases htm d2 y hy with ⟨h,_⟩ | ⟨_,h⟩
   ·exact absurd (C.dst g2 hp g6 h) hpp
   ·exact g12 y h
 ·cases hd:(op p).dst with
  | none=>exact D.size
  | some d=>simp only [Act.put,Array.size_setIfInBounds]; exact D.size
 ·cases (op p).dst <;> exact D.defers
 ·rcases htm t y hy with ⟨hd,rfl,hlt⟩ | ⟨hd,hy'⟩
  ·rw [C.own hp hd (by rw [D.len]; exact hlt)]; exact hx
  ·refine a3A.later hL (D.slots t y hy' fun p' hp' hd' => ?_)
   obtain ⟨c1,c2⟩:=hcond p' hp' hd'
   refine ⟨(hset p' hp' c1).resolve_left fun e=>hd (by rw [←e]; exact hd'),c2⟩
 ·rcases htm t y hy with ⟨hd,_,_⟩ | ⟨hd,hy'⟩
  ·have:=hcond p hp hd
   rw [hself] at this; cases this
  ·refine a3A.later hL (D.early t y hy' fun p' hp' hd' => ?_)
   have h:=hcond p' hp' hd'
   cases hl:listed.getD (pi.getD p' 0) false with
   | false=>rfl
   | true=>rw [getD_set_true hl] at h; cases h
 ·by_cases hij:pi.getD p 0=i
  ·subst hij
   rw [C.at hp] at hi; cases hi
   exact getD_set_true (hedge e he hb)
  ·rw [getD_set_ne false hij] at hl'
   exact getD_set_true (D.closed i o hi hl' e he hb)
 ·rw [Array.size_setIfInBounds]; exact D.lsize
end
end Go.Rx
namespace Go.Rx
variable [Inhabited GW]
section
variable {P:Program} {T:Tab} {H:Handler} {ops:Array Oper} {pi:List Nat} {st:Nat→St} {val:Nat→AV} {op:Nat→Oper} {ent:Nat→Ent} (C:Cx P T H ops pi st val op ent)
variable {keep:Nat→Prop} {z:Nat} {E0:Env} {listed:Array Bool} {a:Act} {q:Nat} {blk:Nat→Option Nat} {E:Env}
include C
theorem Cx.before (D:t4A T ops pi st op keep z E0 listed q blk E a) (hmax:q<pi.length→e3A T (op q).op=true∧listed.getD (pi.getD q 0) false=false) {p:Nat} (hp:p<pi.length)
  (hedge:∀ e∈(op p).after,Region.binds .any e=true→listed.getD e.on false=true) {p':Nat} (hl:p'<p) (hb:Nat.testBit (ent p).anc (pi.getD p' 0)=true) :
  listed.getD (pi.getD p' 0) false=true∧blk p'=none:=by
 have hcl:∀ k,Nat.testBit (ent p).anc k=true→listed.getD k false=true:=by
  intro k hk
  rw [(C.ej hp).2.2.2.1] at hk
  exact f8D (D:=fun k=>listed.getD k false=true) (fun i o ho hi=>D.closed i o (by simpa using ho) hi) _ _ (C.atL hp) hedge k hk
 refine ⟨hcl _ hb,?_⟩
 cases hblk:blk p' with
 | none=>rfl
 | some b =>
  obtain ⟨h1,h2,h3,h4,_⟩:=D.pend p' b hblk
  have hqn:q<pi.length:=Nat.lt_of_le_of_lt h1 h2
  obtain ⟨hc,hun⟩:=hmax hqn
  rcases Nat.eq_or_lt_of_le h1 with rfl | hlt
  ·rw [h3] at hun; cases hun
  ·have:=hcl _ ((C.pair hl hp).2.2 h4 hb q hlt hc)
   rw [this] at hun; cases hun
theorem Cx.slotsAt (D:t4A T ops pi st op keep z E0 listed q blk E a) (hmax:q<pi.length→e3A T (op q).op=true∧listed.getD (pi.getD q 0) false=false) {p:Nat} (hp:p<pi.length)
  (hun:listed.getD (pi.getD p 0) false=false) (hedge:∀ e∈(op p).after,Region.binds .any e=true→listed.getD e.on false=true) {t:Nat} (ht:t∈t1A (op p).op∨t∈s3B ops.toList (op p)) {x:Value} (hx:a.tmps[t]? = some x) :
  a3A E (b1A (st p).tmps t) x:=by
 by_cases hw:∃ p',p'<pi.length∧(op p').dst=some t
 ·obtain ⟨p',hp',hd⟩:=hw
  rcases C.src hp ht hp' hd with ⟨h1,h2⟩ | ⟨h1,h2⟩
  ·rw [←C.stay (t:=t) (Nat.le_of_lt hp) (Nat.le_of_lt hp) (Ay _) fun p'' g1 g2 hd'=>by have:=C.dst hp' g2 hd hd'; omega]
   refine D.slots t x hx fun p'' hp'' hd' => ?_
   rw [←C.dst hp' hp'' hd hd']
   exact C.before D hmax hp hedge h1 h2
  ·rw [C.stay (t:=t) (De _) (De p) (Nat.le_of_lt hp) fun p'' _ g2 hd'=>by have:=C.dst hp' (Nat.lt_trans g2 hp) hd hd'; omega]
   refine D.early t x hx fun p'' hp'' hd' => ?_
   rw [←C.dst hp' hp'' hd hd']
   rcases h2 with rfl | h2
   ·exact hun
   ·cases hl:listed.getD (pi.getD p' 0) false with
    | false=>rfl
    | true =>
     have hcl:∀ k,Nat.testBit (ent p').anc k=true→listed.getD k false=true:=by
      intro k hk
      rw [(C.ej hp').2.2.2.1] at hk
      exact f8D (D:=fun k=>listed.getD k false=true) (fun i o ho hi=>D.closed i o (by simpa using ho) hi) _ _ (C.atL hp') (D.closed _ _ (C.at hp') hl) k hk
     have:=hcl _ h2
     rw [this] at hun; cases hun
 ·rw [←C.stay (t:=t) (Nat.le_of_lt hp) (Nat.le_of_lt hp) (Ay _) fun p'' _ g2 hd'=>hw ⟨p'',g2,hd'⟩]
  exact D.slots t x hx fun p'' hp'' hd'=>absurd ⟨p'',hp'',hd'⟩ hw
theorem Cx.masked (D:t4A T ops pi st op keep z E0 listed q blk E a) (hmax:q<pi.length→e3A T (op q).op=true∧listed.getD (pi.getD q 0) false=false) {p:Nat} (hp:p<pi.length)
  (hun:listed.getD (pi.getD p 0) false=false) (hedge:∀ e∈(op p).after,Region.binds .any e=true→listed.getD e.on false=true):e0A E (t2A (t1A (op p).op) 0 (st p).tmps) a.tmps:=by
 refine ⟨by rw [x3D,C.len (Nat.le_of_lt hp),D.len,D.size],fun t x hx => ?_⟩
 rw [p3C,Dk]
 cases hm:memN t (t1A (op p).op) with
 | false=>exact trivial
 | true=>exact C.slotsAt D hmax hp hun hedge (.inl (o0B.1 hm)) hx
theorem Cx.wants (D:t4A T ops pi st op keep z E0 listed q blk E a) (hmax:q<pi.length→e3A T (op q).op=true∧listed.getD (pi.getD q 0) false=false) {p:Nat} (hp:p<pi.length)
  (hun:listed.getD (pi.getD p 0) false=false) (hedge:∀ e∈(op p).after,Region.binds .any e=true→listed.getD e.on false=true) {b:Bool} (hw:q2A ops.toList (st p) (op p)=some b):Region.wanted (op p) (yielded ops a.tmps)=b:=by
 unfold q2A at hw
 unfold Region.wanted
 split at hw
 ·rename_i hg; rw [hg]; cases hw; rfl
 ·rename_i g want hg
  rw [hg]
  split at hw
  ·cases hw
  ·rename_i d hd
   have hgt:d∈s3B ops.toList (op p):=by simp [s3B,hg,hd]
   have hd':(ops[g]?).bind (·.dst)=some d:=by rw [p0C] at hd; simpa using hd
   have hlen:∀ v,b1A (st p).tmps d=v→v≠.top→∃ x,a.tmps[d]? = some x:=by
    intro v hv hne
    rcases Dh d a.tmps.size with h | h
    ·exact ⟨_,Array.getElem?_eq_getElem h⟩
    ·refine absurd ?_ hne
     rw [←hv]
     exact y0D (by rw [C.len (Nat.le_of_lt hp),D.len,←D.size]; exact h)
   split at hw
   ·rename_i bb hbb
    cases hw
    obtain ⟨x,hx⟩:=hlen _ hbb (by simp)
    have hr:=C.slotsAt D hmax hp hun hedge (.inr hgt) hx
    rw [hbb] at hr
    have:=hr.bool_inv
    subst this
    simp [yielded,hd',hx]
   ·rename_i l hl
    cases hw
    obtain ⟨x,hx⟩:=hlen _ hl (by simp)
    have hr:=C.slotsAt D hmax hp hun hedge (.inr hgt) hx
    rw [hl] at hr
    obtain ⟨vs,rfl,_⟩:=hr
    simp [yielded,hd',hx]
   ·cases hw
def Nxt (T:Tab) (ops:Array Oper) (pi:List Nat) (st:Nat→St) (op:Nat→Oper) (keep:Nat→Prop) (z:Nat) (E0:Env) (listed:Array Bool) (a:Act) (w:World):Prop:=
 ∃ q blk E,E.w=w∧t4A T ops pi st op keep z E0 listed q blk E a∧(q<pi.length→e3A T (op q).op=true∧listed.getD (pi.getD q 0) false=false)
theorem Cx.nxt (D:t4A T ops pi st op keep z E0 listed q blk E a):Nxt T ops pi st op keep z E0 listed a E.w:=C.adv _ rfl D
end
theorem y5D {T:Tab} {S:St} {op:Op} {r:Bool×OC} (h:p3A T S op=some r):(∃ t,op=.alloc t)∨∃ t n ps,op=.buildSlice t n ps:=by
 unfold p3A at h
 split at h
 ·exact .inl ⟨_,rfl⟩
 ·exact .inr ⟨_,_,_,rfl⟩
 ·cases h
theorem e1F {T:Tab} {S:St} {op:Op} {v:AV} (h:r8B T S op=some v):∃ t n ps,op=.buildSlice t n ps:=by
 unfold r8B at h
 split at h
 ·exact ⟨_,_,_,rfl⟩
 ·cases h
theorem y6D {P:Program} {T:Tab} (hT:TabOK P T) {E:Env} {S:St} {a:Act} {o:Oper} {isP:Bool} {oc:OC} (hs:e0A E S.tmps a.tmps) (hro:∀ b,E.ro b→b<E.w.heap.size) (hgl:k2A E) (h:p3A T S o.op=some (isP,oc)) :
  ∃ x m b vs E1,((execOp a.eval o).run P E.w=.ok (.value x) E1.w∨((execOp a.eval o).run P E.w=.ok .skip E1.w∧x=undef))∧E1.M=E.M∧E1.N=E.N∧Later (fun b=>b<E.w.heap.size) E E1∧(∀ b,E1.ro b→b<E1.w.heap.size) ∧
   m.blk=some b∧E1.w.heap[b]? = some vs∧c5A E1 m oc∧E.w.heap.size≤b∧¬ E1.ro b∧VM isP m x:=by
 rcases y5D h with ⟨t,ho⟩ | ⟨t,n,ps,ho⟩
 ·rw [ho] at h
  obtain ⟨i,hi,e⟩:=b4A (show oM (d2A t T) (fun i=>(true,OC.box i.zc))=some (isP,oc) from h)
  cases e
  obtain ⟨inf,h1,h2,h3,zz,h4,h5,_⟩:=(hT t i hi).info
  have hrun:(execOp a.eval o).run P E.w=.ok (.value (.pointer (some ⟨E.w.heap.size,0,none⟩))) (E.w.alloc (.cells zz.cells t)):=by
   have:(Instr.alloc t true (.tuple #[])).run P E.w=.ok (.pointer (some ⟨E.w.heap.size,0,none⟩)) (E.w.alloc (.cells zz.cells t)):=by
    simp [Instr.alloc,zeroValue,y4A h1,h4,newVar,newRow]
   simp only [execOp,ho]
   exact i2A this
  let E1:Env:={ E with w:=E.w.alloc (.cells zz.cells t) }
  have hheap:E1.w.heap=E.w.heap.push (.cells zz.cells t):=rfl
  have hnew:E1.w.heap[E.w.heap.size]? = some (.cells zz.cells t):=by rw [hheap]; simp
  refine ⟨_,⟨some E.w.heap.size,0,0,0,0⟩,E.w.heap.size,_,E1,.inl hrun,rfl,rfl,⟨fun _ h=>h,fun _ h=>.inl h,fun _ _=>rfl,Ay _,by rw [hheap]; simp,
   fun b hb=>by rw [hheap]; exact b7C (hro b hb),fun b hb=>by rw [hheap]; exact b7C hb,⟨rfl,rfl⟩⟩,fun b hb=>by rw [hheap,Array.size_push]; exact Eh (hro b hb),rfl,hnew,⟨_,_,_,rfl,hnew,h5 E1⟩,Ay _,
   fun hr=>absurd (hro _ hr) (Nat.lt_irrefl _),fun E' id hid hm=>⟨hid,E.w.heap.size,by rw [hm],rfl⟩⟩
 ·obtain ⟨_,_,h3,h4⟩:=y3D h E.N ⟨S.tmps,[],E.N⟩ rfl
  have hm0:a4A E (fun b=>b<E.w.heap.size) []:=⟨fun id oc h=>(nomatch h),fun id oc b h=>(nomatch h),fun id id' oc oc' b h=>(nomatch h),hro,fun b hb=>hb,hgl⟩
  obtain ⟨x,E',n',hrun,hL,hM,hv,hn',hle⟩:=u8D hT (S:=⟨S.tmps,[],E.N⟩) hs hm0 o (show (q0A T ⟨S.tmps,[],E.N⟩ E.N o.op).gives (c9C isP E.N) (a9A E.N oc []) by rw [h3]; exact ⟨rfl,rfl⟩)
  have hlk:a1A E.N (a9A E.N oc [])=some oc:=by rw [d4A,Aj rfl]
  obtain ⟨hid,hrep⟩:=hM.rep _ _ hlk
  have hpf:isP=false:=by
   rw [ho] at h
   unfold p3A at h
   simp only at h
   split at h
   ·split at h
    ·cases h; rfl
    ·cases h
   ·cases h
  obtain ⟨t',y,l,hoc⟩:=h4 hpf
  subst hoc
  obtain ⟨g1,g2,g3⟩:=hrep
  cases hb:(E'.M E.N).blk with
  | none=>rw [hb] at g3; cases g3
  | some b =>
   rw [hb] at g3
   obtain ⟨vs,e,k1,k2,k3,k4⟩:=g3
   obtain ⟨s1,s2⟩:=hM.sep _ _ _ hlk hb
   refine ⟨x,E'.M E.N,b,_,{ E' with M:=E.M,N:=E.N },?_,rfl,rfl,⟨hL.ro,hL.roN,fun _ _=>rfl,Ay _,hL.size,hL.heapRo,hL.heapKeep,hL.out⟩,hM.rob,hb,k1,⟨g1,g2,?_⟩,Nat.not_lt.1 s2,s1,e0F hv⟩
   ·exact hrun
   ·rw [hb]
    refine ⟨vs,e,k1,k2,k3,fun i hi => ?_⟩
    obtain ⟨cs,r1,r2⟩:=k4 i hi
    exact ⟨cs,a2A.same (A:=E') (B:={ w:=E'.w,ro:=E'.ro,M:=E.M,N:=E.N }) rfl rfl r1,r2⟩
theorem e2F {P:Program} {T:Tab} (hT:TabOK P T) {E:Env} {S:St} {a:Act} {o:Oper} {keep:Nat→Prop} {objs:Objs} {v:AV} (hs:e0A E S.tmps a.tmps) (hm:a4A E keep objs) (h:r8B T S o.op=some v) :
  ∃ x E1,((execOp a.eval o).run P E.w=.ok (.value x) E1.w∨((execOp a.eval o).run P E.w=.ok .skip E1.w∧x=undef))∧E1.N=E.N∧Later keep E E1∧a4A E1 keep objs∧a3A E1 v x:=by
 have hn:∃ t l,p3A T S o.op=some (false,.arr t l)∧v=.sl t l:=by
  unfold r8B at h
  split at h
  ·rename_i tt ln ps e
   split at h
   ·split at h
    ·rename_i t l hno
     split at h
     ·cases h; exact ⟨t,l,hno,rfl⟩
     ·cases h
    ·cases h
   ·cases h
  ·cases h
 obtain ⟨t,l,hno,rfl⟩:=hn
 obtain ⟨x0,m,b0,vs0,E1,hrun,hEM,hEN,hLE,hrob,hmb,hrow,hrep,hb0,hnro,hvm⟩:=y6D hT hs hm.rob hm.gl hno
 have hL:Later keep E E1:=hLE.weaker hm.kb
 have hk0:¬ keep b0:=fun h=>absurd (hm.kb b0 h) (Nat.not_lt.2 hb0)
 have hL2:Later keep E (E1.free b0):=hL.trans (s9B hk0)
 refine ⟨x0,E1.free b0,hrun,hEN,hL2,⟨fun id oc h=>⟨by show id<E1.N; rw [hEN]; exact (hm.rep _ _ h).1,?_⟩,fun id oc b h hb => ?_,fun id id' o o' b h h' g g' => ?_,fun b hb => ?_,fun b hb=>Bi (hm.kb b hb) hL2.size,hm.gl.later hL2⟩,?_⟩
 ·show c5A _ (E1.M id) oc
  rw [hEM]
  exact c5A.later hL2 (fun b hb=>hLE.heapKeep b (j8A (hm.rep _ _ h).2 hb)) (hm.rep _ _ h).2
 ·have hb:(E1.M id).blk=some b:=hb
  rw [hEM] at hb
  have hlt:=j8A (hm.rep _ _ h).2 hb
  refine ⟨fun hr => ?_,(hm.sep _ _ _ h hb).2⟩
  rcases hr with hr | hr
  ·exact (hLE.roN b hr).elim (hm.sep _ _ _ h hb).1 fun hn=>hn hlt
  ·rw [hr] at hlt; exact absurd hlt (Nat.not_lt.2 hb0)
 ·have g:(E1.M id).blk=some b:=g
  have g':(E1.M id').blk=some b:=g'
  rw [hEM] at g g'
  exact hm.inj id id' o o' b h h' g g'
 ·rcases hb with hb | hb
  ·exact hrob b hb
  ·rw [hb]; exact (Cb.1 hrow).1
 ·have hx:a3A (E1.new E1.w m) (.oref E1.N none) x0:=hvm (E1.new E1.w m) E1.N (Cg _) (Aj rfl)
  have hM:(E1.new E1.w m).M E1.N=m:=Aj rfl
  have hz:Fz keep (E1.new E1.w m) ((E1.new E1.w m).free b0) E1.N t l:=⟨s9B hk0,rfl,by
   rw [hM]
   obtain ⟨g1,g2,g3⟩:=hrep
   refine ⟨g1,g2,?_⟩
   rw [hmb] at g3 ⊢
   obtain ⟨vs,e,k1,k2,k3,k4⟩:=g3
   refine ⟨vs,e,k1,k2,k3,fun i hi => ?_⟩
   obtain ⟨cs,r1,r2⟩:=k4 i hi
   exact ⟨cs,a2A.same (A:=E1) (B:=E1.new E1.w m) rfl rfl r1,r2⟩,fun b hb=>by
   rw [hM,hmb] at hb; cases hb; exact .inr rfl⟩
  have hr:=a3A.frz hz hx
  have e:p1A E1.N t l (.oref E1.N none)=.sl t l:=by
   unfold p1A
   rw [Cn]; rfl
  rw [e] at hr
  exact a2A.same (A:=(E1.new E1.w m).free b0) (B:=E1.free b0) (t:=.sl t) (x:=l) rfl rfl hr
section
variable {P:Program} {T:Tab} {H:Handler} {ops:Array Oper} {pi:List Nat} {st:Nat→St} {val:Nat→AV} {op:Nat→Oper} {ent:Nat→Ent} (C:Cx P T H ops pi st val op ent)
variable {keep:Nat→Prop} {z:Nat} {E0:Env} {listed:Array Bool} {a:Act} {q:Nat} {blk:Nat→Option Nat} {E:Env}
include C
theorem Cx.one {ro:Option Nat} {Q:Exit→Act→World→Prop} (D:t4A T ops pi st op keep z E0 listed q blk E a) (hmax:q<pi.length→e3A T (op q).op=true∧listed.getD (pi.getD q 0) false=false) {p:Nat} (hp:p<pi.length)
  (hun:listed.getD (pi.getD p 0) false=false) (hedge:∀ e∈(op p).after,Region.binds .any e=true→listed.getD e.on false=true) :
  wpOpIn (fw ro) 0 P ops Q (pi.getD p 0) (Nxt T ops pi st op keep z E0 (listed.setIfInBounds (pi.getD p 0) true)) a E.w:=by
 have hq:e3A T (op p).op=true→r8A T (st p) (op p)=false→p=q:=by
  intro hc ha
  rcases Nat.lt_trichotomy p q with h | h | h
  ·have:=D.done p h hc; rw [this] at hun; cases hun
  ·exact h
  ·obtain ⟨hcq,huq⟩:=hmax (Nat.lt_trans h hp)
   rcases (C.pair h hp).2.1 with hb | hb
   ·have:=(C.before D hmax hp hedge h hb).1
    rw [this] at huq; cases huq
   ·rw [hcq,hc] at hb
    simp only [ha] at hb
    cases hb
 have hpq:q≤p∨e3A T (op p).op=false:=by
  rcases Dh p q with h | h
  ·right
   cases hc:e3A T (op p).op with
   | false=>rfl
   | true=>have:=D.done p h hc; rw [this] at hun; cases hun
  ·exact .inl h
 unfold wpOpIn
 rw [C.at hp]
 simp only
 have hout:=C.tra.out p hp
 generalize hv:val p=v at hout
 generalize hob:(st (p+1)).objs=ob at hout
 generalize hnx:(st (p+1)).next=nx at hout
 cases hout with
 | skip hw =>
  rw [C.wants D hmax hp hun hedge hw]
  simp only [Cf,Fb]
  have hna:r8A T (st p) (op p)=false:=by
   cases ha:r8A T (st p) (op p) with
   | false=>rfl
   | true =>
    obtain ⟨_,hg,_⟩:=p6C ha
    unfold q2A at hw
    rw [hg] at hw; cases hw
  have hx:a3A E (val p) undef:=by rw [hv]; exact ⟨[],rfl,rfl⟩
  cases hc:e3A T (op p).op with
  | false=>exact ⟨fun _ _=>trivial,C.nxt (C.mark D hp hun hedge (Later.refl _ _) D.mems D.next (.inl ⟨rfl,hc⟩) hx)⟩
  | true =>
   have e:=hq hc hna
   subst e
   exact ⟨fun _ _=>trivial,C.nxt (C.mark D hp hun hedge (q':=p+1) (Later.refl _ _) (by rw [hob]; exact D.mems) (by rw [hnx]; exact D.next) (.inr ⟨rfl,rfl,hna⟩) hx)⟩
 | pure hw hc hg =>
  rw [C.wants D hmax hp hun hedge hw]
  simp only [Ep]
  have hsame:y1A (st p).objs (g8B (st p) (op p).op)=y1A (st q).objs (g8B (st p) (op p).op):=by
   refine x4D fun id hid => ?_
   rcases Nat.le_total p q with h | h
   ·refine (C.same (Nat.le_of_lt hp) h D.le (fun p' h1 h2 hc' => ?_) id hid).symm
    have hne:p≠p':=fun e=>by rw [←e,hc] at hc'; cases hc'
    have hlt:p<p':=Nat.lt_of_le_of_ne h1 hne
    have hpn:p'<pi.length:=Bi h2 D.le
    rcases (C.pair hlt hpn).2.1 with hb | hb
    ·have hl':=D.done p' h2 hc'
     have hcl:∀ k,Nat.testBit (ent p').anc k=true→listed.getD k false=true:=by
      intro k hk
      rw [(C.ej hpn).2.2.2.1] at hk
      exact f8D (D:=fun k=>listed.getD k false=true) (fun i o ho hi=>D.closed i o (by simpa using ho) hi) _ _ (C.atL hpn) (D.closed _ _ (C.at hpn) hl') k hk
     have:=hcl _ hb
     rw [this] at hun; cases hun
    ·rw [hc,hc'] at hb; exact hb
   ·refine C.same D.le h (Nat.le_of_lt hp) (fun p' h1 h2 hc' => ?_) id hid
    rcases (C.pair h2 hp).2.1 with hb | hb
    ·obtain ⟨g1,g2⟩:=C.before D hmax hp hedge h2 hb
     obtain ⟨_,b,g3⟩:=D.ahead p' h1 (Nat.lt_trans h2 hp) hc' g1
     rw [g2] at g3; cases g3
    ·rw [hc,hc'] at hb; exact hb
  have hm:a4A E (fun b=>keep b∨∃ p,blk p=some b) (r9B (st p) (op p)).objs:=by
   show a4A E _ (y1A (st p).objs (g8B (st p) (op p).op))
   rw [hsame]
   exact d8F D.mems fun j oc h=>f6D h
  obtain ⟨x,hrun,hr⟩:=d5D C.tab (S:=r9B (st p) (op p)) (C.masked D hmax hp hun hedge) hm (op p) hg
  refine n9B (w5D hg) ?_
  rw [hrun,Oper.uponIn_value]
  exact C.nxt (C.mark D hp hun hedge (Later.refl _ _) D.mems D.next (.inl ⟨rfl,hc⟩) (by rw [hv]; exact hr))
 | grow hw hc hg =>
  rw [C.wants D hmax hp hun hedge hw]
  simp only [Ep]
  obtain ⟨x,E1,hrun,hN,hL,hM,hr⟩:=e2F C.tab (C.masked D hmax hp hun hedge) D.mems hg
  refine n9B (by obtain ⟨t,n,ps,e⟩:=e1F hg; rw [e]; rfl) ?_
  have hgoal:Nxt T ops pi st op keep z E0 (listed.setIfInBounds (pi.getD p 0) true) (a.put (op p).dst x) E1.w:=
   C.nxt (C.mark D hp hun hedge hL hM (hN.trans D.next) (.inl ⟨rfl,hc⟩) (by rw [hv]; exact hr))
  rcases hrun with hrun | ⟨hrun,rfl⟩
  ·rw [hrun,Oper.uponIn_value]; exact hgoal
  ·rw [hrun,Oper.uponIn_skip]; exact hgoal
 | chain hw hc hg =>
  rw [C.wants D hmax hp hun hedge hw]
  simp only [Ep]
  cases ha:r8A T (st p) (op p) with
  | false =>
   have e:=hq hc ha
   subst e
   refine w6D (keep:=fun b=>keep b∨∃ p,blk p=some b) C.tab C.hok hg (C.masked D hmax hp hun hedge) D.mems D.next fun v' x objs n E' hL hM hN hv' hk => ?_
   cases hk
   exact C.nxt (C.mark D hp hun hedge (q':=p+1) hL (by rw [hob]; exact hM) (by rw [hnx]; exact hN) (.inr ⟨rfl,rfl,ha⟩) (by rw [hv]; exact hv'))
  | true =>
   have hqp:q≤p:=hpq.resolve_right (by rw [hc]; simp)
   obtain ⟨_,hgd,isP,oc,d,ho,hd⟩:=p6C ha
   obtain ⟨x0,m,b0,vs0,E1,hrun,hEM,hEN,hLE,hrob,hmb,hrow,hrep,hb0,hnro,hvm⟩:=y6D C.tab (C.masked D hmax hp hun hedge) D.mems.rob D.mems.gl (y4D.trans ho)
   let blk':Nat→Option Nat:=fun p'=>if p'=p then some b0 else blk p'
   have hkb:∀ b,(keep b∨∃ p,blk p=some b)→b<E.w.heap.size:=D.mems.kb
   have hnone:blk p=none:=by
    cases hb:blk p with
    | none=>rfl
    | some b=>have:=(D.pend p b hb).2.2.1; rw [this] at hun; cases hun
   have hL:Later (fun b=>keep b∨∃ p,blk p=some b) E E1:=hLE.weaker hkb
   have hb1:b0<E1.w.heap.size:=(Cb.1 hrow).1
   have hM:a4A E1 (fun b=>keep b∨∃ p,blk' p=some b) (st q).objs:=by
    have hm:=D.mems
    refine ⟨fun id oc h=>⟨by rw [hEN]; exact (hm.rep _ _ h).1,by rw [hEM]; exact c5A.later hL (fun b hb=>hLE.heapKeep b (j8A (hm.rep _ _ h).2 hb)) (hm.rep _ _ h).2⟩,fun id oc b h hb => ?_,fun id id' o o' b h h' g g'=>hm.inj id id' o o' b h h' (by rw [←hEM]; exact g) (by rw [←hEM]; exact g'),hrob,fun b hb => ?_,hm.gl.later hL⟩
    ·rw [hEM] at hb
     refine ⟨fun hr=>(hLE.roN b hr).elim (hm.sep _ _ _ h hb).1 fun hn=>hn (j8A (hm.rep _ _ h).2 hb),fun hk => ?_⟩
     rcases hk with hk | ⟨p',hk⟩
     ·exact (hm.sep _ _ _ h hb).2 (.inl hk)
     ·by_cases hpp:p'=p
      ·have hk:some b0=some b:=by simpa only [blk',Aj hpp] using hk
       cases hk
       exact absurd (j8A (hm.rep _ _ h).2 hb) (Nat.not_lt.2 hb0)
      ·have hk:blk p'=some b:=by simpa only [blk',Ae hpp] using hk
       exact (hm.sep _ _ _ h hb).2 (.inr ⟨p',hk⟩)
    ·rcases hb with hb | ⟨p',hb⟩
     ·exact Bi (hkb b (.inl hb)) hL.size
     ·by_cases hpp:p'=p
      ·have hb:some b0=some b:=by simpa only [blk',Aj hpp] using hb
       cases hb
       exact hb1
      ·have hb:blk p'=some b:=by simpa only [blk',Ae hpp] using hb
       exact Bi (hkb b (.inr ⟨p',hb⟩)) hL.size
   refine n9B (by rcases y5D ho with ⟨t,e⟩ | ⟨t,n,ps,e⟩ <;> rw [e] <;> rfl) ?_
   suffices hgoal:Nxt T ops pi st op keep z E0 (listed.setIfInBounds (pi.getD p 0) true) (a.put (op p).dst x0) E1.w by
    rcases hrun with hrun | ⟨hrun,rfl⟩
    ·rw [hrun,Oper.uponIn_value]; exact hgoal
    ·rw [hrun,Oper.uponIn_skip]; exact hgoal
   have hin:pi.getD p 0<listed.size:=by rw [D.lsize]; exact (Cb.1 (C.at hp)).1
   have hself:(listed.setIfInBounds (pi.getD p 0) true).getD (pi.getD p 0) false=true:=by
    generalize pi.getD p 0=i at hin ⊢
    simp [hin]
   have hset:∀ p',p'<pi.length→(listed.setIfInBounds (pi.getD p 0) true).getD (pi.getD p' 0) false=true→p'=p∨listed.getD (pi.getD p' 0) false=true:=by
    intro p' hp' h
    by_cases he:p'=p
    ·exact .inl he
    ·rw [getD_set_ne false (fun e=>he (C.inj hp hp' e).symm)] at h; exact .inr h
   have htm:∀ u y,(a.put (op p).dst x0).tmps[u]? = some y→(d=u∧y=x0)∨(d≠u∧a.tmps[u]? = some y):=by
    intro u y hy
    rw [hd] at hy
    simp only [Act.put,Array.getElem?_setIfInBounds] at hy
    by_cases hdt:d=u
    ·rw [Aj hdt] at hy
     by_cases hlt:d<a.tmps.size
     ·rw [Aj hlt] at hy; cases hy
      exact .inl ⟨hdt,rfl⟩
     ·rw [Ae hlt] at hy; cases hy
    ·rw [Ae hdt] at hy
     exact .inr ⟨hdt,hy⟩
   have D':t4A T ops pi st op keep z E0 (listed.setIfInBounds (pi.getD p 0) true) q blk' E1 (a.put (op p).dst x0):=by
    refine ⟨D.le,fun p' hp' hc'=>getD_set_true (D.done p' hp' hc'),fun p' h1 h2 hc' hl' => ?_,fun p' b hb => ?_,fun p1 p2 b h h' => ?_,?_,D.len,?_,hEN.trans D.next,hM,fun u y hy hcond => ?_,fun u y hy hcond => ?_,D.later.trans (hL.weaker fun _ h=>.inl h),fun k o hk hl' e he hb => ?_,?_⟩
    ·rcases hset p' h2 hl' with rfl | hl'
     ·exact ⟨ha,b0,Aj rfl⟩
     ·obtain ⟨g1,b,g2⟩:=D.ahead p' h1 h2 hc' hl'
      refine ⟨g1,b,?_⟩
      have:p'≠p:=fun e=>by rw [e,hnone] at g2; cases g2
      simpa only [blk',Ae this] using g2
    ·by_cases hpp:p'=p
     ·have hb:some b0=some b:=by simpa only [blk',Aj hpp] using hb
      cases hb
      subst hpp
      refine ⟨hqp,hp,hself,ha,d,isP,oc,m,vs0,hd,ho,hmb,hrow,hrep,fun hk=>absurd (hkb _ (.inl hk)) (Nat.not_lt.2 hb0),hnro,fun y hy => ?_⟩
      rcases htm d y hy with ⟨_,h⟩ | ⟨h,_⟩
      ·rw [h]; exact hvm
      ·exact absurd rfl h
     ·have hb:blk p'=some b:=by simpa only [blk',Ae hpp] using hb
      obtain ⟨g1,g2,g3,g4,d2,t2,i2,m2,vs2,g6,g5,g7,g8,g9,g10,g11,g12⟩:=D.pend p' b hb
      refine ⟨g1,g2,getD_set_true g3,g4,d2,t2,i2,m2,vs2,g6,g5,g7,(hL.heapKeep b (.inr ⟨p',hb⟩)).trans g8,c5A.later hL (fun b' hb'=>by rw [g7] at hb'; cases hb'; exact hL.heapKeep b (.inr ⟨p',hb⟩)) g9,g10,fun hr=>(hL.roN b hr).elim g11 fun hn=>hn (.inr ⟨p',hb⟩),fun y hy => ?_⟩
      rcases htm d2 y hy with ⟨h,_⟩ | ⟨_,h⟩
      ·exact absurd (C.dst g2 hp g6 (by rw [h] at hd; exact hd)) hpp
      ·exact g12 y h
    ·by_cases h1:p1=p <;> by_cases h2:p2=p
     ·rw [h1,h2]
     ·have h:some b0=some b:=by simpa only [blk',Aj h1] using h
      cases h
      have h':blk p2=some b0:=by simpa only [blk',Ae h2] using h'
      exact absurd (hkb _ (.inr ⟨p2,h'⟩)) (Nat.not_lt.2 hb0)
     ·have h':some b0=some b:=by simpa only [blk',Aj h2] using h'
      cases h'
      have h:blk p1=some b0:=by simpa only [blk',Ae h1] using h
      exact absurd (hkb _ (.inr ⟨p1,h⟩)) (Nat.not_lt.2 hb0)
     ·have h:blk p1=some b:=by simpa only [blk',Ae h1] using h
      have h':blk p2=some b:=by simpa only [blk',Ae h2] using h'
      exact D.inj _ _ _ h h'
    ·rw [hd]; simp only [Act.put,Array.size_setIfInBounds]; exact D.size
    ·rw [hd]; exact D.defers
    ·rcases htm u y hy with ⟨h,_⟩ | ⟨h,hy'⟩
     ·have:=(hcond p hp (by rw [hd,h])).2
      simp [blk'] at this
     ·refine a3A.later hL (D.slots u y hy' fun p' hp' hd' => ?_)
      obtain ⟨c1,c2⟩:=hcond p' hp' hd'
      have hpp:p'≠p:=fun e=>h (by rw [e,hd] at hd'; cases hd'; rfl)
      exact ⟨(hset p' hp' c1).resolve_left hpp,by simpa only [blk',Ae hpp] using c2⟩
    ·rcases htm u y hy with ⟨h,_⟩ | ⟨h,hy'⟩
     ·have:=hcond p hp (by rw [hd,h])
      rw [hself] at this; cases this
     ·refine a3A.later hL (D.early u y hy' fun p' hp' hd' => ?_)
      have h:=hcond p' hp' hd'
      cases hl:listed.getD (pi.getD p' 0) false with
      | false=>rfl
      | true=>rw [getD_set_true hl] at h; cases h
    ·by_cases hij:pi.getD p 0=k
     ·subst hij
      rw [C.at hp] at hk; cases hk
      exact getD_set_true (hedge e he hb)
     ·rw [getD_set_ne false hij] at hl'
      exact getD_set_true (D.closed k o hk hl' e he hb)
    ·rw [Array.size_setIfInBounds]; exact D.lsize
   exact C.nxt D'
theorem Cx.all {ro:Option Nat} {Q:Exit→Act→World→Prop} (hQ:∀ a' E',Rel keep z (st pi.length) a' E'→Later keep E0 E'→Q .normal a' E'.w):∀ (fuel:Nat) (listed:Array Bool) (a:Act) (w:World),
  (List.range ops.size).countP (fun i=>!listed.getD i false)≤fuel→Nxt T ops pi st op keep z E0 listed a w→wpAnyIn (fw ro) 0 P .any ops Q fuel listed a w:=by
 have hr:=C.reg
 simp only [s1B,Ac] at hr
 have done:∀ (listed:Array Bool) (a:Act) (w:World),Nxt T ops pi st op keep z E0 listed a w→Region.ready .any ops listed=[]→Q .normal a w:=by
  intro listed a w hn he
  obtain ⟨q,blk,E,rfl,D,hmax⟩:=hn
  have hall:∀ i,i<ops.size→listed.getD i false=true:=by
   intro i
   induction i using Nat.strongRecOn with
   | ind i ih =>
    intro hi
    cases hl:listed.getD i false with
    | true=>rfl
    | false =>
     have:i∈Region.ready .any ops listed:=by
      rw [mem_ready]
      refine ⟨?_,_,Array.getElem?_eq_getElem hi,fun e he hb => ?_⟩
      ·have hin:i<listed.size:=by rw [D.lsize]; exact hi
       simp [hin] at hl ⊢
       exact hl
      ·have:=d5F _ 0 hr.1.2 i _ (by simp [hi]) e he hb
       exact ih e.on (by omega) (by omega)
     rw [he] at this; cases this
  have hp:∀ p,p<pi.length→listed.getD (pi.getD p 0) false=true:=fun p hp=>hall _ (Cb.1 (C.at hp)).1
  have hq:q=pi.length:=by
   rcases Dh q pi.length with h | h
   ·have:=(hmax h).2; rw [hp q h] at this; cases this
   ·exact Nat.le_antisymm D.le h
  subst hq
  have hb:∀ p,blk p=none:=fun p=>by
   cases hb:blk p with
   | none=>rfl
   | some b=>obtain ⟨h1,h2,_⟩:=D.pend p b hb; omega
  exact hQ a E ⟨D.size,⟨by rw [C.len (Ay _),D.len,D.size],fun t x hx=>D.slots t x hx fun p h _=>⟨hp p h,hb p⟩⟩,D.mems.weaker fun _ h=>.inl h,D.next,D.defers.later D.later⟩ D.later
 intro fuel
 induction fuel with
 | zero =>
  intro listed a w hc hn
  have he:Region.ready .any ops listed=[]:=by
   cases hrd:Region.ready .any ops listed with
   | nil=>rfl
   | cons i r =>
    have hi:i∈Region.ready .any ops listed:=by rw [hrd]; exact Ax
    rw [mem_ready] at hi
    obtain ⟨h0,o,ho,_⟩:=hi
    have hlt:=(Cb.1 ho).1
    obtain ⟨q,blk,E,rfl,D,hmax⟩:=hn
    have:0<(List.range ops.size).countP (fun i=>!listed.getD i false):=by
     rw [List.countP_pos_iff]
     refine ⟨i,List.mem_range.2 hlt,?_⟩
     have hin:i<listed.size:=by rw [D.lsize]; exact hlt
     simp [hin] at h0 ⊢
     exact h0
    omega
  exact ⟨he,done listed a w hn he⟩
 | succ fuel ih =>
  intro listed a w hc hn
  refine ⟨done listed a w hn,fun i hi => ?_⟩
  rw [mem_ready] at hi
  obtain ⟨h0,o,ho,hedge⟩:=hi
  have hlt:=(Cb.1 ho).1
  obtain ⟨p,hp,rfl⟩:=C.pos hlt
  rw [C.at hp] at ho; cases ho
  obtain ⟨q,blk,E,rfl,D,hmax⟩:=hn
  have hin:pi.getD p 0<listed.size:=by rw [D.lsize]; exact hlt
  have hun:listed.getD (pi.getD p 0) false=false:=by
   generalize pi.getD p 0=i at h0 hin ⊢
   simp [hin] at h0 ⊢
   exact h0
  refine wpOpIn_mono (fun a' w' h'=>ih _ a' w' ?_ h') (C.one D hmax hp hun hedge)
  have key:∀ (l:List Nat) (i:Nat),l.countP (fun j=>!(listed.setIfInBounds i true).getD j false)≤l.countP (fun j=>!listed.getD j false):=fun l i =>
   List.countP_mono_left fun j _ hj=>by
    simp only [Ew] at hj ⊢
    cases hl:listed.getD j false with
    | false=>rfl
    | true=>rw [getD_set_true hl] at hj; cases hj
  have key2:∀ (l:List Nat),pi.getD p 0∈l→l.countP (fun j=>!(listed.setIfInBounds (pi.getD p 0) true).getD j false)<l.countP (fun j=>!listed.getD j false):=by
   intro l
   induction l with
   | nil=>intro h; cases h
   | cons j l ihl =>
    intro h
    rw [List.countP_cons,List.countP_cons]
    have hk:=key l (pi.getD p 0)
    by_cases hj:pi.getD p 0=j
    ·subst hj
     have:(listed.setIfInBounds (pi.getD p 0) true).getD (pi.getD p 0) false=true:=by
      generalize pi.getD p 0=i at hin ⊢
      simp [hin]
     rw [this,hun]
     simp only [Cc,Cf,Fb,Cr,Ep]
     omega
    ·have:=ihl ((Bf.1 h).resolve_left hj)
     rw [getD_set_ne false hj]
     omega
  have:=key2 _ (List.mem_range.2 hlt)
  omega
end
section
variable {P:Program} {T:Tab} (hT:TabOK P T) (hP:P.follows .mixedOrders=true) {H:Handler} (hH:HOK P H) {keep:Nat→Prop} {z:Nat}
include hT hP hH
theorem e3F {ro:Option Nat} {R:Type} {id:Nat} {ops:Array Oper} {pi:List Nat} {S:St} {K:St→Option R} {r:R} {a:Act} {E:Env} {Q:Exit→Act→World→Prop} (h:s4B T H ops pi S K=some r) (hR:Rel keep z S a E)
  (hK:∀ S' a' E',Rel keep z S' a' E'→Later keep E E'→K S'=some r→Q .normal a' E'.w):(Code.region id ops true).wpIn (fw ro) 0 P Q a E.w:=by
 unfold s4B at h
 rcases c2A h with ⟨hreg,h⟩ | ⟨_,h⟩
 ·obtain ⟨st,val,op,ent,ht,h0,hk⟩:=x2D hH.nat pi [] 0 S h
  have C:Cx P T H ops pi st val op ent:=⟨hT,hH,hreg,ht⟩
  have hfalse:∀ i,(Array.replicate ops.size false).getD i false=false:=fun i=>by
   rw [Array.getD_eq_getD_getElem?,Array.getElem?_replicate]
   split <;> rfl
  refine wpIn_region_any hP ?_
  let E1:Env:={ E with w:={ E.w with drawn:=E.w.drawn+1 } }
  have hL:Later keep E E1:=⟨fun _ h=>h,fun _ h=>.inl h,fun _ _=>rfl,Ay _,Ay _,fun _ _=>rfl,fun _ _=>rfl,e1A.refl _⟩
  have hM:a4A E1 keep S.objs:=⟨fun id oc h=>⟨(hR.mems.rep _ _ h).1,c5A.later hL (fun _ _=>rfl) (hR.mems.rep _ _ h).2⟩,hR.mems.sep,hR.mems.inj,hR.mems.rob,hR.mems.kb,hR.mems.gl.later hL⟩
  refine C.all (keep:=keep) (z:=z) (E0:=E) (fun a' E' h1 h2=>hK _ a' E' h1 h2 hk) _ _ _ _ (Dz List.countP_le_length (by simp)) ?_
  refine C.nxt (E:=E1) (q:=0) (blk:=fun _=>none) ⟨De _,fun p hp=>absurd hp (Ch _),fun p _ _ _ hl => ?_,fun p b hb=>(nomatch hb),fun p p' b hb=>(nomatch hb),hR.size,by rw [h0,hR.slots.1,hR.size],hR.defers,by rw [h0]; exact hR.next,?_,fun t x hx hcond => ?_,fun t x hx hcond=>by rw [h0]; exact a3A.later hL (hR.slots.2 t x hx),hL,fun i o ho hl => ?_,by simp⟩
  ·rw [hfalse] at hl; cases hl
  ·rw [h0]; exact hM.weaker fun b hb=>hb.elim (fun h=>h) fun ⟨_,h⟩=>(nomatch h)
  ·have hst:b1A (st pi.length).tmps t=b1A (st 0).tmps t:=C.stay (De _) (De _) (Ay _) fun p' _ hp' hd=>by
    have:=(hcond p' hp' hd).1; rw [hfalse] at this; cases this
   rw [hst,h0]
   exact a3A.later hL (hR.slots.2 t x hx)
  ·rw [hfalse] at hl; cases hl
 ·cases h
end
end Go.Rx
namespace Go.Rx
variable [Inhabited GW]
section
variable {P:Program} {b:Frame} {a:Act} {k:List Go.Item} {cs:List Frame} {w:World} {F:Fence} {n:Nat} {Q:Exit→Act→World→Prop}
theorem d0C {c:Code}:step P (lone (b.atR a (.code (.scope c)::k)) cs w)=.next (lone (b.atR a (.code c::.inScope c::k)) cs w):=
 step_lone_go (by simp [stepG,stepG.exec,Frame.atR])
theorem e4F {c:Code}:step P (lone (b.atR a (.inScope c::k)) cs w)=.next (lone (b.atR a k) cs w):=
 step_lone_go (by simp [stepG,stepG.exec,Frame.atR])
theorem e5F {c:Code} (h:c.wpIn F n P (Exit.noGoto Q) a w):(Code.scope c).wpIn F n P Q a w:=by
 intro b k cs hro hb hr
 have h0:(lone (b.atR a (.code (.scope c)::k)) cs w).fenced P F:=fenced_calm hb hr rfl
 obtain ⟨e,a₁,w₁,hq,harr⟩:=h b (.inScope c::k) cs hro hb hr
 cases e with
 | normal=>exact ⟨.normal,a₁,w₁,hq,.head h0 d0C (StepsIn.trans harr (.one (fenced_calm hb hr rfl) e4F))⟩
 | exit id=>exact ⟨.exit id,a₁,w₁,hq,.of_steps (.one h0 d0C) ⟨fun k' hk=>harr.1 k' (by simp [exitTo,hk]),fun hr hk=>harr.2 hr (by simp [exitTo,hk])⟩⟩
 | goto l=>exact hq.elim
 | ret=>exact ⟨_,a₁,w₁,hq,.of_steps (.one h0 d0C) harr⟩
 | panic ch=>exact ⟨_,a₁,w₁,hq,.of_steps (.one h0 d0C) harr⟩
 | outgrown=>exact ⟨_,a₁,w₁,hq,.of_steps (.one h0 d0C) harr⟩
end
section
variable {P:Program} {T:Tab} (hT:TabOK P T) {H:Handler} (hH:HOK P H) {keep:Nat→Prop} {z:Nat}
theorem y7D:∀ (l:List AV) (i:Nat),b1A (d5A (fun _=>AV.top) l) i=.top
 | [],i=>by cases i <;> rfl
 | _::l,0=>rfl
 | _::l,i+1=>y7D l i
theorem y8D {α:Type} (f:α→AV):∀ (l:List α),(d5A f l).length=l.length
 | []=>rfl
 | _::l=>by simp only [d5A,Be,y8D f l]
theorem v3A {base S':St} {sp:u4A} {p:PT sp} {a a':Act} {E E':Env} (hR:Rel keep z base a E) (hR':Rel keep z S' a' E') (hL:Later keep E E') (h:d0A base S'.tmps sp S'.objs=some p) :
  ∃ E'',E''.w=E'.w∧Later keep E E''∧Rel keep z (c0A base sp p (d3A base)) a' E'':=by
 have hbN:base.next=E.N:=hR.next.symm
 have hle:base.next≤E'.N:=by rw [hbN]; exact hL.N
 have T0:Two base.next keep E' { E' with N:=base.next } S'.objs (d3A base).objs:=
  ⟨rfl,rfl,fun _ _=>rfl,Ay _,hR'.mems,
   ⟨fun id oc h=>(nomatch h),fun id oc b h=>(nomatch h),fun id id' oc oc' b h=>(nomatch h),hR'.mems.rob,hR'.mems.kb,hR'.mems.gl.mono fun _ hg=>⟨hR'.mems.gl.ro hg,rfl⟩⟩,
   fun b _ hx=>by obtain ⟨id,oc,h,_⟩:=hx; cases h⟩
 have hsl:e0A { E' with N:=base.next } (d3A base).tmps a'.tmps:=by
  refine ⟨?_,fun i v hv => ?_⟩
  ·show (d5A (fun _=>AV.top) base.tmps).length=_
   rw [y8D,hR.slots.1,hR.size,hR'.size]
  ·show a3A _ (b1A (d5A (fun _=>AV.top) base.tmps) i) v
   rw [y7D]; exact trivial
 obtain ⟨B',hw,hLB,hM,hS,hN⟩:=v2A (base:=base) sp T0 rfl hR'.slots hsl h
 refine ⟨B',hw,⟨fun b hb=>hLB.ro b (hL.ro b hb),fun b hb=>(hLB.roN b hb).elim (hL.roN b) .inr,fun id hi => ?_,?_,?_,fun b hb => ?_,fun b hb => ?_,by rw [hw]; exact hL.out⟩,⟨hR'.size,hS,hM,hN,by
  obtain ⟨Ds,e,hn,h⟩:=hR'.defers
  exact ⟨Ds,e,hn,fun D hD=>⟨(h D hD).1,hLB.ro D (h D hD).2.1,by rw [hw]; exact (h D hD).2.2⟩⟩⟩⟩
 ·rw [hLB.M id (by show id<base.next; rw [hbN]; exact hi)]; exact hL.M id hi
 ·have:=hLB.N
  rw [←hbN]; exact this
 ·rw [hw]; exact hL.size
 ·rw [hw]; exact hL.heapRo b hb
 ·rw [hw]; exact hL.heapKeep b hb
theorem y7A {R:Type} {base S':St} {a a':Act} {E E':Env} (hR:Rel keep z base a E) (hR':Rel keep z S' a' E') (hL:Later keep E E') {K:Ex→St→Option R} {e:Ex}:∀ (ex:p0A) {j:JT ex},
  j7A base ex e S'=some j→∃ E'' S'',E''.w=E'.w∧Later keep E E''∧Rel keep z S'' a' E''∧s9A base ex j K=K e S''
 | [],j,h=>by cases h
 | [x],j,h=>by
  simp only [j7A] at h
  split at h
  ·rename_i he
   obtain ⟨E'',h1,h2,h3⟩:=v3A hR hR' hL h
   exact ⟨E'',_,h1,h2,h3,by rw [s9A,he]⟩
  ·cases h
 | x::y::r,j,h=>by
  simp only [j7A] at h
  split at h
  ·rename_i he
   obtain ⟨p,hp,rfl⟩:=b4A h
   obtain ⟨E'',h1,h2,h3⟩:=v3A hR hR' hL hp
   exact ⟨E'',_,h1,h2,h3,by rw [s9A,he]⟩
  ·obtain ⟨p,hp,rfl⟩:=b4A h
   obtain ⟨E'',S'',h1,h2,h3,h4⟩:=y7A hR hR' hL (y::r) hp
   exact ⟨E'',S'',h1,h2,h3,by rw [s9A]; exact h4⟩
theorem y8A {ro:Option Nat} {R:Type} {ex:Option p0A} {S:St} {K:Ex→St→Option R} {r:R} {run:∀ {R':Type},(Ex→St→Option R')→Option R'} {c:Code} {a:Act} {E:Env} {Q:Exit→Act→World→Prop}
  (h:joinK ex S K run=some r) (hR:Rel keep z S a E)
  (hrun:∀ {R':Type} (K':Ex→St→Option R') (r':R'),run K'=some r'→(∀ e S' a' E',Rel keep z S' a' E'→Later keep E E'→K' e S'=some r'→Q e.toExit a' E'.w)→c.wpIn (fw ro) 0 P Q a E.w)
  (hK:∀ e S' a' E',Rel keep z S' a' E'→Later keep E E'→K e S'=some r→Q e.toExit a' E'.w):c.wpIn (fw ro) 0 P Q a E.w:=by
 cases ex with
 | none=>exact hrun K r h hK
 | some ex =>
  simp only [joinK] at h
  rw [Option.bind_eq_some_iff] at h
  obtain ⟨j,hj,h⟩:=h
  refine hrun _ j hj fun e S' a' E' hR' hL' hp => ?_
  obtain ⟨E'',S'',hw,hL,hR'',he⟩:=y7A (K:=K) hR hR' hL' ex hp
  rw [←hw]
  exact hK e S'' a' E'' hR'' hL (by rw [←he]; exact h)
omit [Inhabited GW] in
theorem q1B {X R:Type} {f:X→Option (X⊕R)} {x:X} {r:R} (h:iter f x=some r):∃ n,j3A f n x=some r:=by
 unfold iter at h
 split at h
 ·rename_i hex
  cases h
  exact ⟨_,Ei (Ei hex)⟩
 ·cases h
end
end Go.Rx
namespace Go.Rx
variable [Inhabited GW]
open Go.RowKit
def p7C:Obj→Bool
 | .cells ..=>true
 | .stringIter ..=>true
 | .map ..=>true
 | .mapIter ..=>true
 | _=>false
structure Shut (E E':Env):Prop where
 ro:E'.ro=E.ro
 M:E'.M=E.M
 N:E'.N=E.N
 size:E'.w.heap.size=E.w.heap.size
 held:∀ (b:Nat) o,E.w.heap[b]? = some o→p7C o=true→E'.w.heap[b]? = some o
 out:e1A E.w E'.w
theorem Shut.cells {E E':Env} (h:Shut E E') (b:Nat) (vs e c) (hb:E.w.heap[b]? = some (.cells vs e c)):E'.w.heap[b]? = some (.cells vs e c):=h.held b _ hb rfl
theorem Shut.refl (E:Env):Shut E E:=⟨rfl,rfl,rfl,rfl,fun _ _ h _=>h,e1A.refl _⟩
theorem Shut.trans {A B C:Env} (h:Shut A B) (k:Shut B C):Shut A C:=⟨k.ro.trans h.ro,k.M.trans h.M,k.N.trans h.N,k.size.trans h.size,fun b o hb ho=>k.held b o (h.held b o hb ho) ho,h.out.trans k.out⟩
theorem Shut.cell {E E':Env} (h:Shut E E') {a:Addr} {v:Value} (hc:E.w.cell? a=some v):E'.w.cell? a=some v:=by
 unfold World.cell? at hc ⊢
 cases ho:E.w.heap[a.block]? with
 | none=>simp [ho] at hc
 | some o =>
  cases o with
  | cells vs e c=>rw [ho] at hc; rw [h.cells _ _ _ _ ho]; exact hc
  | _=>simp [ho] at hc
section
variable {E E':Env} (h:Shut E E')
include h
theorem a2A.shut:∀ {t:Ty} {x:den t} {vs:List Value},a2A E t x vs→a2A E' t x vs
 | .int _,_,_,r=>r
 | .bool,_,_,r=>r
 | .str,_,_,r=>r
 | .sl t,l,vs,r=>by
  obtain ⟨a,cap,e,hc,r⟩:=r
  refine ⟨a,cap,e,hc,r.imp id ?_⟩
  rintro ⟨b,o,e,hb,r⟩
  refine ⟨b,o,e,by rw [h.ro]; exact hb,fun i hi => ?_⟩
  obtain ⟨cs,r1,r2⟩:=r i hi
  exact ⟨cs,a2A.shut r1,fun j v hj=>h.cell (r2 j v hj)⟩
 | .own _,_,_,r=>r
 | .unit,_,_,r=>r
 | .pair a b,x,vs,r=>by
  obtain ⟨u,v,e,r1,r2⟩:=r
  exact ⟨u,v,e,a2A.shut r1,a2A.shut r2⟩
 | .arr n t,l,vs,r=>by
  obtain ⟨e1,e2,r⟩:=r
  refine ⟨e1,e2,fun i hi => ?_⟩
  obtain ⟨cs,r1,r2⟩:=r i hi
  exact ⟨cs,a2A.shut r1,r2⟩
theorem u8A.shut {t:Ty} {l:List (den t)} {b o:Nat} (r:u8A E t l b o):u8A E' t l b o:=fun i hi=>by
 obtain ⟨cs,r1,r2⟩:=r i hi
 exact ⟨cs,a2A.shut h r1,fun j v hj=>h.cell (r2 j v hj)⟩
mutual
theorem a6A.shut:∀ {a:AV} {vs:List Value},a6A E a vs→a6A E' a vs
 | .top,_,r=>r
 | .int ..,_,r=>r
 | .bool _,_,r=>r
 | .str _,_,r=>r
 | .sl _ _,_,r=>a2A.shut h r
 | .slv _ _,_,r=>⟨a2A.shut h r.1,r.2⟩
 | .nilsl,_,r=>r
 | .arr _ _ _,_,r=>a2A.shut h r
 | .oref id rg,vs,r=>by
  unfold a6A at r ⊢
  rw [h.M,h.N]; exact r
 | .ptr id off,vs,r=>by
  unfold a6A at r ⊢
  rw [h.M,h.N]; exact r
 | .ptrA id off n t i sub,vs,r=>by
  unfold a6A at r ⊢
  rw [h.M,h.N]; exact r
 | .ptrO id i sub,vs,r=>by
  unfold a6A at r ⊢
  rw [h.M,h.N]; exact r
 | .ptrR t l i sub,vs,r=>by
  obtain ⟨hi,b,o,hb,e,r⟩:=r
  exact ⟨hi,b,o,by rw [h.ro]; exact hb,e,u8A.shut h r⟩
 | .bsl id off n t lo len,vs,r=>by
  unfold a6A at r ⊢
  rw [h.M,h.N]; exact r
 | .yld _,_,r=>r
 | .gptr _,_,r=>r
 | .cbox c,vs,r=>by
  obtain ⟨b,v,e,h1,h2,h3,h4,h5⟩:=r
  exact ⟨b,v,e,h1,by rw [h.ro]; exact h2,h.held _ _ h3 rfl,h4,a6A.shut h5⟩
 | .nilp,_,r=>r
 | .func f first caps,vs,r=>by
  obtain ⟨A,B,e,r1,r2⟩:=r
  exact ⟨A,B,e,e5A.shut r1,e5A.shut r2⟩
 | .nilf,_,r=>r
 | .mapr id,vs,r=>by
  unfold a6A at r ⊢
  rw [h.M,h.N]; exact r
 | .nilm,_,r=>r
 | .iface t ag cs,vs,r=>by
  obtain ⟨ws,r1,r2⟩:=r
  exact ⟨ws,e5A.shut r1,r2⟩
 | .nili,_,r=>r
 | .agg _,_,r=>r
 | .tup _,_,r=>r
theorem e5A.shut:∀ {l:List AV} {vs:List Value},e5A E l vs→e5A E' l vs
 | [],_,r=>r
 | a::l,vs,r=>by
  obtain ⟨v,s,e,hc,r1,r2⟩:=r
  exact ⟨v,s,e,hc,a6A.shut r1,e5A.shut r2⟩
end
theorem b0A.shut:∀ {l:List AV} {vs:List Value},b0A E l vs→b0A E' l vs
 | [],_,r=>r
 | a::l,vs,r=>by
  obtain ⟨v,s,e,r1,r2⟩:=r
  exact ⟨v,s,e,a6A.shut h r1,b0A.shut r2⟩
theorem d6A.shut {a:AV} {v:Value} (r:d6A E a v):d6A E' a v:=by
 cases a
 case agg cs=>obtain ⟨vs,e,r⟩:=r; exact ⟨vs,e,b0A.shut h r⟩
 all_goals first | exact r | exact a6A.shut h r
theorem j2A.shut:∀ {l:List AV} {vs:List Value},j2A E l vs→j2A E' l vs
 | [],_,r=>r
 | a::l,vs,r=>by
  obtain ⟨v,s,e,r1,r2⟩:=r
  exact ⟨v,s,e,d6A.shut h r1,j2A.shut r2⟩
theorem a3A.shut {a:AV} {v:Value} (r:a3A E a v):a3A E' a v:=by
 cases ht:a.isTup with
 | true =>
  cases a <;> first
   | (obtain ⟨vs,e,r⟩:=r; exact ⟨vs,e,j2A.shut h r⟩)
   | cases ht
 | false=>exact (a3A.iff_V ht).2 (d6A.shut h ((a3A.iff_V ht).1 r))
theorem b5A.shut {kt vt:Bool×Ty}:∀ {es:List (Nat×(den kt.2×den vt.2))} {ms:List MapEntry},b5A E kt vt es ms→b5A E' kt vt es ms
 | [],_,r=>r
 | p::es,_,r=>by
  obtain ⟨e,s,h0,h1,⟨c1,h2,h3⟩,⟨c2,h4,h5⟩,h6⟩:=r
  exact ⟨e,s,h0,h1,⟨c1,a2A.shut h h2,h3⟩,⟨c2,a2A.shut h h4,h5⟩,b5A.shut h6⟩
theorem c5A.shut {m:MI} {oc:OC} (r:c5A E m oc):c5A E' m oc:=by
 cases oc with
 | box cs =>
  obtain ⟨b,vs,e,h1,h2,h3⟩:=r
  exact ⟨b,vs,e,h1,h.cells _ _ _ _ h2,b0A.shut h h3⟩
 | arr t l =>
  obtain ⟨h1,h2,h3⟩:=r
  refine ⟨h1,h2,?_⟩
  cases hb:m.blk with
  | none=>rw [hb] at h3; exact h3
  | some b =>
   rw [hb] at h3
   obtain ⟨vs,e,h4,h5,h6,h7⟩:=h3
   refine ⟨vs,e,h.cells _ _ _ _ h4,h5,h6,fun i hi => ?_⟩
   obtain ⟨cs,r1,r2⟩:=h7 i hi
   exact ⟨cs,a2A.shut h r1,r2⟩
 | map es=>obtain ⟨b,ms,ck,h1,h2,h3,h4⟩:=r; exact ⟨b,ms,ck,h1,h.held _ _ h2 rfl,h3,e5A.shut h h4⟩
 | iter s pos=>obtain ⟨b,h1,h2⟩:=r; exact ⟨b,h1,h.held _ _ h2 rfl⟩
 | mp kt vt es ck=>obtain ⟨b,ms,h1,h2,h3⟩:=r; exact ⟨b,ms,h1,h.held _ _ h2 rfl,b5A.shut h h3⟩
 | mit j since seen last=>obtain ⟨b,mb,h1,h2,h3,h4⟩:=r; exact ⟨b,mb,h1,by rw [h.N]; exact h2,by rw [h.M]; exact h3,h.held _ _ h4 rfl⟩
 | hol t l g cs far =>
  obtain ⟨h1,h2,b,vs,e,h3,h4,h5,h6,h7,h8,h9,us,h10,h11⟩:=r
  refine ⟨h1,h2,b,vs,e,h3,h.cells _ _ _ _ h4,h5,h6,h7,h8,fun i hi hg => ?_,us,b0A.shut h h10,h11⟩
  obtain ⟨us,r1,r2⟩:=h9 i hi hg
  exact ⟨us,a2A.shut h r1,r2⟩
theorem k2A.shut (r:k2A E):k2A E':=r.cells fun g hg=>⟨by rw [h.ro]; exact r.ro hg,fun _ _ _ hv=>h.cells _ _ _ _ hv⟩
theorem a4A.shut {keep:Nat→Prop} {objs:Objs} (r:a4A E keep objs):a4A E' keep objs:=
 ⟨fun id oc hl=>by rw [h.N,h.M]; exact ⟨(r.rep id oc hl).1,c5A.shut h (r.rep id oc hl).2⟩,fun id oc b hl hb=>by rw [h.ro]; rw [h.M] at hb; exact r.sep id oc b hl hb,
  fun id id' oc oc' b hl hl' hb hb'=>by rw [h.M] at hb hb'; exact r.inj id id' oc oc' b hl hl' hb hb',fun b hb=>by rw [h.ro] at hb; rw [h.size]; exact r.rob b hb,fun b hb=>by rw [h.size]; exact r.kb b hb,r.gl.shut h⟩
end
theorem Shut.putObj {E:Env} {D:Nat} {ds:Option (List Deferred)} (o':Obj) (h:E.w.heap[D]? = some (.deferred ds)):Shut E { E with w:=E.w.putObj D o' }:=
 ⟨rfl,rfl,rfl,by simp [World.putObj],fun b o hb ho=>by
  by_cases hD:b=D
  ·subst hD; rw [h] at hb; cases hb; cases ho
  ·show (E.w.putObj D o').heap[b]? = _
   rw [World.putObj_heap_other hD]; exact hb,⟨rfl,rfl⟩⟩
section
variable {P:Program} {T:Tab} (hT:TabOK P T)
include hT
theorem o1B {ro:Option Nat} {ops:Array Oper} {keep:Nat→Prop} {E:Env} {rest:List Oper} {Q:Exit→Act→World→Prop}:∀ (l:List Oper) {S S':St} {a:Act},b3B T l S=some S'→e0A E S.tmps a.tmps→a4A E keep S.objs →
  (∀ a',e0A E S'.tmps a'.tmps→a'.tmps.size=a.tmps.size→a'.defers=a.defers→wpListIn (fw ro) 0 P ops Q rest a' E.w)→wpListIn (fw ro) 0 P ops Q (l++rest) a E.w
 | [],S,S',a,h,hs,hm,hK=>by
  cases h
  exact hK a hs rfl rfl
 | o::l,S,S',a,h,hs,hm,hK=>by
  simp only [b3B] at h
  split at h
  ·cases h
  rename_i hg
  have step:∀ v,(m9A T S o.op).gives v→b3B T l (S.put o.dst v)=some S'→wpListIn (fw ro) 0 P ops Q (o::l++rest) a E.w:=by
   intro v hv h
   obtain ⟨x,hrun,hr⟩:=d5D hT hs hm o hv
   simp only [List.cons_append,wpListIn,Region.wanted,hg,Ep]
   refine n9B (w5D hv) ?_
   rw [hrun,Oper.uponIn_value]
   have hob:(S.put o.dst v).objs=S.objs:=by cases o.dst <;> rfl
   refine o1B l h (c2C hs o.dst hr) (by rw [hob]; exact hm) fun a' h1 h2 h3=>hK a' h1 (h2.trans ?_) (h3.trans ?_)
   ·cases o.dst with
    | none=>rfl
    | some d=>simp [Act.put]
   ·cases o.dst <;> rfl
  split at h
  ·rename_i v hv
   exact step v (by rw [hv]; rfl) h
  ·rename_i b v hv
   rcases c2A h with ⟨hb,h⟩ | ⟨_,h⟩
   ·exact step v (by rw [hv]; exact ⟨hb,rfl⟩) h
   ·cases h
  ·cases h
omit hT
theorem g0D {E:Env}:∀ {l:List AV} {vs:List Value},c9A E l vs→e0A E l vs.toArray
 | [],_,r=>by
  rw [show _=[] from r]
  exact ⟨rfl,fun i v hv=>by simp at hv⟩
 | a::l,vs,r=>by
  obtain ⟨v,s,rfl,r1,r2⟩:=r
  obtain ⟨h1,h2⟩:=g0D r2
  refine ⟨by simp only [Be,Cy] at h1 ⊢; omega,fun i u hu => ?_⟩
  cases i with
  | zero=>simp at hu; subst hu; exact r1
  | succ i=>exact h2 i u (by simpa using hu)
theorem g1D {E:Env}:∀ (n:Nat),c9A E (p8A (.tup []) n) (List.replicate n undef)
 | 0=>rfl
 | n+1=>⟨undef,_,rfl,⟨[],rfl,rfl⟩,g1D n⟩
theorem y9D (v:AV):∀ n,(p8A v n).length=n
 | 0=>rfl
 | n+1=>by simp only [p8A,Be,y9D v n]
theorem z0D:∀ (n i:Nat),b1A (p8A .top n) i=.top
 | 0,i=>by cases i <;> rfl
 | n+1,0=>rfl
 | n+1,i+1=>z0D n i
theorem e6F {E:Env} {m y:Nat} {i:Int} {vals:Array Value} (hs:vals.size=m+4) (h0:∃ x,vals[0]? = some x∧a3A E (.yld y) x) (h1:∃ x,vals[1]? = some x∧a3A E (.ptr 0 0) x) (h3:∃ x,vals[3]? = some x∧a3A E (.int .i64 i) x) :
  e0A E (s1A m y i) vals:=by
 refine ⟨by simp only [s1A,Be,y9D]; omega,fun k v hv => ?_⟩
 match k with
 | 0=>obtain ⟨x,e,r⟩:=h0; rw [hv] at e; cases e; exact r
 | 1=>obtain ⟨x,e,r⟩:=h1; rw [hv] at e; cases e; exact r
 | 2=>exact trivial
 | 3=>obtain ⟨x,e,r⟩:=h3; rw [hv] at e; cases e; exact r
 | k+4 =>
  have:b1A (s1A m y i) (k+4)=.top:=z0D m k
  rw [this]; exact trivial
theorem t3B {ix:List Nat} {x:Option St} {vs:List AV} (h:tk ix x=some vs):∃ S,x=some S∧d5A (b1A S.tmps) ix=vs:=by
 unfold tk at h
 obtain ⟨S,h1,h2⟩:=b4A h
 exact ⟨S,h1,h2⟩
def i7A (bs b:Nat) (W:World):Env:=⟨W,glb,fun id=>if id=0 then ⟨some bs,0,0,0,0⟩ else ⟨some b,0,0,0,0⟩,2⟩
structure t4B (bs b:Nat) (W:World):Prop where
 gl:k2A (i7A bs b W)
 rob:∀ g,glb g→g<W.heap.size
structure d1C (n bs b:Nat) (W:World) (l:List Int):Prop where
 box:∃ e o,W.heap[bs]? = some (.cells #[.slice (some ⟨b,o,none⟩) n n] e (0,0))∧(0=n∨o=0)
 arr:∃ vs e,W.heap[b]? = some (.cells vs e (0,0))∧∀ E:Env,b0A E [.arr n (.int .i64) l] vs.toList
 ne:bs≠b
 ns:¬ glb bs∧¬ glb b
 gl:t4B bs b W
theorem d1C.mems {n bs b:Nat} {W:World} {l:List Int} (h:d1C n bs b W l):a4A (i7A bs b W) (fun _=>False) (c6C n l):=by
 obtain ⟨⟨e,o,h1,h2⟩,⟨vs,e',h3,h4⟩,hne,hns,hgl⟩:=h
 have hl:∀ id oc,a1A id (c6C n l)=some oc→(id=0∧oc=.box [.bsl 1 0 n (.int .i64) 0 n])∨(id=1∧oc=.box [.arr n (.int .i64) l]):=by
  intro id oc hl
  simp only [c6C,a1A,cond_eq_ite] at hl
  split at hl
  ·rename_i hb
   cases hl
   exact .inl ⟨(Ag hb).symm,rfl⟩
  ·split at hl
   ·rename_i hb
    cases hl
    exact .inr ⟨(Ag hb).symm,rfl⟩
   ·cases hl
 refine ⟨fun id oc hlk => ?_,fun id oc b' hlk hb=>⟨fun h => ?_,fun h=>h⟩,fun id id' oc oc' b' hlk hlk' hb hb' => ?_,hgl.rob,fun b h=>h.elim,hgl.gl⟩
 rotate_left
 ·rcases hl id oc hlk with ⟨rfl,rfl⟩ | ⟨rfl,rfl⟩
  ·have hb:some bs=some b':=hb
   cases hb; exact hns.1 h
  ·have hb:some b=some b':=hb
   cases hb; exact hns.2 h
 rotate_left
 ·rcases hl id oc hlk with ⟨rfl,rfl⟩ | ⟨rfl,rfl⟩
  ·refine ⟨show 0<2 by omega,bs,_,e,rfl,h1,?_⟩
   refine ⟨[_],[],rfl,⟨show 1<2 by omega,by omega,b,o,rfl,by simp,?_⟩,rfl⟩
   rcases h2 with h2 | h2
   ·exact .inl h2
   ·right; rw [h2]; simp
  ·exact ⟨show 1<2 by omega,b,vs,e',rfl,h3,h4 _⟩
 ·rcases hl id oc hlk with ⟨rfl,rfl⟩ | ⟨rfl,rfl⟩ <;> rcases hl id' oc' hlk' with ⟨rfl,rfl⟩ | ⟨rfl,rfl⟩
  ·rfl
  ·have e1:some bs=some b':=hb
   have e2:some b=some b':=hb'
   cases e1; cases e2; exact absurd rfl hne
  ·have e1:some b=some b':=hb
   have e2:some bs=some b':=hb'
   cases e1; cases e2; exact absurd rfl hne
  ·rfl
theorem g2D {bs b:Nat} {E:Env} {keep:Nat→Prop} {objs:Objs} (h:a4A E keep objs):t4B bs b E.w:=⟨h.gl.mono fun _ hg=>⟨hg,rfl⟩,fun _ hg=>h.rob _ (h.gl.ro hg)⟩
theorem p8C {bs b:Nat} {W:World} (h:t4B bs b W):a4A (i7A bs b W) (fun _=>False) []:=
 ⟨fun id oc h=>(nomatch h),fun id oc b h=>(nomatch h),fun id id' oc oc' b h=>(nomatch h),h.rob,fun b h=>h.elim,h.gl⟩
theorem e7F {f n:Nat} {D:c7C} (hT:TabOK P T) (hB:f3D P T f n D) (hn0:0<n) (hn:n≤1000000) {y bs b:Nat} {X:Type} (Inv:Nat→X→World→Prop) (Done:World→Prop) {W1:World} {x0:X}
  (hround:∀ i x W,Inv (i+1) x W→i<n→∃ l,d1C n bs b W l∧∃ fn tmps assign body,(Instr.yield y #[.int .i64 (i:Int),.int .i64 (l.getD i 0)]).run P W=.ok (.round y fn tmps assign body) W ∧
   RoundIn (fw none) 0 P y fn tmps assign body W fun e W'=>(e=.returned (.bool true)∧∃ x',Inv i x' W')∨(e=.returned (.bool false)∧Done W'))
  (hg1:∀ i x W,Inv i x W→t4B bs b W) (hg2:∀ W,Done W→t4B bs b W) (h0:Inv n x0 W1):CallsIn (fw none) 0 P f #[.func (.yield y) #[] #[],.pointer (some ⟨bs,0,none⟩)] W1 fun e W'=>∃ v,e=.returned v∧((∃ x,Inv 0 x W')∨Done W'):=by
 obtain ⟨F,hf,_,hnt,hres,hbody⟩:=hB.fn
 refine callsIn_of_wp hf hbody trivial ?_
 have hend:∀ (a:Act) (W:World),a.defers=[]→((∃ x,Inv 0 x W)∨Done W)→a.defers=[]∧∃ v,(results F a.tmps).run P W=.ok v W∧∃ v',Ending.returned v=.returned v'∧((∃ x,Inv 0 x W)∨Done W):=by
  intro a W hd h
  refine ⟨hd,.tuple #[],?_,_,rfl,h⟩
  simp [results,hres]
 unfold c7C.body
 have hE:∀ (E:Env) (W W':World) ,a3A (i7A bs b W) (.ptr 0 0) (.pointer (some ⟨bs,0,none⟩)):=fun _ W _=>⟨show 0<2 by omega,bs,rfl,rfl⟩
 have hold:∀ (W:World) (S:St) (a:Act) (vs:List AV) (i:Int),e0A (i7A bs b W) S.tmps a.tmps→d5A (b1A S.tmps) [0,1,3]=[.yld y,.ptr 0 0,.int .i64 i]→a.tmps.size=D.m+4→∀ W',e0A (i7A bs b W') (s1A D.m y i) a.tmps:=by
  intro W S a vs i hs hm hsz W'
  simp only [d5A,List.cons.injEq,and_true] at hm
  obtain ⟨e0,e1,e3⟩:=hm
  obtain ⟨x0,g0,r0⟩:=d9B hs (s:=0) (by rw [e0]; nofun)
  obtain ⟨x1,g1,r1⟩:=d9B hs (s:=1) (by rw [e1]; nofun)
  obtain ⟨x3,g3,r3⟩:=d9B hs (s:=3) (by rw [e3]; nofun)
  rw [e0] at r0; rw [e1] at r1; rw [e3] at r3
  exact e6F hsz ⟨x0,g0,r0⟩ ⟨x1,g1,r1⟩ ⟨x3,g3,r3⟩
 obtain ⟨l0,hA0⟩:∃ l,d1C n bs b W1 l:=by
  obtain ⟨n',rfl⟩:∃ n',n=n'+1:=⟨n - 1,by omega⟩
  obtain ⟨l0,hA0,_⟩:=hround n' x0 W1 h0 (Cg _)
  exact ⟨l0,hA0⟩
 obtain ⟨S0,hp0,hm0⟩:=t3B (hB.h0 y l0)
 refine wpIn_seq (wpIn_region_list ?_)
 rw [show D.o0.toArray.toList=D.o0++[] by simp]
 refine o1B (E:=i7A bs b W1) hT D.o0 hp0 ?_ hA0.mems fun a1 hs1 hz1 hd1 => ?_
 ·have:e0A (i7A bs b W1) ([.yld y,.ptr 0 0]++p8A (.tup []) (D.m+2)) (#[.func (.yield y) #[] #[],.pointer (some ⟨bs,0,none⟩)]++Array.replicate (F.ntmps - 2) undef):=by
   have:=g0D (E:=i7A bs b W1) (l:=.yld y::.ptr 0 0::p8A (.tup []) (D.m+2)) (vs:=.func (.yield y) #[] #[]::.pointer (some ⟨bs,0,none⟩)::List.replicate (D.m+2) undef)
    ⟨_,_,rfl,rfl,_,_,rfl,hE (i7A bs b W1) W1 W1,g1D _⟩
   rw [hnt]
   refine cast ?_ this
   congr 1
   apply Array.toList_inj.1
   simp
  exact this
 have hz1:a1.tmps.size=D.m+4:=by rw [hz1]; simp; omega
 refine wpIn_block (wpIn_loop_rounds (n+1) ?_)
 have key:∀ (k:Nat) (x:X) (W:World) (a:Act),k≤n→Inv k x W→a.tmps.size=D.m+4→a.defers=[]→e0A (i7A bs b W) (s1A D.m y ((k:Int) - 1)) a.tmps →
   Code.roundsIn (fw none) 0 P (.seq (.seq (.region D.j1 D.o1.toArray false) (.cond (.tmp D.c1) .skip (.exit D.i0)))
    (.seq (.block D.i1 (.seq (.region D.j3 (D.pre++D.oc::D.post).toArray false) (.cond (.tmp D.c3) .ret .skip))) (.region D.j2 D.o2.toArray false)))
    (Exit.inBlock D.i0 (bodyPost P F fun e W'=>∃ v,e=.returned v∧((∃ x,Inv 0 x W')∨Done W'))) (k+1) a W:=by
  intro k
  induction k with
  | zero =>
   intro x W a hk hI hsz hd hs
   rw [roundsIn_succ]
   obtain ⟨S1,hp1,hm1⟩:=t3B (hB.h1 y (((0:Nat):Int) - 1))
   refine wpIn_seq (wpIn_seq (wpIn_region_list ?_))
   rw [show D.o1.toArray.toList=D.o1++[] by simp]
   refine o1B (E:=i7A bs b W) hT (keep:=fun _=>False) D.o1 hp1 hs (p8C (hg1 _ _ _ hI)) fun a1 hs1 hz1 hd1 => ?_
   simp only [d5A,List.cons.injEq,and_true] at hm1
   have hc:=b6A hs1 (.tmp D.c1)
   have hc':a3A (i7A bs b W) (.bool (decide (((0:Nat):Int) - 1≥0))) (a1.eval (.tmp D.c1)):=by rw [←hm1.2.2.2]; exact hc
   have hv:=hc'.bool_inv
   refine wpIn_cond_false (by rw [hv]; rfl) (wpIn_exit ?_)
   simp only [Exit.then,Exit.inBlock,Ep]
   exact hend a1 W (hd1.trans hd) (.inl ⟨x,hI⟩)
  | succ k ih =>
   intro x W a hk hI hsz hd hs
   rw [roundsIn_succ]
   obtain ⟨l,hA,fnr,tmpsr,assign,body,hy,hR⟩:=hround k x W hI (by omega)
   have ei:(((k+1:Nat):Int) - 1)=(k:Int):=by omega
   rw [ei] at hs
   obtain ⟨S1,hp1,hm1⟩:=t3B (hB.h1 y (k:Int))
   refine wpIn_seq (wpIn_seq (wpIn_region_list ?_))
   rw [show D.o1.toArray.toList=D.o1++[] by simp]
   refine o1B (E:=i7A bs b W) hT (keep:=fun _=>False) D.o1 hp1 hs (p8C (hg1 _ _ _ hI)) fun a1 hs1 hz1 hd1 => ?_
   have hm1':=hm1
   simp only [d5A,List.cons.injEq,and_true] at hm1
   have hc:=b6A hs1 (.tmp D.c1)
   have hc':a3A (i7A bs b W) (.bool (decide ((k:Int)≥0))) (a1.eval (.tmp D.c1)):=by rw [←hm1.2.2.2]; exact hc
   have hv:=hc'.bool_inv
   have hsz1:a1.tmps.size=D.m+4:=hz1.trans hsz
   refine wpIn_cond_true (by rw [hv,Ah (Int.natCast_nonneg k)]) (wpIn_skip ?_)
   have hs1':e0A (i7A bs b W) (s1A D.m y (k:Int)) a1.tmps:=hold W S1 a1 [] (k:Int) hs1 (by simp only [d5A,List.cons.injEq,and_true]; exact ⟨hm1.1,hm1.2.1,hm1.2.2.1⟩) hsz1 W
   refine wpIn_seq (wpIn_block (wpIn_seq (wpIn_region_list ?_)))
   have h3:=hB.h3 y l (k:Int)
   rw [show a7A (k:Int) n=true by simp [a7A]; omega] at h3
   simp only [Al] at h3
   obtain ⟨S3,hp3,hm3⟩:=t3B h3
   show wpListIn (fw none) 0 P _ _ (D.pre++D.oc::D.post) a1 (i7A bs b W).w
   refine o1B (E:=i7A bs b W) hT D.pre hp3 hs1' hA.mems fun a3 hs3 hz3 hd3 => ?_
   have hsz3:a3.tmps.size=D.m+4:=hz3.trans hsz1
   simp only [d5A,List.cons.injEq,and_true] at hm3
   obtain ⟨m0,m1,m2,m3,m4,m5⟩:=hm3
   have hs3':∀ W',e0A (i7A bs b W') (s1A D.m y (k:Int)) a3.tmps:=hold W S3 a3 [] (k:Int) hs3 (by simp only [d5A,List.cons.injEq,and_true]; exact ⟨m0,m1,m2⟩) hsz3
   obtain ⟨hg,hdst,hop⟩:=hB.hc
   have vf:a3.eval (.tmp D.fr)=.func (.yield y) #[] #[]:=by
    have:=b6A hs3 (.tmp D.fr)
    have h':a3A (i7A bs b W) (.yld y) (a3.eval (.tmp D.fr)):=by rw [←m3]; exact this
    have h':[a3.eval (.tmp D.fr)]=[Value.func (.yield y) #[] #[]]:=h'
    simpa using h'
   have va:a3.eval (.tmp D.ax)=.int .i64 (k:Int):=by
    have h':a3A (i7A bs b W) (.int .i64 (k:Int)) (a3.eval (.tmp D.ax)):=by rw [←m4]; exact b6A hs3 (.tmp D.ax)
    exact h'.int_inv
   have vb:a3.eval (.tmp D.bx)=.int .i64 (l.getD k 0):=by
    have h':a3A (i7A bs b W) (.int .i64 (l.getD (k:Int).toNat 0)) (a3.eval (.tmp D.bx)):=by rw [←m5]; exact b6A hs3 (.tmp D.bx)
    exact h'.int_inv
   simp only [wpListIn,Region.wanted,hg,Ep]
   refine n9B (by rw [hop]; rfl) ?_
   have hrun:(execOp a3.eval D.oc).run P W=.ok (.round y fnr tmpsr assign body) W:=by
    simp only [execOp,hop,resolve,vf,Deferred.ofValue,Sem.run_bind,Sem.run_pure,Result.andThen_ok,invoke,List.map_toArray,List.map_cons,List.map_nil,va,vb,Array.empty_append]
    exact hy
   show Oper.uponIn _ _ _ _ _ _ _ ((execOp a3.eval D.oc).run P W)
   rw [hrun,Oper.uponIn_round]
   refine ⟨fun h=>(nomatch h),hR.mono fun e W' hcase => ?_⟩
   have after:∀ (Q:Exit→Act→World→Prop) (r:Bool),t4B bs b W'→(∀ a4:Act,a4.tmps.size=D.m+4→a4.defers=[]→e0A (i7A bs b W') (s1A D.m y (k:Int)) a4.tmps→a4.eval (.tmp D.c3)=.bool (!r)→Q .normal a4 W') →
     wpListIn (fw none) 0 P (D.pre++D.oc::D.post).toArray Q D.post (a3.put D.oc.dst (.bool r)) W':=by
    intro Q r hgw hQ
    obtain ⟨S4,hp4,hm4⟩:=t3B (hB.h4 y (k:Int) r)
    have hs4:e0A (i7A bs b W') (g2A (s1A D.m y (k:Int)) D.d (.bool r)) (a3.put D.oc.dst (.bool r)).tmps:=by
     rw [hdst]
     exact c2C (S:=⟨s1A D.m y (k:Int),[],0⟩) (hs3' W') (some D.d) (show a3A _ (.bool r) (.bool r) from rfl)
    rw [show D.post=D.post++[] by simp]
    refine o1B (E:=i7A bs b W') hT (keep:=fun _=>False) D.post hp4 hs4 (p8C hgw) fun a4 g1 g2 g3 => ?_
    have hsz4:a4.tmps.size=D.m+4:=by rw [g2,hdst]; simp [Act.put,hsz3]
    have hd4:a4.defers=[]:=by rw [g3,hdst]; exact (hd3.trans (hd1.trans hd))
    have hm4':=hm4
    simp only [d5A,List.cons.injEq,and_true] at hm4
    refine hQ a4 hsz4 hd4 (hold W' S4 a4 [] (k:Int) g1 (by simp only [d5A,List.cons.injEq,and_true]; exact ⟨hm4.1,hm4.2.1,hm4.2.2.1⟩) hsz4 W') ?_
    have h':a3A (i7A bs b W') (.bool (!r)) (a4.eval (.tmp D.c3)):=by rw [←hm4.2.2.2]; exact b6A g1 (.tmp D.c3)
    exact h'.bool_inv
   rcases hcase with ⟨rfl,x',hI'⟩ | ⟨rfl,hD⟩
   ·refine after _ true (hg1 _ _ _ hI') fun a4 g1 g2 g3 g4 => ?_
    refine wpIn_cond_false (by rw [g4]; rfl) (wpIn_skip ?_)
    simp only [Exit.inBlock,Exit.then]
    refine wpIn_region_list ?_
    rw [show D.o2.toArray.toList=D.o2++[] by simp]
    obtain ⟨S5,hp5,hm5⟩:=t3B (hB.h2 y (k:Int))
    refine o1B (E:=i7A bs b W') hT (keep:=fun _=>False) D.o2 hp5 g3 (p8C (hg1 _ _ _ hI')) fun a5 f1 f2 f3 => ?_
    have hw:IntKind.i64.wrap ((k:Int) - 1)=(k:Int) - 1:=IntWalk.i64_in _ (by omega)
    rw [hw] at hm5
    exact ih x' W' a5 (by omega) hI' (f2.trans g1) (f3.trans g2) (hold W' S5 a5 [] _ f1 hm5 (f2.trans g1) W')
   ·refine after _ false (hg2 _ hD) fun a4 g1 g2 g3 g4 => ?_
    refine wpIn_cond_true (by rw [g4]; rfl) (wpIn_ret ?_)
    simp only [Exit.inBlock,Exit.then]
    exact hend a4 W' g2 (.inr hD)
 exact key n x0 W1 a1 (Ay _) h0 hz1 hd1 (hold W1 S0 a1 [] ((n:Int) - 1) hs1 hm0 hz1 W1)
theorem Shut.put {E:Env} {D:Nat} {o:Obj} (o':Obj) (h:E.w.heap[D]? = some o) (ho:p7C o=false):Shut E { E with w:=E.w.putObj D o' }:=
 ⟨rfl,rfl,rfl,by simp [World.putObj],fun b o1 hb ho1=>by
  by_cases hD:b=D
  ·subst hD; rw [h] at hb; cases hb; rw [ho] at ho1; cases ho1
  ·show (E.w.putObj D o').heap[b]? = _
   rw [World.putObj_heap_other hD]; exact hb,⟨rfl,rfl⟩⟩
theorem Shut.slots {E E':Env} (h:Shut E E') {tmps:List AV} {vals:Array Value} (hs:e0A E tmps vals):e0A E' tmps vals:=⟨hs.1,fun i v hv=>a3A.shut h (hs.2 i v hv)⟩
theorem Later.put {keep:Nat→Prop} {E:Env} {D:Nat} (o':Obj) (h1:¬ keep D) (h2:¬ E.ro D):Later keep E { E with w:=E.w.putObj D o' }:=
 ⟨fun _ h=>h,fun _ h=>.inl h,fun _ _=>rfl,Ay _,by simp [World.putObj],fun b hb=>World.putObj_heap_other (fun e=>h2 (e▸hb)),fun b hb=>World.putObj_heap_other (fun e=>h1 (e▸hb)),⟨rfl,rfl⟩⟩
theorem Later.put2 {keep:Nat→Prop} {E E':Env} (h:Later keep E E') {D:Nat} (o':Obj) (h1:¬ keep D) (h2:¬ E.ro D):Later keep E { E' with w:=E'.w.putObj D o' }:=
 ⟨h.ro,h.roN,h.M,h.N,by simp [World.putObj]; exact h.size,fun b hb=>(World.putObj_heap_other (show b≠D from fun e=>h2 (e▸hb))).trans (h.heapRo b hb),fun b hb=>(World.putObj_heap_other (show b≠D from fun e=>h1 (e▸hb))).trans (h.heapKeep b hb),h.out⟩
theorem z1D {E:Env} {keep:Nat→Prop} {objs:Objs} (hm:a4A E keep objs) {id b:Nat} {oc:OC} (hl:a1A id objs=some oc) (hb:(E.M id).blk=some b):∃ o,E.w.heap[b]? = some o∧p7C o=true:=by
 have h:=(hm.rep id oc hl).2
 cases oc with
 | box cs=>obtain ⟨b',vs,e,h1,h2,_⟩:=h; rw [hb] at h1; cases h1; exact ⟨_,h2,rfl⟩
 | arr t l =>
  obtain ⟨_,_,h3⟩:=h
  rw [hb] at h3
  obtain ⟨vs,e,h4,_⟩:=h3
  exact ⟨_,h4,rfl⟩
 | map es=>obtain ⟨b',ms,ck,h1,h2,_⟩:=h; rw [hb] at h1; cases h1; exact ⟨_,h2,rfl⟩
 | iter s pos=>obtain ⟨b',h1,h2⟩:=h; rw [hb] at h1; cases h1; exact ⟨_,h2,rfl⟩
 | mp kt vt es ck=>obtain ⟨b',ms,h1,h2,_⟩:=h; rw [hb] at h1; cases h1; exact ⟨_,h2,rfl⟩
 | mit j since seen last=>obtain ⟨b',mb,h1,_,_,h2⟩:=h; rw [hb] at h1; cases h1; exact ⟨_,h2,rfl⟩
 | hol t l g cs far=>obtain ⟨_,_,b',vs,e,h1,h2,_⟩:=h; rw [hb] at h1; cases h1; exact ⟨_,h2,rfl⟩
theorem e8F {E:Env} {k1:Nat→Prop} {D:Nat} {objs:Objs} (hm:a4A E (fun b=>k1 b∨b=D) objs):a4A E k1 objs:=hm.weaker fun _ h=>.inl h
theorem e9F {E:Env} {keep:Nat→Prop} {objs:Objs} (hm:a4A E keep objs) {D:Nat} {o:Obj} (h:E.w.heap[D]? = some o) (ho:p7C o=false):a4A E (fun b=>keep b∨b=D) objs:=
 ⟨hm.rep,fun id oc b hl hb=>⟨(hm.sep id oc b hl hb).1,fun hk=>hk.elim (hm.sep id oc b hl hb).2 fun e=>by
  subst e
  obtain ⟨o2,hc,h2⟩:=z1D hm hl hb
  rw [h] at hc; cases hc; rw [ho] at h2; cases h2⟩,hm.inj,hm.rob,fun b hb=>hb.elim (hm.kb b) fun e=>e▸(Cb.1 h).1,hm.gl⟩
theorem z2D:∀ {l m:List Nat},l.map (fun D=>({ target:=.collected D,args := #[] }:Deferred))=m.map (fun D=>{ target:=.collected D,args := #[] })→l=m
 | [],[],_=>rfl
 | [],_::_,h=>nomatch h
 | _::_,[],h=>nomatch h
 | p::l,q::m,h=>by
  injection h with h1 h2
  injection h1 with h3 _
  injection h3 with h4
  rw [h4,z2D h2]
def z3D (P:Program) (z:Nat) (c:Code) (run:∀ {R':Type},St→(Ex→St→Option R')→Option R'):Prop:=
 ∀ (ro:Option Nat) (keep:Nat→Prop) {R':Type} {S':St} {K':Ex→St→Option R'} {r':R'} {a':Act} {E':Env} {Q':Exit→Act→World→Prop},run S' K'=some r'→Rel keep z S' a' E' →
  (∀ e S'' a'' E'',Rel keep z S'' a'' E''→Later keep E' E''→K' e S''=some r'→Q' e.toExit a'' E''.w)→c.wpIn (fw ro) 0 P Q' a' E'.w
theorem f0F {H:Handler} (hH:HOK P H) {keep:Nat→Prop} {z:Nat} {g:Operand} {ps:Array Tmp} {x y:Code} {S:St} {R:Type} {K:Ex→St→Option R} {r:R} {a:Act} {E:Env} {Q:Exit→Act→World→Prop} {sp:u4A} {ex:p0A} {bk:Bk}
  {as bo:∀ {R':Type},St→(Ex→St→Option R')→Option R'} (hA:z3D P z x as) (hBo:z3D P z y bo) (hps:ps.size=2) (hbk:k7C H S (ev S g)=some bk)
  (h:s6B { S with objs:=b9A bk.sid S.objs } bk ps.toList sp ex as bo K=some r) (hR:Rel keep z S a E)
  (hK:∀ e S' a' E',Rel keep z S' a' E'→Later keep E E'→K e S'=some r→Q e.toExit a' E'.w):(Code.rangeFunc g ps x y).wpIn (fw none) 0 P Q a E.w:=by
 unfold k7C at hbk
 split at hbk
 case h_2=>cases hbk
 rename_i f sid hev
 split at hbk
 case h_2=>cases hbk
 rename_i n hback
 split at hbk
 case h_2=>cases hbk
 rename_i bid n' len hlook
 rcases c2A hbk with ⟨hcond,hbk⟩ | ⟨_,hbk⟩
 case inr=>cases hbk
 simp only [Ac,Ew] at hcond
 obtain ⟨⟨hc1,hc2⟩,hc3⟩:=hcond
 have hc1:=Ag hc1
 have hc2:=Ag hc2
 have hc3:bid≠sid:=fun e=>by rw [e,Cn] at hc3; cases hc3
 subst hc1; subst hc2
 cases hbk
 obtain ⟨hn0,hn,D,T',hT',hB⟩:=hH.back f _ hback
 obtain ⟨F,hf,hname,hnt,hres,hbody⟩:=hB.fn
 have hg:=b6A hR.slots g
 rw [hev] at hg
 obtain ⟨A,B,e0,r1,r2⟩:=(show a6A E (.func f [] [.ptr sid 0]) [a.eval g] from hg)
 have e0:a.eval g=.func (.func f) A B:=by simpa using e0
 have hAe:A = #[]:=Array.toList_inj.1 (show A.toList=[] from r1)
 obtain ⟨v,rv,hBl,_,⟨hsidN,bs,hbs,hv⟩,hrv⟩:=r2
 have hv:v=.pointer (some ⟨bs,0,none⟩):=by simpa using hv
 have hrv:rv=[]:=hrv
 subst hv; subst hrv; subst hAe
 have hBe:B = #[.pointer (some ⟨bs,0,none⟩)]:=Array.toList_inj.1 hBl
 subst hBe
 obtain ⟨_,bs',vs,te,hbs',hheap,hcells⟩:=hR.mems.rep sid _ hlook
 rw [hbs] at hbs'; cases hbs'
 obtain ⟨u,ru,hvs,⟨hbidN,_,b,o,hblkb,hu,ho⟩,hru⟩:=hcells
 have hru:ru=[]:=hru
 subst hru; subst hu
 have hvs:vs = #[.slice (some ⟨b,o,none⟩) len (len - 0)]:=Array.toList_inj.1 (by rw [hvs]; rfl)
 subst hvs
 have ho:0=len∨o=0:=ho.imp id fun h=>by simpa using h
 have hcallf:∀ args w,(callFunc f args).run P w=.ok (.enter f args) w:=fun args w=>by
  simp only [callFunc,Sem.run_bind,run_program,Result.andThen_ok,hf,hname,hbody,Option.isNone_some,Cf,Fb,Sem.run_pure]
 refine wpIn_rangeFunc ?_
 intro fn hfn
 obtain ⟨rec,hrec⟩:∃ rec:LoopState→Option Code→Loop,rec=fun st pe=>{ state:=st,pending:=pe,fn,tmps:=a.tmps,params:=ps,assign:=x,body:=y,defers:=E.w.heap.size }:=⟨_,rfl⟩
 obtain ⟨W1,hW1⟩:∃ W1,(E.w.alloc (.deferred (some []))).alloc (.loop (rec .ready none))=W1:=⟨_,rfl⟩
 have hsz1:W1.heap.size=E.w.heap.size+2:=by rw [←hW1]; simp
 have hL1:W1.heap[E.w.heap.size+1]? = some (.loop (rec .ready none)):=by
  rw [←hW1]; have:=World.alloc_heap_new (E.w.alloc (.deferred (some []))) (.loop (rec .ready none)); rwa [World.size_alloc] at this
 have hK1:W1.heap[E.w.heap.size]? = some (.deferred (some [])):=by
  rw [←hW1]; exact (Below.heap_alloc _ _ _ (by simp)).trans (World.alloc_heap_new E.w _)
 have hold1:∀ b,b<E.w.heap.size→W1.heap[b]? = E.w.heap[b]? := fun b hb=>by
  rw [←hW1]; exact (Below.heap_alloc _ _ b (by simp; omega)).trans (Below.heap_alloc _ _ b hb)
 have hq1:e1A E.w W1:=by rw [←hW1]; exact ⟨rfl,rfl⟩
 refine ⟨E.w.heap.size+1,[{ target:=.collected E.w.heap.size,args := #[] }],W1,{ target:=.fn (.func f) #[.pointer (some ⟨bs,0,none⟩)],args := #[.func (.yield (E.w.heap.size+1)) #[] #[]] },W1,f,
  #[.func (.yield (E.w.heap.size+1)) #[] #[],.pointer (some ⟨bs,0,none⟩)],W1,?_,?_,fun _ _=>trivial,?_,fun h=>(nomatch h),?_⟩
 ·rw [←hW1,hrec]; exact run_enterLoop_outer _ _ _ _ _
 ·simp only [resolve,e0]
  simp [go_sem]
 ·simp only [invoke]
  exact hcallf _ _
 generalize hlc:E.w.heap.size+1=lc at *
 let keep1:Nat→Prop:=fun b=>keep b∨b=bs
 let keep2:Nat→Prop:=fun b=>keep1 b∨b=lc
 let E1:Env:={ E with w:=W1,ro:=fun b=>E.ro b∨b=E.w.heap.size }
 let S0:St:={ S with objs:=b9A sid S.objs }
 let a0:Act:={ a with defers:=[] }
 have hbsz:bs<E.w.heap.size:=(Cb.1 hheap).1
 have hL01:Later keep E E1:=⟨fun _ h=>.inl h,fun c hc=>hc.elim .inl fun e=>.inr fun hk=>by have:=hR.mems.kb c hk; omega,fun _ _=>rfl,Ay _,by show _≤W1.heap.size; omega,
  fun c hc=>hold1 c (hR.mems.rob c hc),fun c hc=>hold1 c (hR.mems.kb c hc),hq1⟩
 have hlive:∀ id oc c,a1A id S.objs=some oc→(E.M id).blk=some c→c<E.w.heap.size:=fun id oc c hl hc=>by
  obtain ⟨_,h,_⟩:=z1D hR.mems hl hc
  exact (Cb.1 h).1
 have hlook0:∀ id oc,a1A id S0.objs=some oc→id≠sid∧a1A id S.objs=some oc:=fun id oc hl=>by
  have:a1A id (b9A sid S.objs)=some oc:=hl
  rw [i3A] at this
  split at this
  ·cases this
  ·rename_i hne; exact ⟨hne,this⟩
 have hM1:a4A E1 keep1 S0.objs:=by
  refine ⟨fun id oc hl => ?_,fun id oc c hl hc => ?_,fun id id' oc oc' c hl hl' hc hc'=>hR.mems.inj _ _ _ _ _ (hlook0 _ _ hl).2 (hlook0 _ _ hl').2 hc hc',fun c hc => ?_,fun c hc => ?_,hR.mems.gl.later hL01⟩
  ·obtain ⟨h1,h2⟩:=hR.mems.rep id oc (hlook0 _ _ hl).2
   exact ⟨h1,c5A.later hL01 (fun c hc=>hold1 c (hlive _ _ _ (hlook0 _ _ hl).2 hc)) h2⟩
  ·have hlt:=hlive _ _ _ (hlook0 _ _ hl).2 hc
   refine ⟨fun hro=>hro.elim (hR.mems.sep _ _ _ (hlook0 _ _ hl).2 hc).1 fun e=>by omega,fun hk=>hk.elim (hR.mems.sep _ _ _ (hlook0 _ _ hl).2 hc).2 fun e => ?_⟩
   subst e
   exact (hlook0 _ _ hl).1 (hR.mems.inj _ _ _ _ _ (hlook0 _ _ hl).2 hlook hc hbs)
  ·show c<W1.heap.size
   rcases hc with hc | hc
   ·have:=hR.mems.rob c hc; omega
   ·omega
  ·show c<W1.heap.size
   rcases hc with hc | hc
   ·have:=hR.mems.kb c hc; omega
   ·omega
 have hR1:Rel keep1 z S0 a0 E1:=⟨hR.size,hR.slots.later hL01,hM1,hR.next,u9A.nil _ _⟩
 have hlcK:¬ keep1 lc:=fun h=>by
  rcases h with h | h
  ·have:=hR.mems.kb lc h; omega
  ·omega
 have hlcR:¬ E1.ro lc:=fun h=>by
  rcases h with h | h
  ·have:=hR.mems.rob lc h; omega
  ·omega
 have hM2:a4A E1 keep2 S0.objs:=e9F hM1 hL1 rfl
 have hR2:Rel keep2 z S0 a0 E1:=⟨hR.size,hR1.slots,hM2,hR.next,u9A.nil _ _⟩
 have hfin:∀ (Ef:Env) (So:Objs) (nx:Nat),Later keep1 E1 Ef→a4A Ef keep1 So→Ef.N=nx→∀ tm,Rel keep z ((⟨tm,So,nx⟩:St).tm S.tmps) { a with defers:=[{ target:=.collected E.w.heap.size,args := #[] }]++a.defers } Ef∧Later keep E Ef:=by
  intro Ef So nx hLf hMf hNf tm
  have hLk:Later keep E1 Ef:=hLf.weaker fun _ h=>.inl h
  have hLE:=hL01.trans hLk
  refine ⟨⟨hR.size,hR.slots.later hLE,hMf.weaker fun _ h=>.inl h,hNf,?_⟩,hLE⟩
  obtain ⟨Ds,hds,hnd,hD⟩:=hR.defers.later hLE
  obtain ⟨Ds',hds',hnd',hD'⟩:=hR.defers
  have heq:Ds=Ds':=by
   rw [hds] at hds'
   exact z2D hds'
  subst heq
  refine ⟨E.w.heap.size::Ds,by rw [List.map_cons,←hds]; rfl,List.nodup_cons.2 ⟨fun hm => ?_,hnd⟩,fun D' hD2 => ?_⟩
  ·have:=hR.mems.rob _ (hD' _ hm).2.1; omega
  ·rcases Bf.1 hD2 with rfl | hm
   ·exact ⟨fun hk=>by have:=hR.mems.kb _ hk; omega,hLf.ro _ (.inr rfl),(hLf.heapRo _ (.inr rfl)).trans hK1⟩
   ·exact hD _ hm
 unfold s6B at h
 obtain ⟨p0,hp0,h⟩:=m0A h
 rw [Option.bind_eq_some_iff] at h
 obtain ⟨rr,hrr,h⟩:=h
 obtain ⟨E2,hw2,hLE2,hR2'⟩:=v3A hR2 hR2 (Later.refl _ _) hp0
 let Inv:Nat→PT sp→World→Prop:=fun i p W =>
  a4C (fun i p=>oB (a3C (c0A S0 sp p (d3A S0)) ⟨sid,bid,len⟩ i) fun v =>
   as ((c0A S0 sp p (d3A S0)).tm (s5B S0.tmps ps.toList [.int .i64 (i:Int),v])) fun e S1=>match e with
    | .normal=>bo S1 fun e S'=>match e with
     | .normal=>oM (d0A S0 S'.tmps sp S'.objs) Sum.inl
     | e=>oM (j7A S0 ex e S') Sum.inr
    | _=>none) i p=some rr∧∃ Ek,Ek.w=W∧Later keep2 E1 Ek∧a4A Ek keep2 (c0A S0 sp p (d3A S0)).objs∧Ek.N=(c0A S0 sp p (d3A S0)).next
 let Done:World→Prop:=fun W=>∃ (e:Ex) (jc:Code) (S':St) (Ek:Env),(e=.ret∧jc=.ret∨∃ id,e=.exit id∧jc=.exit id)∧W.heap[lc]? = some (.loop (rec .done (some jc))) ∧
  Ek.w=W∧Later keep1 E1 Ek∧a4A Ek keep1 S'.objs∧Ek.N=S'.next∧K e (S'.tm S.tmps)=some r
 have hround:∀ i p W,Inv (i+1) p W→i<len→∃ l,d1C len bs b W l∧∃ fn tmps assign body,(Instr.yield lc #[.int .i64 (i:Int),.int .i64 (l.getD i 0)]).run P W=.ok (.round lc fn tmps assign body) W ∧
   RoundIn (fw none) 0 P lc fn tmps assign body W fun e W'=>(e=.returned (.bool true)∧∃ p',Inv i p' W')∨(e=.returned (.bool false)∧Done W'):=by
  intro i p W hI hi
  obtain ⟨hbn,Ek,hwk,hLk,hMk,hNk⟩:=hI
  subst hwk
  simp only [a4C] at hbn
  obtain ⟨res,hres,hcont⟩:∃ res,(oB (a3C (c0A S0 sp p (d3A S0)) ⟨sid,bid,len⟩ i) fun v =>
   as ((c0A S0 sp p (d3A S0)).tm (s5B S0.tmps ps.toList [.int .i64 (i:Int),v])) fun e S1=>match e with
    | .normal=>bo S1 fun e S'=>match e with
     | .normal=>oM (d0A S0 S'.tmps sp S'.objs) Sum.inl
     | e=>oM (j7A S0 ex e S') Sum.inr
    | _=>none)=some res∧((∃ p',res=.inl p'∧a4C (fun i p=>oB (a3C (c0A S0 sp p (d3A S0)) ⟨sid,bid,len⟩ i) fun v =>
   as ((c0A S0 sp p (d3A S0)).tm (s5B S0.tmps ps.toList [.int .i64 (i:Int),v])) fun e S1=>match e with
    | .normal=>bo S1 fun e S'=>match e with
     | .normal=>oM (d0A S0 S'.tmps sp S'.objs) Sum.inl
     | e=>oM (j7A S0 ex e S') Sum.inr
    | _=>none) i p'=some rr)∨∃ j,res=.inr j∧rr=.inr j):=by
   split at hbn
   ·rename_i p' he; exact ⟨_,he,.inl ⟨p',rfl,hbn⟩⟩
   ·rename_i j he; exact ⟨_,he,.inr ⟨j,rfl,(Bp hbn).symm⟩⟩
   ·cases hbn
  obtain ⟨v,hel,hrun⟩:=m0A hres
  unfold a3C at hel
  split at hel
  case h_2=>cases hel
  rename_i n1 l hlk
  rcases c2A hel with ⟨hb1,hel2⟩ | ⟨_,hel2⟩
  case inr=>cases hel2
  have hb1:=Ag hb1
  have hb1:n1=len:=hb1
  clear hel
  subst hb1
  cases hel2
  have hlk:a1A bid (c0A S0 sp p (d3A S0)).objs=some (.box [.arr n1 (.int .i64) l]):=hlk
  obtain ⟨_,b2,vs2,te2,hb2,hheap2,hcells2⟩:=hMk.rep bid _ hlk
  have hMb:Ek.M bid=E.M bid:=(hLk.M bid (show bid<E1.N from hbidN)).trans rfl
  rw [hMb,hblkb] at hb2
  cases hb2
  have hboxk:Ek.w.heap[bs]? = some (.cells #[.slice (some ⟨b,o,none⟩) n1 (n1 - 0)] te (0,0)):=((hLk.heapKeep bs (.inl (.inr rfl))).trans (hold1 bs hbsz)).trans hheap
  have hlk1:Ek.w.heap[lc]? = some (.loop (rec .ready none)):=(hLk.heapKeep lc (.inr rfl)).trans hL1
  have hnr:¬ Ek.ro lc:=fun hro=>(hLk.roN lc hro).elim hlcR fun h=>h (.inr rfl)
  have hy:=run_yield (P:=P) (args := #[.int .i64 (i:Int),.int .i64 (l.getD i 0)]) hlk1 (by rw [hrec]; exact hps.symm)
  rw [hrec] at hy
  refine ⟨l,⟨⟨te,o,hboxk,ho⟩,⟨vs2,te2,hheap2,fun E' => ?_⟩,fun e => ?_,⟨fun hc=>(hR.mems.sep _ _ _ hlook hbs).1 (hR.mems.gl.ro hc),fun hc=>(hMk.sep bid _ b hlk (by rw [hMb]; exact hblkb)).1 (hMk.gl.ro hc)⟩,g2D hMk⟩,fn,_,x,y,hy,?_⟩
  ·obtain ⟨u,ru,e1,e2,e3⟩:=hcells2
   refine ⟨u,ru,e1,?_,e3⟩
   obtain ⟨f1,f2,f3⟩:=e2
   exact ⟨f1,f2,fun i hi=>by obtain ⟨cs,g1,g2⟩:=f3 i hi; exact ⟨cs,g1,g2⟩⟩
  ·exact (hMk.sep bid _ b hlk (by rw [hMb]; exact hblkb)).2 (.inl (.inr e.symm))
  ·refine roundIn_of_wpIn hfn ?_
   obtain ⟨ps0,ps1,hpl⟩:∃ ps0 ps1,ps = #[ps0,ps1]:=by
    match hpl:ps.toList,(show ps.toList.length=2 by rw [An]; exact hps) with
    | [p0,p1],_=>exact ⟨p0,p1,Array.toList_inj.1 hpl⟩
   subst hpl
   have hsl:e0A Ek S.tmps a.tmps:=hR1.slots.later (hLk.weaker fun _ h=>.inl h)
   have hsl1:=c2C (S:=⟨S.tmps,[],0⟩) (a:={ a with defers:=[] }) hsl (some ps0) (show a3A Ek (.int .i64 (i:Int)) (.int .i64 (i:Int)) from rfl)
   have hsl2:=c2C (S:=⟨g2A S.tmps ps0 (.int .i64 (i:Int)),[],0⟩) (a:={ tmps:=a.tmps.setIfInBounds ps0 (.int .i64 (i:Int)),defers:=[] }) hsl1 (some ps1) (show a3A Ek (.int .i64 (l.getD i 0)) (.int .i64 (l.getD i 0)) from rfl)
   have hRk:Rel keep2 z ((c0A S0 sp p (d3A S0)).tm (s5B S0.tmps [ps0,ps1] [.int .i64 (i:Int),.int .i64 (l.getD i 0)]))
     { tmps:=(a.tmps.setIfInBounds ps0 (.int .i64 (i:Int))).setIfInBounds ps1 (.int .i64 (l.getD i 0)),defers:=[] } Ek:=
    ⟨by simp; exact hR.size,hsl2,hMk,hNk,u9A.nil _ _⟩
   have hact:(#[ps0,ps1].zip #[Value.int .i64 (i:Int),.int .i64 (l.getD i 0)]).foldl (fun t (p,v)=>t.setIfInBounds p v) a.tmps=(a.tmps.setIfInBounds ps0 (.int .i64 (i:Int))).setIfInBounds ps1 (.int .i64 (l.getD i 0)):=by
    simp
   show x.wpIn (fw (some lc)) 0 P _ _ Ek.w
   rw [hact]
   refine hA (some lc) keep2 hrun hRk fun e1 S1 a1 Ea hRa hLa hka => ?_
   cases e1 with
   | exit id=>cases hka
   | ret=>cases hka
   | normal =>
    simp only [Ex.toExit,Exit.then]
    have hka:bo S1 (fun e S'=>match e with
     | .normal=>oM (d0A S0 S'.tmps sp S'.objs) Sum.inl
     | e=>oM (j7A S0 ex e S') Sum.inr)=some res:=hka
    have hla:Ea.w.heap[lc]? = some (.loop (rec .ready none)):=(hLa.heapKeep lc (.inr rfl)).trans hlk1
    refine ⟨_,run_beginRound (P:=P) hla (by rw [hrec]),?_⟩
    have hLa2:Later keep2 E1 Ea:=hLk.trans hLa
    have hsh:Shut Ea { Ea with w:=Ea.w.putObj lc (.loop { rec .ready none with state:=.busy }) }:=Shut.put _ hla rfl
    have hRb:Rel keep2 z S1 a1 { Ea with w:=Ea.w.putObj lc (.loop { rec .ready none with state:=.busy }) }:=by
     refine ⟨hRa.size,hsh.slots hRa.slots,hRa.mems.shut hsh,hRa.next,?_⟩
     obtain ⟨Ds,g1,g2,g3⟩:=hRa.defers
     exact ⟨Ds,g1,g2,fun D hD=>⟨(g3 D hD).1,(g3 D hD).2.1,(World.putObj_heap_other (fun e=>(g3 D hD).1 (.inr e))).trans (g3 D hD).2.2⟩⟩
    refine hBo (some lc) keep2 hka hRb fun e2 S2 a2 Ec hRc hLc hkc => ?_
    have hlb:(Ea.w.putObj lc (.loop { rec .ready none with state:=.busy })).heap[lc]? = some (.loop { rec .ready none with state:=.busy }):=World.putObj_heap_same (Cb.1 hla).1
    have hlcc:Ec.w.heap[lc]? = some (.loop { rec .ready none with state:=.busy }):=(hLc.heapKeep lc (.inr rfl)).trans hlb
    have hLc1:Later keep1 E1 Ec:=((hLa2.weaker fun _ h=>.inl h).put2 _ hlcK hlcR).trans (hLc.weaker fun _ h=>.inl h)
    have hroN:∀ c,Ec.ro c→E1.ro c∨¬ keep2 c:=fun c hc=>(hLc.roN c hc).elim (fun h=>hLa2.roN c h) .inr
    have x9B:∀ (o':Obj),Rel keep2 z S2 a2 { Ec with w:=Ec.w.putObj lc o' }:=fun o'=>by
     have hsh:Shut Ec { Ec with w:=Ec.w.putObj lc o' }:=Shut.put _ hlcc rfl
     refine ⟨hRc.size,hsh.slots hRc.slots,hRc.mems.shut hsh,hRc.next,?_⟩
     obtain ⟨Ds,g1,g2,g3⟩:=hRc.defers
     exact ⟨Ds,g1,g2,fun D hD=>⟨(g3 D hD).1,(g3 D hD).2.1,(World.putObj_heap_other (fun e=>(g3 D hD).1 (.inr e))).trans (g3 D hD).2.2⟩⟩
    have leave:∀ (e2:Ex) (jc:Code),(e2=.ret∧jc=.ret∨∃ id,e2=.exit id∧jc=.exit id)→oM (j7A S0 ex e2 S2) Sum.inr=some res →
      ∃ v w',(Instr.endRound lc (some jc)).run P Ec.w=.ok v w'∧((Ending.returned v=.returned (.bool true)∧∃ p',Inv i p' w')∨(Ending.returned v=.returned (.bool false)∧Done w')):=by
     intro e2 jc hj hkc
     obtain ⟨j,hpe,rfl⟩:=b4A hkc
     have hrj:rr=.inr j:=by
      rcases hcont with ⟨p',e,_⟩ | ⟨j',e,e'⟩
      ·cases e
      ·cases e; exact e'
     subst hrj
     have hend:=run_endRound (P:=P) (some jc) hlcc
     refine ⟨_,_,hend,.inr ⟨rfl,?_⟩⟩
     have hR3:=x9B (.loop { { rec .ready none with state:=.busy } with state:=if (some jc).isNone then .ready else .done,pending:=some jc })
     have hR4:Rel keep1 z S2 a2 _:=⟨hR3.size,hR3.slots,hR3.mems.weaker fun _ h=>.inl h,hR3.next,by
      obtain ⟨Ds,g1,g2,g3⟩:=hR3.defers
      exact ⟨Ds,g1,g2,fun D hD=>⟨fun hk=>(g3 D hD).1 (.inl hk),(g3 D hD).2⟩⟩⟩
     obtain ⟨E3,S3,hw3,hL3,hR5,hu3⟩:=y7A (K:=fun e S'=>K e (S'.tm S0.tmps)) hR1 hR4 (hLc1.put2 _ hlcK hlcR) ex hpe
     refine ⟨e2,jc,S3,E3,hj,?_,hw3,hL3,hR5.mems,hR5.next,?_⟩
     ·rw [World.putObj_heap_same (Cb.1 hlcc).1,hrec]; rfl
     ·exact hu3.symm.trans h
    cases e2 with
    | normal =>
     obtain ⟨p',hpp,rfl⟩:=b4A hkc
     rcases hcont with ⟨p2,e,hrb⟩ | ⟨j',e,_⟩
     case inr=>cases e
     cases e
     have hend:=run_endRound (P:=P) none hlcc
     refine ⟨_,_,hend,.inl ⟨rfl,_,hrb,?_⟩⟩
     have hR3:=x9B (.loop { { rec .ready none with state:=.busy } with state:=if (none:Option Code).isNone then .ready else .done,pending:=none })
     have hsame:(.loop { { rec .ready none with state:=.busy } with state:=if (none:Option Code).isNone then .ready else .done,pending:=none }:Obj)=.loop (rec .ready none):=by rw [hrec]; rfl
     have hL3:Later keep2 E1 { Ec with w:=Ec.w.putObj lc (.loop { { rec .ready none with state:=.busy } with state:=if (none:Option Code).isNone then .ready else .done,pending:=none }) }:=by
      have h1:=hLc1.put2 (.loop { { rec .ready none with state:=.busy } with state:=if (none:Option Code).isNone then .ready else .done,pending:=none }) hlcK hlcR
      refine ⟨h1.ro,hroN,h1.M,h1.N,h1.size,h1.heapRo,fun c hc => ?_,h1.out⟩
      rcases hc with hc | hc
      ·exact h1.heapKeep c hc
      ·subst hc
       exact ((World.putObj_heap_same (Cb.1 hlcc).1).trans (by rw [hsame])).trans hL1.symm
     obtain ⟨E3,hw3,hL4,hR5⟩:=v3A hR2 hR3 hL3 hpp
     exact ⟨E3,hw3,hL4,hR5.mems,hR5.next⟩
    | exit id=>exact leave (.exit id) (.exit id) (.inr ⟨id,rfl,rfl⟩) hkc
    | ret=>exact leave .ret .ret (.inl ⟨rfl,rfl⟩) hkc
 refine (e7F hT' hB hn0 hn Inv Done hround (fun i p W ⟨_,Ek,hw,_,hm,_⟩=>hw▸g2D hm) (fun W ⟨_,_,_,Ek,_,_,hw,_,hm,_⟩=>hw▸g2D hm) ⟨hrr,E2,hw2,hLE2,hR2'.mems,hR2'.next⟩).mono ?_
 rintro e W' ⟨v,rfl,hcase⟩
 rcases hcase with ⟨p,hbk,Ek,rfl,hLk,hMk,hNk⟩ | ⟨e',jc,S',Ek,hj,hl,rfl,hLk,hMk,hNk,hk⟩
 ·-- all have come
  have hrr':rr=.inl p:=(Bp hbk).symm
  subst hrr'
  have hl:Ek.w.heap[lc]? = some (.loop (rec .ready none)):=(hLk.heapKeep lc (.inr rfl)).trans hL1
  have hend:=run_endLoop (P:=P) hl (by rw [hrec]; simp)
  rw [hrec] at hend
  refine ⟨none,_,hend,?_⟩
  have hk1:Later keep1 E1 Ek:=hLk.weaker fun _ h=>.inl h
  have hnr:¬ Ek.ro lc:=fun hro=>(hLk.roN lc hro).elim hlcR fun h=>h (.inr rfl)
  obtain ⟨g1,g2⟩:=hfin { Ek with w:=Ek.w.putObj lc (.loop { rec .ready none with state:=.exhausted }) } (c0A S0 sp p (d3A S0)).objs (c0A S0 sp p (d3A S0)).next (hk1.trans (Later.put _ hlcK hnr))
   (((e8F hMk).shut (Shut.put _ hl rfl))) hNk (c0A S0 sp p (d3A S0)).tmps
  have:=hK .normal _ _ _ g1 g2 h
  rw [hrec] at this
  exact this
 ·-- a round has left
  have hend:=run_endLoop (P:=P) hl (by rw [hrec]; simp)
  rw [hrec] at hend
  refine ⟨some jc,_,hend,?_⟩
  obtain ⟨g1,g2⟩:=hfin { Ek with w:=Ek.w.putObj lc (.loop { rec .done (some jc) with state:=.exhausted }) } S'.objs S'.next (hLk.put2 _ hlcK hlcR) (hMk.shut (Shut.put _ hl rfl)) hNk S'.tmps
  have hq:=hK e' _ _ _ g1 g2 hk
  rw [hrec] at hq
  rcases hj with ⟨rfl,rfl⟩ | ⟨id,rfl,rfl⟩
  ·exact wpIn_ret hq
  ·exact wpIn_exit hq
end
end Go.Rx
namespace Go.Rx
variable [Inhabited GW]
theorem v4A {α β:Type} {b:Bool} {x x':Option α} {y y':Option β} {f:α→Option β} (h:y=x.bind f) (h':y'=x'.bind f):(bif b then y else y')=(bif b then x else x').bind f:=by
 cases b
 ·exact h'
 ·exact h
theorem via {α β γ:Type} {x:Option α} {y:Option β} {z:Option γ} {f:α→Option β} {f':α→Option γ} {g:γ→Option β} (h:y=x.bind f) (h':z=x.bind f') (hf:∀ a,f a=(f' a).bind g):y=z.bind g:=by
 rw [h,h',Option.bind_assoc]
 congr 1
 funext a
 exact hf a
theorem i1B {R:Type} (base:St) (K:Ex→St→Option R):∀ (ex:p0A) (j:JT ex),s9A base ex j K=(s9A base ex j fun e S=>some (e,S)).bind fun p=>K p.1 p.2
 | [],j=>nomatch j
 | [e],j=>rfl
 | e::e'::r,j=>by
  cases j with
  | inl p=>rfl
  | inr j=>exact i1B base K (e'::r) j
theorem y9A {R:Type} {ex:Option p0A} {S:St} {K:Ex→St→Option R} {run:∀ {R':Type},(Ex→St→Option R')→Option R'}
  (hr:∀ {R':Type} (K':Ex→St→Option R'),run K'=(run fun e S=>some (e,S)).bind fun p=>K' p.1 p.2) :
  joinK ex S K run=(joinK ex S (fun e S=>some (e,S)) run).bind fun p=>K p.1 p.2:=by
 cases ex with
 | none=>exact hr K
 | some ex =>
  simp only [joinK,Option.bind_assoc]
  congr 1
  funext j
  exact i1B S K ex j
theorem z4D {body:St→∀ {R:Type},(Ex→St→Option R)→Option R} (hb:∀ (S:St) {R:Type} (K:Ex→St→Option R),body S K=(body S fun e S=>some (e,S)).bind fun p=>K p.1 p.2)
  {R:Type} (K:Ex→St→Option R):∀ (n:Nat) (S:St),n2B (fun S K=>body S K) K n S=(n2B (fun S K=>body S K) (fun e S=>some (e,S)) n S).bind fun p=>K p.1 p.2
 | 0,S=>rfl
 | n+1,S=>by
  simp only [n2B]
  refine via (hb S _) (hb S _) fun p => ?_
  obtain ⟨e,S'⟩:=p
  cases e with
  | normal=>exact z4D hb K n S'
  | exit id=>rfl
  | ret=>rfl
theorem f1F {R:Type} {S:St} {bk:Bk} {ps:List Nat} {sp:u4A} {ex:p0A} {as bo:∀ {R':Type},St→(Ex→St→Option R')→Option R'} (K:Ex→St→Option R) :
  s6B S bk ps sp ex as bo K=(s6B S bk ps sp ex as bo fun e S=>some (e,S)).bind fun p=>K p.1 p.2:=by
 unfold s6B
 cases d0A S S.tmps sp S.objs with
 | none=>rfl
 | some p =>
  simp only [oB,Option.bind_assoc]
  congr 1
  funext r
  cases r with
  | inl p=>rfl
  | inr j=>exact via (i1B S (fun e S'=>K e (S'.tm S.tmps)) ex j) (i1B S (fun e S'=>some (e,S'.tm S.tmps)) ex j) fun p=>rfl
section
variable {T:Tab} {H:Handler} (hN:∀ {R:Type} (f:FuncId) (args:List AV) (S:St) (K:AV→St→Option R),H.run f args S K=(H.run f args S fun v S'=>some (v,S')).bind fun p=>K p.1 p.2)
include hN
theorem z5D {R:Type} (o:Oper) (S:St) (K:St→Option R):opK T H o S K=(opK T H o S some).bind K:=by
 unfold opK
 rw [c8C hN,c8C hN (K:=fun v objs next=>some (S.step o.dst v objs next)),Option.bind_assoc]
 rfl
theorem i2B {ops:Array Oper} {R:Type} (K:St→Option R):∀ (l:List Oper) (S:St),n0A T H ops l S K=(n0A T H ops l S some).bind K
 | [],S=>rfl
 | o::l,S=>by
  have run:∀ S,opK T H o S (fun S=>n0A T H ops l S K)=(opK T H o S fun S=>n0A T H ops l S some).bind K:=by
   intro S
   rw [z5D hN,z5D hN (K:=fun S=>n0A T H ops l S some),Option.bind_assoc]
   congr 1
   funext S'
   exact i2B K l S'
  simp only [n0A]
  cases u6A ops S o with
  | no=>rfl
  | run=>exact run S
  | skip=>exact i2B K l _
  | test d b want =>
   cases want with
   | true=>exact v4A (run _) (i2B K l _)
   | false=>exact v4A (i2B K l _) (run _)
theorem z6D {R:Type} (o:Oper) (S:St) (K:St→Option R):y2A T H o S K=(y2A T H o S some).bind K:=by
 unfold y2A
 cases e3A T o.op with
 | true =>
  simp only [Al]
  rw [c8C hN,c8C hN (K:=fun v objs next=>some (S.step o.dst v objs next)),Option.bind_assoc]
  rfl
 | false =>
  simp only [Ai]
  split
  ·rfl
  split
  ·rfl
  ·rename_i b v _
   cases b <;> rfl
  ·rfl
theorem d2C {ops:Array Oper} {an:List Nat} {R:Type} (K:St→Option R):∀ (pi:List Nat) (log:List Ent) (prev:Nat) (S:St),o2A T H ops an pi log prev S K=(o2A T H ops an pi log prev S some).bind K
 | [],log,prev,S=>rfl
 | j::rest,log,prev,S=>by
  simp only [o2A]
  split
  ·rfl
  ·rename_i o _
   have run:∀ S log prev,y2A T H o S (fun S'=>o2A T H ops an rest log prev S' K)=(y2A T H o S fun S'=>o2A T H ops an rest log prev S' some).bind K:=by
    intro S log prev
    rw [z6D hN,z6D hN (K:=fun S'=>o2A T H ops an rest log prev S' some),Option.bind_assoc]
    congr 1
    funext S'
    exact d2C K rest log prev S'
   refine v4A ?_ rfl
   cases u6A ops S o with
   | no=>rfl
   | run=>exact run S _ _
   | skip=>exact d2C K rest _ _ _
   | test d b want =>
    cases want with
    | true=>exact v4A (run _ _ _) (d2C K rest _ _ _)
    | false=>exact v4A (d2C K rest _ _ _) (run _ _ _)
theorem z7D {ops:Array Oper} {pi:List Nat} {R:Type} (S:St) (K:St→Option R):s4B T H ops pi S K=(s4B T H ops pi S some).bind K:=by
 unfold s4B
 exact v4A (d2C hN K pi _ _ S) rfl
omit hN in
theorem e0B {α β:Type} {g:Option Gv} {x:Option β} {y:Option α} {f:α→Option β} (h:x=y.bind f):noG g x=(noG g y).bind f:=by
 cases g with
 | none=>exact h
 | some g=>rfl
theorem p9C:∀ (c:Code) (an:Ann) (g:Option Gv) {R:Type} (S:St) (K:Ex→St→Option R),c1A T H c an g S K=(c1A T H c an g S fun e S=>some (e,S)).bind fun p=>K p.1 p.2:=by
 intro c
 induction c with
 | skip=>intro an g R S K; simp only [c1A]; exact e0B (y9A fun K'=>rfl)
 | label l=>intro an g R S K; simp only [c1A]; exact e0B (y9A fun K'=>rfl)
 | exit id=>intro an g R S K; simp only [c1A]; exact e0B (y9A fun K'=>rfl)
 | ret =>
  intro an g R S K
  simp only [c1A]
  refine e0B (y9A fun K' => ?_)
  cases t0A S an.inner with
  | none=>rfl
  | some q=>exact v4A rfl rfl
 | region id ops draw =>
  intro an g R S K
  simp only [c1A]
  cases g with
  | some g =>
   simp only
   cases draw with
   | true=>rfl
   | false =>
    simp only
    cases ops.toList with
    | nil=>rfl
    | cons o rest =>
     simp only
     rw [i2B hN,i2B hN (K:=fun S=>some (Ex.normal,S)),Option.bind_assoc]
     rfl
  | none =>
  simp only
  refine y9A fun K' => ?_
  cases t0A S an.inner with
  | none=>rfl
  | some q =>
  dsimp only
  refine v4A ?_ rfl
  cases draw with
  | false =>
   simp only
   rw [i2B hN,i2B hN (K:=fun S=>some (Ex.normal,S)),Option.bind_assoc]
   rfl
  | true =>
   simp only
   cases q.2.2 with
   | draw pi =>
    simp only
    rw [z7D hN,z7D hN (K:=fun S=>some (Ex.normal,S)),Option.bind_assoc]
    rfl
   | _=>rfl
 | seq x y ihx ihy =>
  intro an g R S K
  simp only [c1A]
  have key:∀ (g:Option Gv) {R:Type} (K:Ex→St→Option R),(c1A T H x an.inner.left g S fun e S=>match e with
    | .normal=>c1A T H y an.inner.right none S K
    | e=>K e S)=(c1A T H x an.inner.left g S fun e S=>match e with
    | .normal=>c1A T H y an.inner.right none S fun e S=>some (e,S)
    | e=>some (e,S)).bind fun p=>K p.1 p.2:=by
   intro g R K
   refine via (ihx _ g _ _) (ihx _ g _ _) fun p => ?_
   obtain ⟨e,S'⟩:=p
   cases e with
   | normal=>exact ihy _ _ _ _
   | exit id=>rfl
   | ret=>rfl
  cases g with
  | none=>exact y9A fun K'=>key none K'
  | some g=>exact key (some g) K
 | cond c x y ihx ihy =>
  intro an g R S K
  simp only [c1A]
  refine e0B (y9A fun K' => ?_)
  cases ev S c with
  | bool b=>exact v4A (ihx _ _ _ _) (ihy _ _ _ _)
  | _=>rfl
 | block id c ih =>
  intro an g R S K
  simp only [c1A]
  refine e0B (y9A fun K' => ?_)
  refine via (ih _ _ _ _) (ih _ _ _ _) fun p => ?_
  obtain ⟨e,S'⟩:=p
  cases e with
  | normal=>rfl
  | exit id'=>cases hb:Nat.beq id' id <;> simp only [hb,Al,Ai] <;> rfl
  | ret=>rfl
 | loop c ih =>
  intro an g R S K
  simp only [c1A]
  refine e0B (y9A fun K' => ?_)
  cases an.inner with
  | loop sp ex b =>
   simp only
   cases d0A S S.tmps sp S.objs with
   | none=>rfl
   | some p =>
    simp only [oB,Option.bind_assoc]
    congr 1
    funext j
    exact i1B S K' ex j
  | roll n b=>exact z4D (body:=fun S {R} K=>c1A T H c b none S K) (fun S {R} K=>ih b none S K) K' n S
  | peel sp ex b s g b1 c2 =>
   simp only
   cases c2 with
   | loop sp2 ex2 a2 =>
    simp only
    cases d0A S S.tmps sp S.objs with
    | none=>rfl
    | some p =>
     simp only [oB,Option.bind_assoc]
     congr 1
     funext r
     cases r with
     | inr j=>exact i1B S K' ex j
     | inl p =>
      dsimp only
      refine via (ih b1 none _ _) (ih b1 none _ _) fun q => ?_
      obtain ⟨e,S1⟩:=q
      cases e with
      | normal =>
       simp only
       cases d0A S1 S1.tmps sp2 S1.objs with
       | none=>rfl
       | some p =>
        simp only [oB,Option.bind_assoc]
        congr 1
        funext j
        exact i1B S1 K' ex2 j
      | exit id=>rfl
      | ret=>rfl
   | _=>rfl
  | each sp ex k v b =>
   simp only
   cases n0B c with
   | none=>rfl
   | some q =>
    simp only
    cases d0A S S.tmps sp S.objs with
    | none=>rfl
    | some p =>
     simp only [oB,Option.bind_assoc]
     congr 1
     funext j
     exact i1B S K' ex j
  | _=>rfl
 | scope c ih =>
  intro an g R S K
  simp only [c1A]
  refine e0B (y9A fun K'=>ih _ _ _ _)
 | rangeFunc f ps x y ihx ihy =>
  intro an g R S K
  simp only [c1A]
  refine e0B (y9A fun K' => ?_)
  cases an.inner with
  | loop sp ex b =>
   simp only
   refine v4A ?_ rfl
   cases k7C H S (ev S f) with
   | none=>rfl
   | some bk=>exact f1F K'
  | _=>rfl
 | goto l=>intro an g R S K; simp only [c1A]; rfl
 | refuse w=>intro an g R S K; simp only [c1A]; rfl
end
theorem q0C (T:Tab) (Es:List (Nat×Callee)):∀ (n:Nat) {R:Type} (f:FuncId) (args:List AV) (S:St) (K:AV→St→Option R),
  (l9A T Es n).run f args S K=((l9A T Es n).run f args S fun v S'=>some (v,S')).bind fun p=>K p.1 p.2
 | 0,R,f,args,S,K=>rfl
 | n+1,R,f,args,S,K=>by
  simp only [l9A]
  cases a2B f Es with
  | none=>rfl
  | some c =>
   cases c with
   | back n=>rfl
   | ext fn=>simp only; cases fn args <;> rfl
   | insH t bytes =>
    simp only [a5C]
    split
    ·split
     ·split
      ·exact v4A rfl rfl
      ·rfl
     ·rfl
    ·rfl
   | semP pt ins outs fn =>
    simp only [l1C]
    split
    ·split
     ·split
      ·split
       ·simp only [Option.bind_assoc]; rfl
       ·rfl
      ·rfl
     ·rfl
    ·rfl
   | sem ins outs fn g =>
    simp only
    cases k9C g args with
    | none=>rfl
    | some args =>
    simp only [oB]
    refine v4A ?_ ?_
    ·cases r6B S.objs ins args with
     | none=>rfl
     | some x=>simp only [Option.bind_assoc]; rfl
    ·cases f9A ins args S.objs with
     | none=>rfl
     | some x=>simp only [Option.bind_assoc]; rfl
   | inl fn body an =>
    simp only
    refine via (p9C (q0C T Es n) _ _ _ _ _) (p9C (q0C T Es n) _ _ _ _ _) fun p => ?_
    obtain ⟨e,S'⟩:=p
    cases e with
    | exit id=>rfl
    | normal=>simp only; cases r7A S' fn.results.toList T <;> rfl
    | ret=>simp only; cases r7A S' fn.results.toList T <;> rfl
end Go.Rx
namespace Go.Rx
variable [Inhabited GW]
section
variable {P:Program} {T:Tab} (hT:TabOK P T) {H:Handler} (hH:HOK P H)
variable (hP:P.follows .mixedOrders=true)
omit [Inhabited GW] in
theorem z8D {F:Fence} {k:Nat} {c:Code} {Q:Exit→Act→World→Prop}:∀ {m:Nat} {a:Act} {w:World},Code.roundsIn F k P c Q m a w→∀ d,Code.roundsIn F k P c Q (m+d) a w
 | 0,_,_,h,_=>h.elim
 | m+1,a,w,h,d=>by
  rw [show m+1+d=(m+d)+1 by omega,roundsIn_succ]
  rw [roundsIn_succ] at h
  refine wpIn_mono h fun e a w hq => ?_
  cases e with
  | normal=>exact z8D hq d
  | _=>exact hq
def z9D (P:Program) (T:Tab) (H:Handler) (c:Code):Prop:=∀ {ro:Option Nat} {keep:Nat→Prop} {z:Nat} (_:ro=none∨y3A c=true) (an:Ann) {R:Type} {S:St} {K:Ex→St→Option R} {r:R} {a:Act} {E:Env} {Q:Exit→Act→World→Prop},c1A T H c an none S K=some r→Rel keep z S a E →
  (∀ e S' a' E',Rel keep z S' a' E'→Later keep E E'→K e S'=some r→Q e.toExit a' E'.w)→c.wpIn (fw ro) 0 P Q a E.w
def f2F (P:Program) (T:Tab) (H:Handler) (c:Code):Prop:=∀ {ro:Option Nat} {keep:Nat→Prop} {z:Nat} (_:ro=none∨y3A c=true) (an:Ann) {R:Type} {S:St} {K:Ex→St→Option R} {a:Act} {E:Env} {Q:Exit→Act→World→Prop} {q:Oper×Nat} {G:Gv→Prop} {W:R→Prop},n0B c=some q→u7D P keep q.1 S a E G→Rel keep z S a E →
  (∀ g,G g→∃ r,c1A T H c an (some g) S K=some r∧W r) →
  (∀ e S' a' E' r,W r→Rel keep z S' a' E'→Later keep E E'→K e S'=some r→Q e.toExit a' E'.w)→c.wpIn (fw ro) 0 P Q a E.w
include hT hH hP
theorem f3F:∀ (c:Code),z9D P T H c∧f2F P T H c:=by
 intro c
 induction c with
 | skip =>
  refine ⟨?_,?_⟩
  ·intro ro keep z hro an R S K r a E Q h hR hK
   exact y8A (by simpa only [c1A,noG] using h) hR (fun K' r' h' hK'=>wpIn_skip (hK' .normal S a E hR (Later.refl _ _) h')) hK
  ·intro ro keep z hro an R S K a E Q q G W hf; cases hf
 | label l =>
  refine ⟨?_,?_⟩
  ·intro ro keep z hro an R S K r a E Q h hR hK
   exact y8A (by simpa only [c1A,noG] using h) hR (fun K' r' h' hK'=>wpIn_label (hK' .normal S a E hR (Later.refl _ _) h')) hK
  ·intro ro keep z hro an R S K a E Q q G W hf; cases hf
 | exit id =>
  refine ⟨?_,?_⟩
  ·intro ro keep z hro an R S K r a E Q h hR hK
   exact y8A (by simpa only [c1A,noG] using h) hR (fun K' r' h' hK'=>wpIn_exit (hK' (.exit id) S a E hR (Later.refl _ _) h')) hK
  ·intro ro keep z hro an R S K a E Q q G W hf; cases hf
 | ret =>
  refine ⟨?_,?_⟩
  ·intro ro keep z hro an R S K r a E Q h hR hK
   simp only [c1A,noG] at h
   refine y8A h hR (fun K' r' h' hK' => ?_) hK
   split at h'
   ·cases h'
   rename_i q hq
   rcases c2A h' with ⟨hb,h'⟩ | ⟨_,h'⟩
   ·obtain ⟨E1,w1,L1,R1⟩:=v3D hq hb hR
    rw [←w1]
    exact wpIn_ret (hK' .ret q.2.1 a E1 R1 L1 h')
   ·cases h'
  ·intro ro keep z hro an R S K a E Q q G W hf; cases hf
 | region id ops draw =>
  refine ⟨?_,?_⟩
  ·intro ro keep z hro an R S K r a E Q h hR hK
   simp only [c1A,noG] at h
   refine y8A h hR (fun K' r' h' hK' => ?_) hK
   split at h'
   ·cases h'
   rename_i q hq
   rcases c2A h' with ⟨hbq,h'⟩ | ⟨_,h'⟩
   case inr=>cases h'
   obtain ⟨E1,w1,L1,R1⟩:=v3D hq hbq hR
   rw [←w1]
   cases draw with
   | true =>
    simp only at h'
    split at h'
    ·exact e3F hT hP hH h' R1 fun S' a' E' h1 h2 h3=>hK' .normal S' a' E' h1 (L1.trans h2) h3
    ·cases h'
   | false=>exact wpIn_region_list (p1C hT hH ops.toList h' R1 fun S' a' E' h1 h2 h3=>hK' .normal S' a' E' h1 (L1.trans h2) h3)
  ·intro ro keep z hro an R S K a E Q q G W hf hn hR hres hK
   cases draw with
   | true=>cases hf
   | false =>
    simp only [c1A] at hres
    refine wpIn_region_list ?_
    unfold n0B at hf
    cases hops:ops.toList with
    | nil=>rw [hops] at hf; cases hf
    | cons o rest =>
     rw [hops] at hf hres
     dsimp only at hf hres
     split at hf
     ·rename_i t h1 h2
      cases hf
      obtain ⟨g,x,E',hg,hrun,hL,hM,hv,hN⟩:=hn
      obtain ⟨r,hr,hW⟩:=hres g hg
      have hwant:Region.wanted o (yielded ops a.tmps)=true:=by unfold Region.wanted; rw [h2]
      simp only [wpListIn,hwant,Ep]
      refine n9B (by rw [h1]; rfl) ?_
      rw [hrun,Oper.uponIn_value]
      exact p1C hT hH rest hr (hR.put hL ⟨S.tmps,a9A g.id g.oc S.objs,S.next⟩ rfl hM (by rw [hN]; exact hR.next) o.dst hv) fun S' a' E'' h1 h2 h3=>hK .normal S' a' E'' r hW h1 (hL.trans h2) h3
     ·cases hf
 | seq x y ihx ihy =>
  refine ⟨?_,?_⟩
  ·intro ro keep z hro an R S K r a E Q h hR hK
   simp only [c1A,noG] at h
   refine y8A h hR (fun K' r' h' hK' => ?_) hK
   refine wpIn_seq (ihx.1 (hro.imp (fun h=>h) fun h=>(Ac _ _▸h).1) _ h' hR fun e S' a' E' h1 h2 h3 => ?_)
   cases e with
   | normal=>exact ihy.1 (hro.imp (fun h=>h) fun h=>(Ac _ _▸h).2) _ h3 h1 fun e S'' a'' E'' h4 h5 h6=>hK' e S'' a'' E'' h4 (h2.trans h5) h6
   | exit id=>exact hK' (.exit id) S' a' E' h1 h2 h3
   | ret=>exact hK' .ret S' a' E' h1 h2 h3
  ·intro ro keep z hro an R S K a E Q q G W hf hn hR hres hK
   simp only [c1A] at hres
   refine wpIn_seq (ihx.2 (hro.imp (fun h=>h) fun h=>(Ac _ _▸h).1) _ hf hn hR hres fun e S' a' E' r hW h1 h2 h3 => ?_)
   cases e with
   | normal=>exact ihy.1 (hro.imp (fun h=>h) fun h=>(Ac _ _▸h).2) _ h3 h1 fun e S'' a'' E'' h4 h5 h6=>hK e S'' a'' E'' r hW h4 (h2.trans h5) h6
   | exit id=>exact hK (.exit id) S' a' E' r hW h1 h2 h3
   | ret=>exact hK .ret S' a' E' r hW h1 h2 h3
 | cond c x y ihx ihy =>
  refine ⟨?_,?_⟩
  ·intro ro keep z hro an R S K r a E Q h hR hK
   simp only [c1A,noG] at h
   refine y8A h hR (fun K' r' h' hK' => ?_) hK
   split at h'
   ·rename_i b hb
    have hv:=b6A hR.slots c
    rw [hb] at hv
    have hv:=hv.bool_inv
    have hlit:∀ b',b=b'→Rel keep z (b3D S c b') a E:=by
     intro b' e
     subst e
     cases c with
     | tmp t=>exact (w7D hR hb).1
     | const v=>exact hR
     | global g=>exact hR
     | func f=>exact hR
    rcases c2A h' with ⟨e,h'⟩ | ⟨e,h'⟩
    ·subst e
     exact wpIn_cond_true hv (ihx.1 (hro.imp (fun h=>h) fun h=>(Ac _ _▸h).1) _ h' (hlit _ rfl) hK')
    ·subst e
     exact wpIn_cond_false hv (ihy.1 (hro.imp (fun h=>h) fun h=>(Ac _ _▸h).2) _ h' (hlit _ rfl) hK')
   ·cases h'
  ·intro ro keep z hro an R S K a E Q q G W hf; cases hf
 | block id c ih =>
  refine ⟨?_,?_⟩
  ·intro ro keep z hro an R S K r a E Q h hR hK
   simp only [c1A,noG] at h
   refine y8A h hR (fun K' r' h' hK' => ?_) hK
   refine wpIn_block (ih.1 (hro.imp (fun h=>h) fun h=>h) _ h' hR fun e S' a' E' h1 h2 h3 => ?_)
   cases e with
   | normal=>exact hK' .normal S' a' E' h1 h2 h3
   | ret=>exact hK' .ret S' a' E' h1 h2 h3
   | exit id' =>
    simp only [Ex.toExit,Exit.inBlock]
    rcases c2A h3 with ⟨e,h3⟩ | ⟨e,h3⟩
    ·have e:=Ag e
     rw [Aj e]
     exact hK' .normal S' a' E' h1 h2 h3
    ·have e:¬ id'=id:=fun e'=>by subst e'; simp at e
     rw [Ae e]
     exact hK' (.exit id') S' a' E' h1 h2 h3
  ·intro ro keep z hro an R S K a E Q q G W hf; cases hf
 | loop c ih =>
  refine ⟨?_,?_⟩
  ·intro ro keep z hro an R S K r a E Q h hR hK
   simp only [c1A,noG] at h
   refine y8A h hR (fun K' r' h' hK' => ?_) hK
   split at h'
   ·rename_i sp ex b hb
    obtain ⟨p0,hp0,h'⟩:=m0A h'
    rw [Option.bind_eq_some_iff] at h'
    obtain ⟨j,hj,h'⟩:=h'
    obtain ⟨n,hn⟩:=q1B hj
    obtain ⟨E0,hw0,hL0,hR0⟩:=v3A hR hR (Later.refl _ _) hp0
    rw [←hw0]
    refine wpIn_loop_rounds n ?_
    have key:∀ (n:Nat) (p0:PT sp) (a0:Act) (E0:Env),Later keep E E0→Rel keep z (c0A S sp p0 (d3A S)) a0 E0 →
      j3A (fun p=>c1A T H c b none (c0A S sp p (d3A S)) fun e S'=>match e with
       | .normal=>oM (d0A S S'.tmps sp S'.objs) Sum.inl
       | e=>oM (j7A S ex e S') Sum.inr) n p0=some j→Code.roundsIn (fw ro) 0 P c Q n a0 E0.w:=by
     intro n
     induction n with
     | zero=>intro p0 a0 E0 _ _ hn; cases hn
     | succ n ihn =>
      intro p0 a0 E0 hL0 hR0 hn
      rw [roundsIn_succ]
      simp only [j3A] at hn
      split at hn
      ·rename_i y hy
       refine ih.1 (hro.imp (fun h=>h) fun h=>h) _ hy hR0 fun e S' a' E' h1 h2 h3 => ?_
       cases e with
       | normal =>
        obtain ⟨p,hp,e⟩:=b4A h3
        cases e
        obtain ⟨E1,hw1,hL1,hR1⟩:=v3A hR h1 (hL0.trans h2) hp
        show Code.roundsIn (fw ro) 0 P c Q n a' E'.w
        rw [←hw1]
        exact ihn _ _ _ hL1 hR1 hn
       | exit id =>
        obtain ⟨p,hp,e⟩:=b4A h3
        cases e
       | ret =>
        obtain ⟨p,hp,e⟩:=b4A h3
        cases e
      ·rename_i j' hy
       cases hn
       refine ih.1 (hro.imp (fun h=>h) fun h=>h) _ hy hR0 fun e S' a' E' h1 h2 h3 => ?_
       cases e with
       | normal =>
        obtain ⟨p,hp,e⟩:=b4A h3
        cases e
       | exit id =>
        obtain ⟨p,hp,e⟩:=b4A h3
        cases e
        obtain ⟨E'',S'',hw,hL,hR'',he⟩:=y7A (K:=K') hR h1 (hL0.trans h2) ex hp
        show Q (.exit id) a' E'.w
        rw [←hw]
        exact hK' (.exit id) S'' a' E'' hR'' hL (by rw [←he]; exact h')
       | ret =>
        obtain ⟨p,hp,e⟩:=b4A h3
        cases e
        obtain ⟨E'',S'',hw,hL,hR'',he⟩:=y7A (K:=K') hR h1 (hL0.trans h2) ex hp
        show Q .ret a' E'.w
        rw [←hw]
        exact hK' .ret S'' a' E'' hR'' hL (by rw [←he]; exact h')
      ·cases hn
    exact key n p0 a E0 hL0 hR0 hn
   ·rename_i n b hb
    refine wpIn_loop_rounds n ?_
    have key:∀ (n:Nat) (S0:St) (a0:Act) (E0:Env),Later keep E E0→Rel keep z S0 a0 E0→n2B (fun S K=>c1A T H c b none S K) K' n S0=some r'→Code.roundsIn (fw ro) 0 P c Q n a0 E0.w:=by
     intro n
     induction n with
     | zero=>intro S0 a0 E0 _ _ hn; cases hn
     | succ n ihn =>
      intro S0 a0 E0 hL0 hR0 hn
      rw [roundsIn_succ]
      simp only [n2B] at hn
      refine ih.1 (hro.imp (fun h=>h) fun h=>h) _ hn hR0 fun e S' a' E' h1 h2 h3 => ?_
      cases e with
      | normal=>exact ihn S' a' E' (hL0.trans h2) h1 h3
      | exit id=>exact hK' (.exit id) S' a' E' h1 (hL0.trans h2) h3
      | ret=>exact hK' .ret S' a' E' h1 (hL0.trans h2) h3
    exact key n S a E (Later.refl _ _) hR h'
   ·rename_i sp ex b s g b1 c2 hb
    split at h'
    ·rename_i sp2 ex2 a2
     obtain ⟨p0,hp0,h'⟩:=m0A h'
     rw [Option.bind_eq_some_iff] at h'
     obtain ⟨res,hres,h'⟩:=h'
     obtain ⟨n,hn⟩:=q1B hres
     obtain ⟨E0,hw0,hL0,hR0⟩:=v3A hR hR (Later.refl _ _) hp0
     rw [←hw0]
     generalize hf:(fun (p:PT sp)=>bif Nat.beq (m7B (b1A (c0A S sp p (d3A S)).tmps s)) g then some (Sum.inr (Sum.inl p)) else c1A T H c b none (c0A S sp p (d3A S)) fun e S'=>match e with
      | .normal=>oM (d0A S S'.tmps sp S'.objs) (Sum.inl:PT sp→PT sp⊕(PT sp⊕JT ex))
      | e=>oM (j7A S ex e S') fun j=>Sum.inr (Sum.inr j))=f at hn
     have key:∀ (m n:Nat) (p0:PT sp) (a0:Act) (E0:Env),Later keep E E0→Rel keep z (c0A S sp p0 (d3A S)) a0 E0→j3A f n p0=some res →
       (∀ p a1 E1,res=.inl p→Later keep E E1→Rel keep z (c0A S sp p (d3A S)) a1 E1→Code.roundsIn (fw ro) 0 P c Q m a1 E1.w)→Code.roundsIn (fw ro) 0 P c Q (n+m) a0 E0.w:=by
      intro m n
      induction n with
      | zero=>intro p0 a0 E0 _ _ hn; cases hn
      | succ n ihn =>
       intro p0 a0 E0 hL0 hR0 hn hph
       have hround:∀ x,f p0=some x→(bif Nat.beq (m7B (b1A (c0A S sp p0 (d3A S)).tmps s)) g then some (Sum.inr (Sum.inl p0)) else c1A T H c b none (c0A S sp p0 (d3A S)) fun e S'=>match e with
         | .normal=>oM (d0A S S'.tmps sp S'.objs) (Sum.inl:PT sp→PT sp⊕(PT sp⊕JT ex))
         | e=>oM (j7A S ex e S') fun j=>Sum.inr (Sum.inr j))=some x:=fun x hx=>by rw [←hf] at hx; exact hx
       simp only [j3A] at hn
       split at hn
       ·rename_i y hy
        rcases c2A (hround _ hy) with ⟨_,hc⟩ | ⟨_,hc⟩
        ·cases hc
        ·rw [show n+1+m=(n+m)+1 by omega,roundsIn_succ]
         refine ih.1 (hro.imp (fun h=>h) fun h=>h) _ hc hR0 fun e S' a' E' h1 h2 h3 => ?_
         cases e with
         | normal =>
          obtain ⟨p,hp,e⟩:=b4A h3
          cases e
          obtain ⟨E1,hw1,hL1,hR1⟩:=v3A hR h1 (hL0.trans h2) hp
          show Code.roundsIn (fw ro) 0 P c Q (n+m) a' E'.w
          rw [←hw1]
          exact ihn _ _ _ hL1 hR1 hn hph
         | exit id=>obtain ⟨p,hp,e⟩:=b4A h3; cases e
         | ret=>obtain ⟨p,hp,e⟩:=b4A h3; cases e
       ·rename_i r0 hy
        cases hn
        rcases c2A (hround _ hy) with ⟨_,hc⟩ | ⟨_,hc⟩
        ·cases hc
         rw [show n+1+m=m+(n+1) by omega]
         exact z8D (hph p0 a0 E0 rfl hL0 hR0) (n+1)
        ·rw [show n+1+m=(n+m)+1 by omega,roundsIn_succ]
         refine ih.1 (hro.imp (fun h=>h) fun h=>h) _ hc hR0 fun e S' a' E' h1 h2 h3 => ?_
         cases e with
         | normal=>obtain ⟨p,hp,e⟩:=b4A h3; cases e
         | exit id =>
          obtain ⟨p,hp,e⟩:=b4A h3
          cases e
          obtain ⟨E'',S'',hw,hL,hR'',he⟩:=y7A (K:=K') hR h1 (hL0.trans h2) ex hp
          show Q (.exit id) a' E'.w
          rw [←hw]
          exact hK' (.exit id) S'' a' E'' hR'' hL (by rw [←he]; exact h')
         | ret =>
          obtain ⟨p,hp,e⟩:=b4A h3
          cases e
          obtain ⟨E'',S'',hw,hL,hR'',he⟩:=y7A (K:=K') hR h1 (hL0.trans h2) ex hp
          show Q .ret a' E'.w
          rw [←hw]
          exact hK' .ret S'' a' E'' hR'' hL (by rw [←he]; exact h')
       ·cases hn
     cases res with
     | inr j=>exact wpIn_loop_rounds (n+0) (key 0 n p0 a E0 hL0 hR0 hn fun p a1 E1 e=>(nomatch e))
     | inl pg =>
      dsimp only at h'
      rw [p9C hH.nat,Option.bind_eq_some_iff] at h'
      obtain ⟨⟨e1,S1⟩,hc1,h'⟩:=h'
      have one:∀ m:Nat,(∀ a2 E2,Later keep E E2→Rel keep z S1 a2 E2→Exit.then (Code.roundsIn (fw ro) 0 P c Q m) Q e1.toExit a2 E2.w)→(Code.loop c).wpIn (fw ro) 0 P Q a E0.w:=by
       intro m hm
       refine wpIn_loop_rounds (n+(m+1)) (key (m+1) n p0 a E0 hL0 hR0 hn fun p a1 E1 e hL1 hR1 => ?_)
       cases e
       rw [roundsIn_succ]
       refine ih.1 (hro.imp (fun h=>h) fun h=>h) _ hc1 hR1 fun e S' a' E' h1 h2 h3 => ?_
       cases h3
       exact hm a' E' (hL1.trans h2) h1
      cases e1 with
      | exit id=>exact one 0 fun a2 E2 hL2 hR2=>hK' (.exit id) S1 a2 E2 hR2 hL2 h'
      | ret=>exact one 0 fun a2 E2 hL2 hR2=>hK' .ret S1 a2 E2 hR2 hL2 h'
      | normal =>
       dsimp only at h'
       obtain ⟨p2,hp2,h'⟩:=m0A h'
       rw [Option.bind_eq_some_iff] at h'
       obtain ⟨j,hj,h'⟩:=h'
       obtain ⟨n2,hn2⟩:=q1B hj
       refine one n2 fun aa E2 hL2 hR2 => ?_
       show Code.roundsIn (fw ro) 0 P c Q n2 aa E2.w
       obtain ⟨E3,hw3,hL3,hR3⟩:=v3A hR2 hR2 (Later.refl _ _) hp2
       rw [←hw3]
       have key2:∀ (n:Nat) (p0:PT sp2) (a0:Act) (E0:Env),Later keep E2 E0→Rel keep z (c0A S1 sp2 p0 (d3A S1)) a0 E0 →
         j3A (fun p=>c1A T H c a2 none (c0A S1 sp2 p (d3A S1)) fun e S'=>match e with
          | .normal=>oM (d0A S1 S'.tmps sp2 S'.objs) Sum.inl
          | e=>oM (j7A S1 ex2 e S') Sum.inr) n p0=some j→Code.roundsIn (fw ro) 0 P c Q n a0 E0.w:=by
        intro n
        induction n with
        | zero=>intro p0 a0 E0 _ _ hn; cases hn
        | succ n ihn =>
         intro p0 a0 E0 hL0 hR0 hn
         rw [roundsIn_succ]
         simp only [j3A] at hn
         split at hn
         ·rename_i y hy
          refine ih.1 (hro.imp (fun h=>h) fun h=>h) _ hy hR0 fun e S' a' E' h1 h2 h3 => ?_
          cases e with
          | normal =>
           obtain ⟨p,hp,e⟩:=b4A h3
           cases e
           obtain ⟨E1,hw1,hL1,hR1⟩:=v3A hR2 h1 (hL0.trans h2) hp
           show Code.roundsIn (fw ro) 0 P c Q n a' E'.w
           rw [←hw1]
           exact ihn _ _ _ hL1 hR1 hn
          | exit id=>obtain ⟨p,hp,e⟩:=b4A h3; cases e
          | ret=>obtain ⟨p,hp,e⟩:=b4A h3; cases e
         ·rename_i j' hy
          cases hn
          refine ih.1 (hro.imp (fun h=>h) fun h=>h) _ hy hR0 fun e S' a' E' h1 h2 h3 => ?_
          cases e with
          | normal=>obtain ⟨p,hp,e⟩:=b4A h3; cases e
          | exit id =>
           obtain ⟨p,hp,e⟩:=b4A h3
           cases e
           obtain ⟨E'',S'',hw,hL,hR'',he⟩:=y7A (K:=K') hR2 h1 (hL0.trans h2) ex2 hp
           show Q (.exit id) a' E'.w
           rw [←hw]
           exact hK' (.exit id) S'' a' E'' hR'' (hL2.trans hL) (by rw [←he]; exact h')
          | ret =>
           obtain ⟨p,hp,e⟩:=b4A h3
           cases e
           obtain ⟨E'',S'',hw,hL,hR'',he⟩:=y7A (K:=K') hR2 h1 (hL0.trans h2) ex2 hp
           show Q .ret a' E'.w
           rw [←hw]
           exact hK' .ret S'' a' E'' hR'' (hL2.trans hL) (by rw [←he]; exact h')
         ·cases hn
       exact key2 n2 p2 aa E3 hL3 hR3 hn2
    ·cases h'
   ·rename_i sp ex k v b hb
    split at h'
    ·rename_i q hq
     obtain ⟨p0,hp0,h'⟩:=m0A h'
     rw [Option.bind_eq_some_iff] at h'
     obtain ⟨j,hj,h'⟩:=h'
     obtain ⟨n,hn⟩:=b3F hj
     obtain ⟨E0,hw0,hL0,hR0⟩:=v3A hR hR (Later.refl _ _) hp0
     rw [←hw0]
     refine wpIn_loop_rounds n ?_
     generalize hcs:(fun p=>match m9B (c0A S sp p (d3A S)) (b1A (c0A S sp p (d3A S)).tmps q.2) k v with
       | some m=>x9A m.es m.since m.seen m.last
       | none=>[])=cs at hn
     generalize hf:(fun (ch:Option (Nat×(den k.2×den v.2))) (p:PT sp)=>oB (m9B (c0A S sp p (d3A S)) (b1A (c0A S sp p (d3A S)).tmps q.2) k v) fun m=>match ch with
       | none=>c1A T H c b (some (gvN m)) (c0A S sp p (d3A S)) fun e S'=>match e with
        | .normal=>oM (d0A S S'.tmps sp S'.objs) Sum.inl
        | e=>oM (j7A S ex e S') Sum.inr
       | some en=>c1A T H c b (some (gvS m en)) (c0A S sp p (d3A S)) fun e S'=>match e with
        | .normal=>oM (d0A S S'.tmps sp S'.objs) Sum.inl
        | e=>oM (j7A S ex e S') Sum.inr)=f at hn
     have key:∀ (n:Nat) (p0:PT sp) (a0:Act) (E0:Env),Later keep E E0→Rel keep z (c0A S sp p0 (d3A S)) a0 E0→z9B cs f j n p0→Code.roundsIn (fw ro) 0 P c Q n a0 E0.w:=by
      intro n
      induction n with
      | zero=>intro p0 a0 E0 _ _ hn; exact hn.elim
      | succ n ihn =>
       intro p0 a0 E0 hL0 hR0 hn
       rw [roundsIn_succ]
       obtain ⟨hne,hall⟩:=hn
       cases hmit:m9B (c0A S sp p0 (d3A S)) (b1A (c0A S sp p0 (d3A S)).tmps q.2) k v with
       | none =>
        exfalso
        apply hne
        rw [←hcs]
        dsimp only
        rw [hmit]
       | some m =>
        have hcsm:cs p0=x9A m.es m.since m.seen m.last:=by
         rw [←hcs]
         dsimp only
         rw [hmit]
        rw [hcsm] at hne hall
        have hop:=b1F hq
        have hnext:=b2F (P:=P) hR0.slots hR0.mems hop.1 hmit hne
        refine ih.2 (hro.imp (fun h=>h) fun h=>h) b (W:=fun r=>match r with
         | .inl y=>z9B cs f j n y
         | .inr s=>s=j) (K:=fun e S'=>match e with
         | .normal=>oM (d0A S S'.tmps sp S'.objs) Sum.inl
         | e=>oM (j7A S ex e S') Sum.inr) hq hnext hR0 (fun g hg => ?_) fun e S' a' E' r hW h1 h2 h3 => ?_
        ·obtain ⟨ch,hch,rfl⟩:=hg
         have hfc:=hall ch hch
         cases ch with
         | none =>
          have hfe:f none p0=c1A T H c b (some (gvN m)) (c0A S sp p0 (d3A S)) fun e S'=>match e with
            | .normal=>oM (d0A S S'.tmps sp S'.objs) Sum.inl
            | e=>oM (j7A S ex e S') Sum.inr:=by
           rw [←hf]
           dsimp only
           rw [hmit]
           rfl
          dsimp only
          rw [←hfe]
          revert hfc
          cases f none p0 with
          | none=>intro hfc; exact hfc.elim
          | some r=>cases r <;> intro hfc <;> exact ⟨_,rfl,hfc⟩
         | some en =>
          have hfe:f (some en) p0=c1A T H c b (some (gvS m en)) (c0A S sp p0 (d3A S)) fun e S'=>match e with
            | .normal=>oM (d0A S S'.tmps sp S'.objs) Sum.inl
            | e=>oM (j7A S ex e S') Sum.inr:=by
           rw [←hf]
           dsimp only
           rw [hmit]
           rfl
          dsimp only
          rw [←hfe]
          revert hfc
          cases f (some en) p0 with
          | none=>intro hfc; exact hfc.elim
          | some r=>cases r <;> intro hfc <;> exact ⟨_,rfl,hfc⟩
        ·cases e with
         | normal =>
          obtain ⟨p,hp,e⟩:=b4A h3
          subst e
          obtain ⟨E1,hw1,hL1,hR1⟩:=v3A hR h1 (hL0.trans h2) hp
          show Code.roundsIn (fw ro) 0 P c Q n a' E'.w
          rw [←hw1]
          exact ihn _ _ _ hL1 hR1 hW
         | exit id =>
          obtain ⟨p,hp,e⟩:=b4A h3
          subst e
          have hW:p=j:=hW
          subst hW
          obtain ⟨E'',S'',hw,hL,hR'',he⟩:=y7A (K:=K') hR h1 (hL0.trans h2) ex hp
          show Q (.exit id) a' E'.w
          rw [←hw]
          exact hK' (.exit id) S'' a' E'' hR'' hL (by rw [←he]; exact h')
         | ret =>
          obtain ⟨p,hp,e⟩:=b4A h3
          subst e
          have hW:p=j:=hW
          subst hW
          obtain ⟨E'',S'',hw,hL,hR'',he⟩:=y7A (K:=K') hR h1 (hL0.trans h2) ex hp
          show Q .ret a' E'.w
          rw [←hw]
          exact hK' .ret S'' a' E'' hR'' hL (by rw [←he]; exact h')
     exact key n p0 a E0 hL0 hR0 hn
    ·cases h'
   ·cases h'
  ·intro ro keep z hro an R S K a E Q q G W hf; cases hf
 | scope c ih =>
  refine ⟨?_,?_⟩
  ·intro ro keep z hro an R S K r a E Q h hR hK
   simp only [c1A,noG] at h
   refine y8A h hR (fun K' r' h' hK' => ?_) hK
   refine e5F (ih.1 (hro.imp (fun h=>h) fun h=>h) _ h' hR fun e S' a' E' h1 h2 h3 => ?_)
   cases e with
   | normal=>exact hK' .normal S' a' E' h1 h2 h3
   | exit id=>exact hK' (.exit id) S' a' E' h1 h2 h3
   | ret=>exact hK' .ret S' a' E' h1 h2 h3
  ·intro ro keep z hro an R S K a E Q q G W hf; cases hf
 | rangeFunc f ps x y ihx ihy =>
  refine ⟨?_,?_⟩
  ·intro ro keep z hro an R S K r a E Q h hR hK
   have hro:ro=none:=hro.elim id fun h=>(nomatch h)
   subst hro
   simp only [c1A,noG] at h
   refine y8A h hR (fun K' r' h' hK' => ?_) hK
   split at h'
   ·rename_i sp ex b hb
    rcases c2A h' with ⟨hc,h'⟩ | ⟨_,h'⟩
    ·simp only [Ac] at hc
     obtain ⟨⟨hc1,hc2⟩,hc3⟩:=hc
     obtain ⟨bk,hbk,h'⟩:=m0A h'
     exact f0F hH (z:=z) (x:=x) (y:=y) (as:=fun S K=>c1A T H x .no none S K) (bo:=fun S K=>c1A T H y b none S K)
      (fun ro keep _ _ _ _ _ _ _ h hR hK=>ihx.1 (.inr hc1) _ h hR hK) (fun ro keep _ _ _ _ _ _ _ h hR hK=>ihy.1 (.inr hc2) _ h hR hK) (Ag hc3) hbk h' hR hK'
    ·cases h'
   ·cases h'
  ·intro ro keep z hro an R S K a E Q q G W hf; cases hf
 | goto l =>
  refine ⟨?_,by intro ro keep z hro an R S K a E Q q G W hf; cases hf⟩
  intro ro keep z hro an R S K r a E Q h; simp only [c1A] at h; cases h
 | refuse w =>
  refine ⟨?_,by intro ro keep z hro an R S K a E Q q G W hf; cases hf⟩
  intro ro keep z hro an R S K r a E Q h; simp only [c1A] at h; cases h
theorem f4F (c:Code):z9D P T H c:=(f3F hT hH hP c).1
end
end Go.Rx
