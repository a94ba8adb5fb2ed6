import Derived.Test.YtjbbjnjcjjomgaaGreatDoorX1
import Derived.Laws.CopyRow
import Derived.IntWalk
import Derived.Laws.NewFold
import Derived.LoopN
import Derived.Tactics
import Derived.Scope
import Derived.CallsIn
import Derived.ControlIn
import Derived.OrdersIn
import Derived.TacticsIn
set_option linter.unusedSimpArgs false
set_option linter.unusedVariables false
set_option linter.unusedSectionVars false
namespace Go.Rx
variable [Inhabited GW]
theorem d4A (id:Nat) (o:OC):∀ (l:Objs) (j:Nat),a1A j (a9A id o l)=if j=id then some o else a1A j l
 | [],j=>by
  simp only [a9A,a1A]
  by_cases h:j=id
  ·subst h; simp
  ·have:Nat.beq id j=false:=by
    cases hb:Nat.beq id j with
    | true=>exact absurd (Ag hb).symm h
    | false=>rfl
   simp [this,h]
 | (k,p)::r,j=>by
  simp only [a9A]
  cases h1:Nat.beq k id with
  | true =>
   have hk:k=id:=Ag h1
   subst hk
   simp only [Al,a1A]
   cases h2:Nat.beq k j with
   | true =>
    have:k=j:=Ag h2
    subst this; simp
   | false =>
    have:¬ j=k:=fun e=>by subst e; simp at h2
    simp [this]
  | false =>
   simp only [Ai]
   cases Nat.blt id k with
   | true =>
    simp only [Al,a1A]
    cases h2:Nat.beq id j with
    | true =>
     have:id=j:=Ag h2
     subst this; simp
    | false =>
     have:¬ j=id:=fun e=>by subst e; simp at h2
     simp [this]
   | false =>
    simp only [Ai,a1A]
    cases h2:Nat.beq k j with
    | true =>
     have:k=j:=Ag h2
     subst this
     have:¬ k=id:=fun e=>by subst e; simp at h1
     simp [this]
    | false=>simp only [Ai]; exact d4A id o r j
theorem i3A (id:Nat):∀ (l:Objs) (j:Nat),a1A j (b9A id l)=if j=id then none else a1A j l
 | [],j=>by simp [b9A,a1A]
 | (k,p)::r,j=>by
  simp only [b9A]
  cases h1:Nat.beq k id with
  | true =>
   have hk:k=id:=Ag h1
   subst hk
   simp only [Al,a1A]
   rw [i3A k r j]
   by_cases hj:j=k
   ·simp [hj]
   ·have:Nat.beq k j=false:=by
     cases hb:Nat.beq k j with
     | true=>exact absurd (Ag hb).symm hj
     | false=>rfl
    simp [hj,this]
  | false =>
   simp only [Ai,a1A]
   cases h2:Nat.beq k j with
   | true =>
    have:k=j:=Ag h2
    subst this
    have:¬ k=id:=fun e=>by subst e; simp at h1
    simp [this]
   | false=>simp only [Ai]; exact i3A id r j
section
variable {keep:Nat→Prop} {E E':Env}
theorem c5A.later (h:Later keep E E') {m:MI} {oc:OC} (hb:∀ b,m.blk=some b→E'.w.heap[b]? = E.w.heap[b]?) (r:c5A E m oc):c5A E' m oc:=by
 cases oc with
 | box cs =>
  obtain ⟨b,vs,e,h1,h2,h3⟩:=r
  exact ⟨b,vs,e,h1,(hb b h1).trans h2,b0A.later h h3⟩
 | arr t l =>
  obtain ⟨h1,h2,r⟩:=r
  refine ⟨h1,h2,?_⟩
  cases hm:m.blk with
  | none=>rw [hm] at r; exact r
  | some b =>
   rw [hm] at r
   obtain ⟨vs,e,h3,h4,h5,r⟩:=r
   refine ⟨vs,e,(hb b hm).trans h3,h4,h5,fun i hi => ?_⟩
   obtain ⟨cs,r1,r2⟩:=r i hi
   exact ⟨cs,a2A.later h r1,r2⟩
 | map es =>
  obtain ⟨b,ms,ck,h1,h2,h3,h4⟩:=r
  exact ⟨b,ms,ck,h1,(hb b h1).trans h2,h3,e5A.later h h4⟩
 | iter s pos =>
  obtain ⟨b,h1,h2⟩:=r
  exact ⟨b,h1,(hb b h1).trans h2⟩
 | mp kt vt es ck =>
  obtain ⟨b,ms,h1,h2,h3⟩:=r
  exact ⟨b,ms,h1,(hb b h1).trans h2,b5A.later h h3⟩
 | hol t l g cs far =>
  obtain ⟨h1,h2,b,vs,e,h3,h4,h5,h6,h7⟩:=r
  exact ⟨h1,h2,b,vs,e,h3,(hb b h3).trans h4,h5,h6,a5B.later h h7⟩
 | mit j since seen last =>
  obtain ⟨b,mb,h1,h2,h3,h4⟩:=r
  exact ⟨b,mb,h1,Bi h2 h.N,by rw [h.M j h2]; exact h3,(hb b h1).trans h4⟩
def Env.new (E:Env) (w:World) (m:MI):Env:={ w:=w,ro:=E.ro,M:=fun i=>if i=E.N then m else E.M i,N:=E.N+1 }
theorem b7C {h:Array Obj} {o:Obj} {b:Nat} (hb:b<h.size):(h.push o)[b]? = h[b]? := by
 rw [Array.getElem?_push]; rw [Ae (by omega)]
theorem a7B {w:World} {m:MI} {o:Obj} (hw:w.heap=E.w.heap.push o) (hx:e1A E.w w) {objs:Objs} (hm:a4A E keep objs):Later keep E (E.new w m):=
 ⟨fun _ h=>h,fun _ h=>.inl h,fun id hi=>by simp [Env.new,El hi],Ej _,by simp [Env.new,hw],
  fun b hb=>by simp only [Env.new,hw]; exact b7C (hm.rob b hb),fun b hb=>by simp only [Env.new,hw]; exact b7C (hm.kb b hb),hx⟩
theorem j8A {m:MI} {oc:OC} {b:Nat} (h:c5A E m oc) (hb:m.blk=some b):b<E.w.heap.size:=by
 have key:∀ {o:Obj},E.w.heap[b]? = some o→b<E.w.heap.size:=fun h=>by
  rcases Dh b E.w.heap.size with h' | h'
  ·exact h'
  ·rw [Eg h'] at h; cases h
 cases oc with
 | box cs =>
  obtain ⟨b',vs,e,h1,h2,h3⟩:=h
  rw [hb] at h1; cases h1
  exact key h2
 | arr t l =>
  obtain ⟨_,_,r⟩:=h
  rw [hb] at r
  obtain ⟨vs,e,h3,_⟩:=r
  exact key h3
 | map es =>
  obtain ⟨b',ms,ck,h1,h2,_⟩:=h
  rw [hb] at h1; cases h1
  exact key h2
 | iter s pos =>
  obtain ⟨b',h1,h2⟩:=h
  rw [hb] at h1; cases h1
  exact key h2
 | mp kt vt es ck =>
  obtain ⟨b',ms,h1,h2,_⟩:=h
  rw [hb] at h1; cases h1
  exact key h2
 | hol t l g cs far =>
  obtain ⟨_,_,b',vs,e,h1,h2,_⟩:=h
  rw [hb] at h1; cases h1
  exact key h2
 | mit j since seen last =>
  obtain ⟨b',mb,h1,_,_,h2⟩:=h
  rw [hb] at h1; cases h1
  exact key h2
theorem d6B {w:World} {m:MI} {o:Obj} (hw:w.heap=E.w.heap.push o) (hx:e1A E.w w) {objs:Objs} (hm:a4A E keep objs) {oc:OC}
  (hblk:∀ b,m.blk=some b→b=E.w.heap.size) (hr:c5A (E.new w m) m oc):a4A (E.new w m) keep (a9A E.N oc objs):=by
 have hL:=a7B (m:=m) hw hx hm
 have hM:∀ id,(E.new w m).M id=if id=E.N then m else E.M id:=fun _=>rfl
 refine ⟨fun id oc' h => ?_,fun id oc' b h hb => ?_,fun id id' oc1 oc2 b h h' hb hb' => ?_,fun b hb => ?_,fun b hb => ?_,hm.gl.later hL⟩
 ·rw [d4A] at h
  rw [hM]
  by_cases hi:id=E.N
  ·rw [Aj hi] at h ⊢
   cases h
   exact ⟨by rw [hi]; exact Cg _,hr⟩
  ·rw [Ae hi] at h ⊢
   obtain ⟨h1,h2⟩:=hm.rep _ _ h
   refine ⟨Eh h1,c5A.later hL (fun b hb => ?_) h2⟩
   simp only [Env.new,hw]
   exact b7C (j8A h2 hb)
 ·rw [d4A] at h
  rw [hM] at hb
  by_cases hi:id=E.N
  ·rw [Aj hi] at hb
   have:=hblk b hb
   subst this
   exact ⟨fun hc=>absurd (hm.rob _ hc) (Nat.lt_irrefl _),fun hc=>absurd (hm.kb _ hc) (Nat.lt_irrefl _)⟩
  ·rw [Ae hi] at h hb
   exact hm.sep _ _ _ h hb
 ·rw [d4A] at h h'
  rw [hM] at hb hb'
  by_cases hi:id=E.N <;> by_cases hi':id'=E.N
  ·rw [hi,hi']
  ·rw [Aj hi] at hb
   rw [Ae hi'] at h' hb'
   have:=j8A (hm.rep _ _ h').2 hb'
   rw [hblk b hb] at this
   exact absurd this (Nat.lt_irrefl _)
  ·rw [Aj hi'] at hb'
   rw [Ae hi] at h hb
   have:=j8A (hm.rep _ _ h).2 hb
   rw [hblk b hb'] at this
   exact absurd this (Nat.lt_irrefl _)
  ·rw [Ae hi] at h hb
   rw [Ae hi'] at h' hb'
   exact hm.inj _ _ _ _ _ h h' hb hb'
 ·have:=hm.rob b hb
  show b<w.heap.size
  rw [hw,Array.size_push]; omega
 ·have:=hm.kb b hb
  show b<w.heap.size
  rw [hw,Array.size_push]; omega
def Env.at (E:Env) (w:World):Env:={ E with w:=w }
theorem a8B {w:World} {b:Nat} (hx:e1A E.w w) (hs:w.heap.size=E.w.heap.size) (ho:∀ k,k≠b→w.heap[k]? = E.w.heap[k]?) (hro:¬ E.ro b) (hk:¬ keep b):Later keep E (E.at w):=
 ⟨fun _ h=>h,fun _ h=>.inl h,fun _ _=>rfl,Ay _,by simp [Env.at,hs],
  fun k hb=>ho k (fun e=>hro (e▸hb)),fun k hb=>ho k (fun e=>hk (e▸hb)),hx⟩
theorem a9B {w:World} {b id:Nat} {objs:Objs} {oc oc':OC} (hx:e1A E.w w) (hs:w.heap.size=E.w.heap.size) (ho:∀ k,k≠b→w.heap[k]? = E.w.heap[k]?) (hm:a4A E keep objs)
  (hl:a1A id objs=some oc) (hb:(E.M id).blk=some b) (hr:c5A (E.at w) (E.M id) oc'):a4A (E.at w) keep (a9A id oc' objs):=by
 have hsep:=hm.sep _ _ _ hl hb
 have hL:=a8B (keep:=keep) hx hs ho hsep.1 hsep.2
 refine ⟨fun j o h => ?_,fun j o b' h hb' => ?_,fun j j' o1 o2 b' h h' hb1 hb2 => ?_,fun b' hb' => ?_,fun b' hb' => ?_,hm.gl.later hL⟩
 ·rw [d4A] at h
  by_cases hj:j=id
  ·rw [Aj hj] at h
   cases h
   subst hj
   exact ⟨(hm.rep _ _ hl).1,hr⟩
  ·rw [Ae hj] at h
   obtain ⟨h1,h2⟩:=hm.rep _ _ h
   exact ⟨h1,c5A.later hL (fun b' hb'=>ho b' (fun e=>hj (hm.inj _ _ _ _ b h hl (e▸hb') hb))) h2⟩
 ·rw [d4A] at h
  by_cases hj:j=id
  ·subst hj
   exact hm.sep _ _ _ hl hb'
  ·rw [Ae hj] at h
   exact hm.sep _ _ _ h hb'
 ·rw [d4A] at h h'
  have f:∀ {j o},(if j=id then some oc' else a1A j objs)=some o→∃ o',a1A j objs=some o':=by
   intro j o h
   by_cases hj:j=id
   ·exact ⟨oc,by rw [hj]; exact hl⟩
   ·rw [Ae hj] at h; exact ⟨_,h⟩
  obtain ⟨_,h⟩:=f h
  obtain ⟨_,h'⟩:=f h'
  exact hm.inj _ _ _ _ _ h h' hb1 hb2
 ·show b'<w.heap.size
  rw [hs]; exact hm.rob b' hb'
 ·show b'<w.heap.size
  rw [hs]; exact hm.kb b' hb'
def Env.free (E:Env) (b:Nat):Env:={ E with ro:=fun k=>E.ro k∨k=b }
theorem s9B {b:Nat} (hk:¬ keep b):Later keep E (E.free b):=
 ⟨fun _ h=>.inl h,fun _ h=>h.elim .inl fun e=>.inr (e▸hk),fun _ _=>rfl,Ay _,Ay _,fun _ _=>rfl,fun _ _=>rfl,e1A.refl _⟩
theorem s0A {id:Nat} {objs:Objs} (hm:a4A E keep objs):a4A E keep (b9A id objs):=by
 have f:∀ {j o},a1A j (b9A id objs)=some o→a1A j objs=some o∧j≠id:=by
  intro j o h
  rw [i3A] at h
  by_cases hj:j=id
  ·rw [Aj hj] at h; cases h
  ·rw [Ae hj] at h; exact ⟨h,hj⟩
 exact ⟨fun j o h=>hm.rep _ _ (f h).1,fun j o b h=>hm.sep _ _ _ (f h).1,fun j j' o o' b h h'=>hm.inj _ _ _ _ _ (f h).1 (f h').1,hm.rob,hm.kb,hm.gl⟩
theorem d6D {id b:Nat} {objs:Objs} {oc:OC} (hm:a4A E keep objs) (hl:a1A id objs=some oc) (hb:(E.M id).blk=some b):a4A (E.free b) keep (b9A id objs):=by
 have f:∀ {j o},a1A j (b9A id objs)=some o→a1A j objs=some o∧j≠id:=by
  intro j o h
  rw [i3A] at h
  by_cases hj:j=id
  ·rw [Aj hj] at h; cases h
  ·rw [Ae hj] at h; exact ⟨h,hj⟩
 have hL:=s9B (E:=E) (keep:=keep) (b:=b) (hm.sep _ _ _ hl hb).2
 refine ⟨fun j o h => ?_,fun j o b' h hb' => ?_,fun j j' o o' b' h h'=>hm.inj _ _ _ _ _ (f h).1 (f h').1,fun b' hb' => ?_,hm.kb,hm.gl.later hL⟩
 ·obtain ⟨h1,h2⟩:=hm.rep _ _ (f h).1
  exact ⟨h1,c5A.later hL (fun _ _=>rfl) h2⟩
 ·obtain ⟨h1,h2⟩:=hm.sep _ _ _ (f h).1 hb'
  exact ⟨fun hc=>hc.elim h1 fun e=>(f h).2 (hm.inj _ _ _ _ b (f h).1 hl (e▸hb') hb),h2⟩
 ·exact hb'.elim (hm.rob b') fun e=>e▸(j8A (E:=E) (hm.rep _ _ hl).2 hb:b<E.w.heap.size)
theorem b8C {α:Type} (l:List α) (r:Option (Nat×Nat)):h3A l r=(l.drop (d1A r)).take (e9A l.length r):=by
 cases r with
 | none=>simp [h3A,d1A,e9A]
 | some p=>rfl
theorem n9C {m:MI} {t:Ty} {l:List (den t)} {id:Nat} {rg:Option (Nat×Nat)} {v:Value} (hid:E.M id=m) (hl:c5A E m (.arr t l)) (hv:a6A E (.oref id rg) [v]) :
  ∀ E':Env,Later keep E E'→(∀ b,m.blk=some b→E'.ro b)→E'.w=E.w→a2A E' (.sl t) (h3A l rg) [v]:=by
 intro E' hL hro hw
 rw [b8C]
 obtain ⟨h1,h2,r⟩:=hl
 obtain ⟨_,hv⟩:=hv
 rw [hid,h1] at hv
 generalize hoff:d1A rg=off at hv ⊢
 generalize hlen0:e9A l.length rg=len at hv ⊢
 cases hm:m.blk with
 | none =>
  rw [hm] at hv r
  obtain ⟨hv,rfl,rfl⟩:=hv
  subst r
  exact ⟨none,0,by simpa using hv,by simp,.inl (by simp)⟩
 | some b =>
  rw [hm] at hv r
  obtain ⟨o,cap,hv,hc,hlen,hcap⟩:=hv
  obtain ⟨vs,e,h3,h4,h5,r⟩:=r
  have hll:((l.drop off).take len).length=len:=by rw [Ap,Ar]; omega
  refine ⟨some ⟨b,o,none⟩,cap,by rw [hll]; exact hv,⟨by rw [hll]; exact hc,nofun⟩,?_⟩
  by_cases hz:len=0
  ·exact .inl (by rw [hll]; exact hz)
  ·right
   have hcap:=hcap.resolve_left (by omega)
   refine ⟨b,o,rfl,hro b hm,fun i hi => ?_⟩
   obtain ⟨cs,r1,r2⟩:=r (off+i) (by omega)
   refine ⟨cs,by rw [List.getElem_take,List.getElem_drop]; exact a2A.later hL r1,fun j x hj => ?_⟩
   rw [hw,cell_of_row E.w b _ vs e _ h3]
   have:=r2 j x hj
   rw [hcap.1,h2]
   rw [Ca] at this
   rw [show m.base+off*a0A t+i*a0A t+j=m.base+(off*a0A t+i*a0A t)+j by omega]; exact this
theorem t0B {E:Env} {keep:Nat→Prop} {objs objs':Objs} (h:a4A E keep objs) (hs:∀ j oc,a1A j objs'=some oc→a1A j objs=some oc):a4A E keep objs' :=
 ⟨fun id oc hl=>h.rep id oc (hs _ _ hl),fun id oc b hl=>h.sep id oc b (hs _ _ hl),fun id id' oc oc' b hl hl'=>h.inj id id' oc oc' b (hs _ _ hl) (hs _ _ hl'),h.rob,h.kb,h.gl⟩
def d8A (E:Env) (objs:Objs) (b:Nat):Prop:=∃ id oc,a1A id objs=some oc∧(E.M id).blk=some b
theorem d7D {t:Ty} {objs objs':Objs} {id:Nat} {rg:Option (Nat×Nat)} {x:List (den t)} (h:p9A t objs id rg=some (x,objs')):∀ j oc,a1A j objs'=some oc→a1A j objs=some oc:=by
 intro j oc hj
 unfold p9A at h
 split at h
 ·rename_i t' l hl
  obtain ⟨l',hc,h⟩:=b4A h
  cases h
  rw [i3A] at hj
  split at hj
  ·cases hj
  ·exact hj
 ·cases h
theorem y3E {t:Ty} {objs objs':Objs} {id:Nat} {rg:Option (Nat×Nat)} {v:Value} {x:List (den t)} (hm:a4A E keep objs) (hv:a6A E (.oref id rg) [v]) (h:p9A t objs id rg=some (x,objs')) :
  ∃ E',E'.w=E.w∧E'.M=E.M∧E'.N=E.N∧Later keep E E'∧a4A E' keep objs'∧a2A E' (.sl t) x [v]∧(∀ b,E'.ro b→E.ro b∨d8A E objs b):=by
 unfold p9A at h
 split at h
 ·rename_i t' l hl
  obtain ⟨l',hc,h⟩:=b4A h
  obtain ⟨rfl,e⟩:=n2A hc
  have e:l=l':=e
  subst e
  cases h
  have ho:=(hm.rep _ _ hl).2
  cases hb:(E.M id).blk with
  | none =>
   exact ⟨E,rfl,rfl,rfl,Later.refl _ _,s0A hm,n9C rfl ho hv E (Later.refl keep E) (fun b hb'=>by rw [hb] at hb'; cases hb') rfl,fun _ h=>.inl h⟩
  | some b =>
   have hL:=s9B (E:=E) (keep:=keep) (b:=b) (hm.sep _ _ _ hl hb).2
   exact ⟨E.free b,rfl,rfl,rfl,hL,d6D hm hl hb,n9C rfl ho hv _ hL (fun b' hb'=>by rw [hb] at hb'; cases hb'; exact .inr rfl) rfl,fun k h=>h.elim .inl fun e=>.inr ⟨id,_,hl,by rw [hb,e]⟩⟩
 ·cases h
structure g7A (keep:Nat→Prop) (E E':Env):Prop where
 w:E'.w=E.w
 M:E'.M=E.M
 N:E'.N=E.N
 later:Later keep E E'
theorem g7A.refl (keep:Nat→Prop) (E:Env):g7A keep E E:=⟨rfl,rfl,rfl,Later.refl _ _⟩
theorem g7A.trans {E'':Env} (h:g7A keep E E') (h':g7A keep E' E''):g7A keep E E'' :=
 ⟨h'.w.trans h.w,h'.M.trans h.M,h'.N.trans h.N,h.later.trans h'.later⟩
theorem t0D {E E1 E2:Env} {objs objs1:Objs} (g:g7A keep E E1) (l1:∀ b,E1.ro b→E.ro b∨d8A E objs b) (l2:∀ b,E2.ro b→E1.ro b∨d8A E1 objs1 b)
  (s1:∀ j oc,a1A j objs1=some oc→a1A j objs=some oc):∀ b,E2.ro b→E.ro b∨d8A E objs b:=fun b h=>(l2 b h).elim (l1 b) fun ⟨id,oc,h1,h2⟩=>.inr ⟨id,oc,s1 _ _ h1,by rw [←g.M]; exact h2⟩
theorem y4E {t:Ty} (n:Nat) {xs:List (den t)} {us:List (List Value)} (hn:xs.length=n) (hu:us.length=n) (h:∀ i,(h:i<xs.length)→∃ u,us[i]? = some u∧a2A E t xs[i] u) :
  a2A E (.arr n t) xs us.flatten:=by
 have hall:∀ u∈us,u.length=a0A t:=by
  intro u hm
  obtain ⟨i,hi,rfl⟩:=List.getElem_of_mem hm
  obtain ⟨u',e,r⟩:=h i (by omega)
  rw [Aq hi] at e
  cases e
  exact a2A.length r
 have hlen:∀ us:List (List Value),(∀ u∈us,u.length=a0A t)→us.flatten.length=us.length*a0A t:=by
  intro us
  induction us with
  | nil=>intro _; simp
  | cons a l ih=>intro h; rw [List.flatten_cons,Ak,h a (by simp),ih (fun u hu=>h u (by simp [hu])),Be,Ca]; omega
 have hget:∀ us:List (List Value),(∀ u∈us,u.length=a0A t)→∀ (i:Nat) (u:List Value),us[i]? = some u→∀ (j:Nat) (v:Value),u[j]? = some v→us.flatten[i*a0A t+j]? = some v:=by
  intro us
  induction us with
  | nil=>intro _ i u e; cases i <;> cases e
  | cons a l ih =>
   intro h i u e j v hj
   have ha:=h a (by simp)
   cases i with
   | zero =>
    cases e
    rw [Eb,Dk,List.flatten_cons,Bd (by
     rcases Dh j a.length with h' | h'
     ·exact h'
     ·rw [Bq h'] at hj; cases hj)]
    exact hj
   | succ i =>
    have:=ih (fun u hu=>h u (by simp [hu])) i u e j v hj
    rw [List.flatten_cons,List.getElem?_append_right (by rw [ha,Ca]; omega),ha,Ca,
     show i*a0A t+1*a0A t+j - a0A t=i*a0A t+j by omega]
    exact this
 refine ⟨hn,by rw [hlen us hall,hu],fun i hi => ?_⟩
 obtain ⟨u,e,r⟩:=h i hi
 exact ⟨u,r,hget us hall i u e⟩
theorem v1A:∀ (t:Ty) {cs rest:List AV} {objs objs':Objs} {x:den t} {vs:List Value} {E:Env},t.pure=true→b0A E cs vs→a4A E keep objs→b2A t cs objs=some (x,rest,objs') →
  ∃ E' u v,g7A keep E E'∧a4A E' keep objs'∧vs=u++v∧a2A E' t x u∧b0A E' rest v∧(∀ b,E'.ro b→E.ro b∨d8A E objs b)∧(∀ j oc,a1A j objs'=some oc→a1A j objs=some oc)
 | .int k,cs,rest,objs,objs',x,vs,E,_,hc,hm,h=>by
  simp only [b2A] at h
  split at h
  ·split at h
   ·rename_i hk
    cases h
    subst hk
    obtain ⟨u,v,e,r1,r2⟩:=hc
    exact ⟨E,u,v,g7A.refl _ _,hm,e,r1,r2,fun _ h=>.inl h,fun _ _ h=>h⟩
   ·cases h
  ·cases h
 | .bool,cs,rest,objs,objs',x,vs,E,_,hc,hm,h=>by
  simp only [b2A] at h
  split at h
  ·cases h
   obtain ⟨u,v,e,r1,r2⟩:=hc
   exact ⟨E,u,v,g7A.refl _ _,hm,e,r1,r2,fun _ h=>.inl h,fun _ _ h=>h⟩
  ·cases h
 | .str,cs,rest,objs,objs',x,vs,E,_,hc,hm,h=>by
  simp only [b2A] at h
  split at h
  ·cases h
   obtain ⟨u,v,e,r1,r2⟩:=hc
   exact ⟨E,u,v,g7A.refl _ _,hm,e,r1,r2,fun _ h=>.inl h,fun _ _ h=>h⟩
  ·cases h
 | .sl t,cs,rest,objs,objs',x,vs,E,hp,hc,hm,h=>by
  simp only [b2A] at h
  split at h
  ·obtain ⟨l',hl,h⟩:=b4A h
   cases h
   obtain ⟨rfl,e⟩:=n2A hl
   obtain ⟨u,v,e2,r1,r2⟩:=hc
   exact ⟨E,u,v,g7A.refl _ _,hm,e2,e▸r1,r2,fun _ h=>.inl h,fun _ _ h=>h⟩
  ·cases h
   obtain ⟨u,v,e2,r1,r2⟩:=hc
   exact ⟨E,u,v,g7A.refl _ _,hm,e2,⟨none,0,r1,⟨Ay _,fun _=>rfl⟩,.inl rfl⟩,r2,fun _ h=>.inl h,fun _ _ h=>h⟩
  ·rename_i id rg r
   obtain ⟨⟨l',o'⟩,hl,h⟩:=b4A h
   cases h
   obtain ⟨u,v,e2,r1,r2⟩:=hc
   have hu:∃ y,u=[y]:=by
    have:=a6A.length r1
    match u,this with
    | [y],_=>exact ⟨y,rfl⟩
   obtain ⟨y,rfl⟩:=hu
   obtain ⟨E',g1,g2,g3,g4,g5,g6,g7⟩:=y3E hm r1 hl
   exact ⟨E',[y],v,⟨g1,g2,g3,g4⟩,g5,e2,g6,b0A.later g4 r2,g7,d7D hl⟩
  ·cases h
 | .own t,_,_,_,_,_,_,_,hp,_,_,_=>by cases hp
 | .unit,cs,rest,objs,objs',x,vs,E,_,hc,hm,h=>by
  simp only [b2A] at h
  cases h
  exact ⟨E,[],vs,g7A.refl _ _,hm,rfl,rfl,hc,fun _ h=>.inl h,fun _ _ h=>h⟩
 | .pair a b,cs,rest,objs,objs',x,vs,E,hp,hc,hm,h=>by
  simp only [Ty.pure,Ac] at hp
  simp only [b2A] at h
  split at h
  ·rename_i y cs1 objs1 h1
   split at h
   ·rename_i z cs2 objs2 h2
    cases h
    obtain ⟨E1,u,v,g1,m1,rfl,t1,c1,l1,s1⟩:=v1A a hp.1 hc hm h1
    obtain ⟨E2,u',v',g2,m2,rfl,t2,c2,l2,s2⟩:=v1A b hp.2 c1 m1 h2
    exact ⟨E2,u++u',v',g1.trans g2,m2,by rw [Bz],⟨u,u',rfl,a2A.later g2.later t1,t2⟩,c2,t0D g1 l1 l2 s1,fun j oc h=>s1 j oc (s2 j oc h)⟩
   ·cases h
  ·cases h
 | .arr n t,cs,rest,objs,objs',x,vs,E,hp,hc,hm,h=>by
  simp only [b2A] at h
  split at h
  ·split at h
   ·rename_i hn
    subst hn
    obtain ⟨l',hl,h⟩:=b4A h
    cases h
    obtain ⟨rfl,e⟩:=n2A hl
    obtain ⟨u,v,e2,r1,r2⟩:=hc
    exact ⟨E,u,v,g7A.refl _ _,hm,e2,e▸r1,r2,fun _ h=>.inl h,fun _ _ h=>h⟩
   ·cases h
  ·have key:∀ (n:Nat) {cs rest:List AV} {objs objs':Objs} {xs:List (den t)} {vs:List Value} {E:Env},b0A E cs vs→a4A E keep objs→m8A (b2A t) n cs objs=some (xs,rest,objs') →
     ∃ (E':Env) (us:List (List Value)) (v:List Value),g7A keep E E'∧a4A E' keep objs'∧vs=us.flatten++v∧xs.length=n∧us.length=n∧(∀ i,(h:i<xs.length)→∃ u,us[i]? = some u∧a2A E' t xs[i] u)∧b0A E' rest v∧(∀ b,E'.ro b→E.ro b∨d8A E objs b)∧(∀ j oc,a1A j objs'=some oc→a1A j objs=some oc):=by
    intro n
    induction n with
    | zero =>
     intro cs rest objs objs' xs vs E hc hm h
     simp only [m8A] at h
     cases h
     exact ⟨E,[],vs,g7A.refl _ _,hm,rfl,rfl,rfl,fun i h=>absurd h (Ch i),hc,fun _ h=>.inl h,fun _ _ h=>h⟩
    | succ n ih =>
     intro cs rest objs objs' xs vs E hc hm h
     simp only [m8A] at h
     split at h
     ·rename_i y cs1 objs1 h1
      split at h
      ·rename_i ys cs2 objs2 h2
       cases h
       obtain ⟨E1,u,v,g1,m1,rfl,t1,c1,k1,s1⟩:=v1A t hp hc hm h1
       obtain ⟨E2,us,v',g2,m2,rfl,l1,l2,t2,c2,k2,s2⟩:=ih c1 m1 h2
       refine ⟨E2,u::us,v',g1.trans g2,m2,by rw [List.flatten_cons,Bz],by rw [Be,l1],by rw [Be,l2],?_,c2,t0D g1 k1 k2 s1,fun j oc h=>s1 j oc (s2 j oc h)⟩
       intro i hi
       cases i with
       | zero=>exact ⟨u,rfl,a2A.later g2.later t1⟩
       | succ i=>exact t2 i (by simpa using hi)
      ·cases h
     ·cases h
   obtain ⟨E',us,v,g,m,e,l1,l2,t2,c,k1,s1⟩:=key n hc hm h
   exact ⟨E',us.flatten,v,g,m,e,y4E n l1 l2 t2,c,k1,s1⟩
theorem t1D {t:Ty} {objs objs':Objs} {id:Nat} {rg:Option (Nat×Nat)} {x:List (den t)} (h:p9A t objs id rg=some (x,objs')):∀ j c,a1A j objs=some (.box c)→a1A j objs'=some (.box c):=by
 intro j c hj
 unfold p9A at h
 split at h
 ·rename_i t' l hl
  obtain ⟨l',hc,h⟩:=b4A h
  have h2:=Cp Prod.snd h
  simp only at h2
  rw [←h2,i3A,Ae]
  ·exact hj
  ·intro e; subst e; rw [hl] at hj; cases hj
 ·cases h
theorem o0C:∀ (t:Ty) {cs rest:List AV} {objs objs':Objs} {x:den t},b2A t cs objs=some (x,rest,objs')→∀ id c,a1A id objs=some (.box c)→a1A id objs'=some (.box c)
 | .int k,cs,rest,objs,objs',x,h=>by
  simp only [b2A] at h
  split at h
  ·split at h
   ·cases h; exact fun _ _ h=>h
   ·cases h
  ·cases h
 | .bool,cs,rest,objs,objs',x,h=>by
  simp only [b2A] at h
  split at h
  ·cases h; exact fun _ _ h=>h
  ·cases h
 | .str,cs,rest,objs,objs',x,h=>by
  simp only [b2A] at h
  split at h
  ·cases h; exact fun _ _ h=>h
  ·cases h
 | .sl t,cs,rest,objs,objs',x,h=>by
  simp only [b2A] at h
  split at h
  ·obtain ⟨_,_,h⟩:=b4A h; cases h; exact fun _ _ h=>h
  ·cases h; exact fun _ _ h=>h
  ·obtain ⟨⟨_,_⟩,hl,h⟩:=b4A h; cases h; exact t1D hl
  ·cases h
 | .own t,cs,rest,objs,objs',x,h=>by
  simp only [b2A] at h
  split at h
  ·cases h; exact fun _ _ h=>h
  ·obtain ⟨⟨_,_⟩,hl,h⟩:=b4A h; cases h; exact t1D hl
  ·cases h
 | .unit,cs,rest,objs,objs',x,h=>by
  simp only [b2A] at h; cases h; exact fun _ _ h=>h
 | .pair a b,cs,rest,objs,objs',x,h=>by
  simp only [b2A] at h
  split at h
  ·rename_i h1
   split at h
   ·rename_i h2
    cases h
    exact fun id c hc=>o0C b h2 id c (o0C a h1 id c hc)
   ·cases h
  ·cases h
 | .arr n t,cs,rest,objs,objs',x,h=>by
  simp only [b2A] at h
  split at h
  ·split at h
   ·obtain ⟨_,_,h⟩:=b4A h; cases h; exact fun _ _ h=>h
   ·cases h
  ·have key:∀ (n:Nat) {cs rest:List AV} {objs objs':Objs} {xs:List (den t)},m8A (b2A t) n cs objs=some (xs,rest,objs')→∀ id c,a1A id objs=some (.box c)→a1A id objs'=some (.box c):=by
    intro n
    induction n with
    | zero=>intro cs rest objs objs' xs h; simp only [m8A] at h; cases h; exact fun _ _ h=>h
    | succ n ih =>
     intro cs rest objs objs' xs h
     simp only [m8A] at h
     split at h
     ·rename_i h1
      split at h
      ·rename_i h2
       cases h
       exact fun id c hc=>ih h2 id c (o0C t h1 id c hc)
      ·cases h
     ·cases h
   exact key n h
end
end Go.Rx
namespace Go.Rx
variable [Inhabited GW]
def HR.gives:HR→AV→Objs→Prop
 | .done v o,v',o'=>v=v'∧o=o'
 | .guard b v o,v',o'=>b=true∧v=v'∧o=o'
 | .fork b v o u p,v',o'=>(b=true∧v=v'∧o=o')∨(b=false∧u=v'∧p=o')
 | .pick n es z o,v',o'=>u3A n z es=v'∧o=o'
 | .no,_,_=>False
theorem q1A (w:World) (g k:Nat) (cs:Array Value) (h:k≠g):(w.setRow g cs).heap[k]? = w.heap[k]? := by
 simp only [World.setRow,Array.getElem?_modify]
 rw [Ae (fun e=>h e.symm)]
section
variable {P:Program} {T:Tab} (hT:TabOK P T) {keep:Nat→Prop} {E:Env} {w:World}
include hT
theorem o1C {t:TypeId} {i:o8A} (hi:d2A t T=some i) {b off:Nat} {x:Value} {cur:Array Value} {e:TypeId} (hg:w.heap[b]? = some (.cells cur e (0,0)))
  (hl:x.cells.size=i.size) (hb:off+x.cells.size≤cur.size) (h1:∀ v∈x.cells.toList,v.oneCell'=true) :
  (storeVar t ⟨b,off,none⟩ x).run P w=.ok () (w.setRow b (cur.toList.take off++(x.cells.toList++cur.toList.drop (off+x.cells.size))).toArray):=by
 simp only [storeVar,Sem.run_bind,t3A hT hi,Result.andThen_ok]
 rw [Ae (by simp [hl])]
 have:=run_storeCells_at (P:=P) b off e x.cells.toList 0 cur w hg (by simpa using hb) h1
 simp only [Dx,An] at this
 rw [this,Bz]
omit hT
theorem d7B (w:World) (b:Nat) (cs:Array Value):e1A w (w.setRow b cs):=⟨rfl,rfl⟩
theorem d8D {id b:Nat} {objs:Objs} {cs cs':List AV} {cur:Array Value} {e:TypeId} {vs':List Value} (hm:a4A E keep objs) (hl:a1A id objs=some (.box cs)) (hb:(E.M id).blk=some b)
  (hg:E.w.heap[b]? = some (.cells cur e (0,0))) (hr:b0A E cs' vs') :
  Later keep E (E.at (E.w.setRow b vs'.toArray))∧a4A (E.at (E.w.setRow b vs'.toArray)) keep (a9A id (.box cs') objs):=by
 have hs:(E.w.setRow b vs'.toArray).heap.size=E.w.heap.size:=size_setRow _ _ _
 have ho:∀ k,k≠b→(E.w.setRow b vs'.toArray).heap[k]? = E.w.heap[k]? := fun k hk=>q1A _ _ _ _ hk
 have hsep:=hm.sep _ _ _ hl hb
 have hL:=a8B (keep:=keep) (d7B _ _ _) hs ho hsep.1 hsep.2
 refine ⟨hL,a9B (d7B _ _ _) hs ho hm hl hb ⟨b,vs'.toArray,e,hb,setRow_heap _ _ _ _ _ _ hg,?_⟩⟩
 exact b0A.later hL (by simpa using hr)
theorem y5E {t:Ty} {l:List (den t)} {k i:Nat} {x:den t} (h:i<(l.set k x).length):(l.set k x)[i]=if k=i then x else l[i]'(by simpa using h):=by
 rw [List.getElem_set]
theorem t2D {t:Ty} {n k:Nat} {l:List (den t)} {x:den t} {vs u:List Value} (h:a2A E (.arr n t) l vs) (hx:a2A E t x u) (hk:k<n) :
  a2A E (.arr n t) (l.set k x) (vs.take (k*a0A t)++(u++vs.drop (k*a0A t+u.length))):=by
 obtain ⟨e1,e2,r⟩:=h
 have hu:=a2A.length hx
 have hkw:k*a0A t+a0A t≤vs.length:=by
  rw [e2,←Dw]; exact Aw _ hk
 have hp:(vs.take (k*a0A t)).length=k*a0A t:=by rw [Ap]; omega
 refine ⟨by rw [Em]; exact e1,?_,fun i hi => ?_⟩
 ·rw [Ak,Ak,hp,Ar]; omega
 ·rw [y5E hi]
  by_cases hki:k=i
  ·rw [Aj hki]
   subst hki
   refine ⟨u,hx,fun j v hj => ?_⟩
   have hjl:j<u.length:=by
    rcases Dh j u.length with h' | h'
    ·exact h'
    ·rw [Bq h'] at hj; cases hj
   rw [List.getElem?_append_right (by omega),hp,Nat.add_sub_cancel_left,Bd hjl]; exact hj
  ·rw [Ae hki]
   have hi':i<l.length:=by simpa using hi
   obtain ⟨cs,r1,r2⟩:=r i hi'
   refine ⟨cs,r1,fun j v hj => ?_⟩
   have hjl:j<a0A t:=by
    rw [←a2A.length r1]
    rcases Dh j cs.length with h' | h'
    ·exact h'
    ·rw [Bq h'] at hj; cases hj
   have:=r2 j v hj
   rcases Nat.lt_or_gt_of_ne hki with h' | h'
   ·have h3:k*a0A t+a0A t≤i*a0A t:=by rw [←Dw]; exact Aw _ h'
    rw [List.getElem?_append_right (by omega),hp,List.getElem?_append_right (by omega),Bl,hu,
     show k*a0A t+a0A t+(i*a0A t+j - k*a0A t - a0A t)=i*a0A t+j by omega]
    exact this
   ·have h3:i*a0A t+a0A t≤k*a0A t:=by rw [←Dw]; exact Aw _ h'
    rw [Bd (by omega),Bt,Aj (by omega)]
    exact this
theorem h6B (cur new:List Value) (a b n m:Nat) (hb:b+new.length≤n) (hn:a+n≤cur.length) (hm:m=a+b) :
  cur.take m++(new++cur.drop (m+new.length)) =
   cur.take a++((((cur.drop a).take n).take b++(new++((cur.drop a).take n).drop (b+new.length)))++cur.drop (a+n)):=by
 subst hm
 have hl1:(cur.take a).length=a:=by rw [Ap]; omega
 have hl2:(((cur.drop a).take n).take b).length=b:=by simp only [Ap,Ar]; omega
 have hl3:(((cur.drop a).take n).drop (b+new.length)).length=n - (b+new.length):=by simp only [Ar,Ap]; omega
 have hl4:(cur.take (a+b)).length=a+b:=by rw [Ap]; omega
 apply List.ext_getElem?
 intro i
 by_cases h1:i<a
 ·rw [Bd (by omega),Bd (by omega),Bt,Bt,Aj (by omega),Aj h1]
 ·rw [List.getElem?_append_right (l₁:=cur.take a) (by omega),hl1]
  by_cases h2:i<a+b
  ·rw [Bd (by omega),Bd (by rw [Ak]; omega),Bd (by omega),Bt,Aj h2,
    Bt,Aj (by omega),Bt,Aj (by omega),Bl]
   congr 1; omega
  ·rw [List.getElem?_append_right (by omega),hl4]
   by_cases h3:i<a+b+new.length
   ·rw [Bd (by omega),Bd (by simp only [Ak]; omega),List.getElem?_append_right (by omega),hl2,Bd (by omega)]
    congr 1; omega
   ·rw [List.getElem?_append_right (by omega),Bl]
    by_cases h4:i<a+n
    ·rw [Bd (by simp only [Ak]; omega),List.getElem?_append_right (by omega),hl2,List.getElem?_append_right (by omega),Bl,Bt,Aj (by omega),Bl]
     congr 1; omega
    ·rw [List.getElem?_append_right (by simp only [Ak]; omega),Bl]
     simp only [Ak,hl2,hl3]
     congr 1; omega
theorem b0B {m:MI} {t:Ty} {l:List (den t)} {b:Nat} (h:c5A E m (.arr t l)) (hb:m.blk=some b) :
  ∃ (cur:Array Value) (e:TypeId),E.w.heap[b]? = some (.cells cur e (0,0))∧l.length≤m.cap∧m.base+m.cap*a0A t≤cur.size∧a2A E (.arr l.length t) l ((cur.toList.drop m.base).take (l.length*a0A t)):=by
 obtain ⟨_,_,r⟩:=h
 rw [hb] at r
 obtain ⟨cur,e,h1,h2,h3,r⟩:=r
 have hc:l.length*a0A t≤m.cap*a0A t:=Aw _ h2
 have hcl:cur.toList.length=cur.size:=An
 refine ⟨cur,e,h1,h2,h3,rfl,by rw [Ap,Ar,hcl]; omega,fun i hi => ?_⟩
 obtain ⟨cs,r1,r2⟩:=r i hi
 refine ⟨cs,r1,fun j v hj => ?_⟩
 have hjl:j<a0A t:=by
  rw [←a2A.length r1]
  rcases Dh j cs.length with h' | h'
  ·exact h'
  ·rw [Bq h'] at hj; cases hj
 have hi2:i*a0A t+a0A t≤l.length*a0A t:=by rw [←Dw]; exact Aw _ hi
 rw [Bt,Aj (by omega),Bl,Dr,←Dj]
 exact r2 j v hj
theorem o2C {m:MI} {t:Ty} {l:List (den t)} {b:Nat} {cur:List Value} {seg:List Value} {e:TypeId} (hlen:m.len=l.length) (hwd:m.wd=a0A t) (hb:m.blk=some b)
  (hg:E.w.heap[b]? = some (.cells (cur.take m.base++(seg++cur.drop (m.base+seg.length))).toArray e (0,0))) (hcap:l.length≤m.cap) (hsz:m.base+m.cap*a0A t≤cur.length)
  (hr:a2A E (.arr l.length t) l seg):c5A E m (.arr t l):=by
 refine ⟨hlen,hwd,?_⟩
 rw [hb]
 obtain ⟨_,e2,r⟩:=hr
 have hc:l.length*a0A t≤m.cap*a0A t:=Aw _ hcap
 refine ⟨_,e,hg,hcap,by simp only [Cy,Ak,Ap,Ar]; omega,fun i hi => ?_⟩
 obtain ⟨cs,r1,r2⟩:=r i hi
 refine ⟨cs,r1,fun j v hj => ?_⟩
 have:=r2 j v hj
 have hlt:i*a0A t+j<seg.length:=by
  rcases Dh (i*a0A t+j) seg.length with h' | h'
  ·exact h'
  ·rw [Bq h'] at this; cases this
 rw [Da,List.getElem?_append_right (by rw [Ap]; omega),Bd (by rw [Ap]; omega),Ap,←this]
 congr 1; omega
theorem d9D {v:Value} (h:v.oneCell'=true):v.cells = #[v]:=by
 cases v <;> first
  | rfl
  | (simp [Value.oneCell'] at h)
omit [Inhabited GW] in
theorem t3D {l ys:List Value} {a p:Nat} (h:a+ys.length≤l.length):(l.take a++(ys++l.drop (a+ys.length)))[p]? = if a≤p∧p<a+ys.length then ys[p - a]? else l[p]? := by
 have ht:(l.take a).length=a:=by rw [Ap]; omega
 by_cases h1:p<a
 ·rw [Bd (by rw [ht]; exact h1),Et h1,Ae (by omega)]
 ·rw [List.getElem?_append_right (by rw [ht]; omega),ht]
  by_cases h2:p<a+ys.length
  ·rw [Bd (by omega),Aj ⟨by omega,h2⟩]
  ·rw [List.getElem?_append_right (by omega),Bl,Ae (by omega)]
   congr 1; omega
theorem t4D {E':Env} {t:Ty} {l l':List (den t)} {g k sub:Nat} {cs':List AV} {row ys us:List Value} {base:Nat} (hb:base+l.length*a0A t≤row.length) (hl:l'.length=l.length) (hk:k<l.length)
  (hu:us.length=a0A t) (huj:∀ j v,us[j]? = some v→((row.drop base).take (l.length*a0A t))[k*a0A t+j]? = some v) (hs:sub+ys.length≤a0A t)
  (hg:g<l.length) (hel:∀ i,(h:i<l.length)→i≠g→i≠k→∃ us,a2A E' t (l'[i]'(by omega)) us∧∀ j v,us[j]? = some v→((row.drop base).take (l.length*a0A t))[i*a0A t+j]? = some v)
  (hkk:k≠g→a2A E' t (l'[k]'(by omega)) (us.take sub++(ys++us.drop (sub+ys.length))))
  (hgg:if k=g then b0A E' cs' (us.take sub++(ys++us.drop (sub+ys.length))) else ∃ us,b0A E' cs' us∧us.length=a0A t∧∀ j v,us[j]? = some v→((row.drop base).take (l.length*a0A t))[g*a0A t+j]? = some v) :
  a5B E' t l' g cs' (((row.take (base+k*a0A t+sub)++(ys++row.drop (base+k*a0A t+sub+ys.length))).drop base).take (l'.length*a0A t)):=by
 have hkw:k*a0A t+a0A t≤l.length*a0A t:=by rw [←Dw]; exact Aw _ hk
 have hin:base+k*a0A t+sub+ys.length≤row.length:=by omega
 have hrl:(row.take (base+k*a0A t+sub)++(ys++row.drop (base+k*a0A t+sub+ys.length))).length=row.length:=by
  simp only [Ak,Ap,Ar]; omega
 have get:∀ i j,i<l.length→j<a0A t→(((row.take (base+k*a0A t+sub)++(ys++row.drop (base+k*a0A t+sub+ys.length))).drop base).take (l'.length*a0A t))[i*a0A t+j]? =
   if i=k∧sub≤j∧j<sub+ys.length then ys[j - sub]? else ((row.drop base).take (l.length*a0A t))[i*a0A t+j]? := by
  intro i j hi hj
  have hiw:i*a0A t+a0A t≤l.length*a0A t:=by rw [←Dw]; exact Aw _ hi
  rw [hl,Et (by omega),Bl,Et (by omega),Bl,t3D hin]
  by_cases hik:i=k
  ·subst hik
   by_cases hj2:sub≤j∧j<sub+ys.length
   ·rw [Aj (by omega),Aj ⟨rfl,hj2⟩]
    congr 1; omega
   ·rw [Ae (by omega),Ae (by omega)]
  ·rw [Ae (show ¬(i=k∧_) from fun h=>hik h.1),Ae]
   intro h
   rcases Nat.lt_or_gt_of_ne hik with h1 | h1
   ·have:i*a0A t+a0A t≤k*a0A t:=by rw [←Dw]; exact Aw _ h1
    omega
   ·have:k*a0A t+a0A t≤i*a0A t:=by rw [←Dw]; exact Aw _ h1
    omega
 have own:∀ j v,(us.take sub++(ys++us.drop (sub+ys.length)))[j]? = some v→(((row.take (base+k*a0A t+sub)++(ys++row.drop (base+k*a0A t+sub+ys.length))).drop base).take (l'.length*a0A t))[k*a0A t+j]? = some v:=by
  intro j v hj
  have hjl:j<a0A t:=by
   have:=(Cl.1 hj).1
   simp only [Ak,Ap,Ar] at this; omega
  rw [get k j hk hjl]
  rw [t3D (by omega)] at hj
  split at hj
  ·rename_i h1; rw [Aj ⟨rfl,h1⟩]; exact hj
  ·rename_i h1; rw [Ae (fun h=>h1 h.2)]; exact huj j v hj
 have ownl:(us.take sub++(ys++us.drop (sub+ys.length))).length=a0A t:=by
  simp only [Ak,Ap,Ar]; omega
 have other:∀ {us2:List Value} {i:Nat},i<l.length→i≠k→us2.length=a0A t→(∀ j v,us2[j]? = some v→((row.drop base).take (l.length*a0A t))[i*a0A t+j]? = some v) →
   ∀ j v,us2[j]? = some v→(((row.take (base+k*a0A t+sub)++(ys++row.drop (base+k*a0A t+sub+ys.length))).drop base).take (l'.length*a0A t))[i*a0A t+j]? = some v:=by
  intro us2 i hi hik hul h j v hj
  have hjl:j<a0A t:=by rw [←hul]; exact (Cl.1 hj).1
  rw [get i j hi hjl,Ae (fun h=>hik h.1)]
  exact h j v hj
 refine ⟨by rw [hl,Ap,Ar,hrl]; omega,by rw [hl]; exact hg,fun i hi hig => ?_,?_⟩
 ·rw [hl] at hi
  by_cases hik:i=k
  ·subst hik
   exact ⟨_,hkk hig,own⟩
  ·obtain ⟨us2,r1,r2⟩:=hel i hi hig hik
   exact ⟨us2,r1,other hi hik (a2A.length r1) r2⟩
 ·by_cases hkg:k=g
  ·subst hkg
   rw [Aj rfl] at hgg
   exact ⟨_,hgg,ownl,own⟩
  ·rw [Ae hkg] at hgg
   obtain ⟨us2,r1,r2,r3⟩:=hgg
   exact ⟨us2,r1,r2,other hg (Ne.symm hkg) r2 r3⟩
include hT
theorem y6E {S:St} {t:TypeId} {a v r:AV} {objs:Objs} {x y:Value} (hm:a4A E keep S.objs) (h:(z4B T S t a v).gives r objs) (hx:a3A E a x) (hy:a3A E v y) :
    ∃ E',(Instr.storeAt t x y).run P E.w=.ok () E'.w∧Later keep E E'∧a4A E' keep objs∧r=.tup []∧E'.N=E.N:=by
  unfold z4B at h
  split at h
  · exact h.elim
  · rename_i i hi
    split at h
    · rename_i id off
      split at h
      · rename_i cs new hl hn
        cases hb:Nat.beq (o0A new) i.size with
        | false=>rw [hb] at h; exact h.elim
        | true =>
          rw [hb] at h
          have hsz:=Ag hb
          simp only [Al] at h
          split at h
          · rename_i cs' hsp
            obtain ⟨rfl,rfl⟩:=h
            obtain ⟨_,b,hblk,rfl⟩:=h4B hx
            obtain ⟨_,b',cur,e,h1,h2,h3⟩:=hm.rep _ _ hl
            rw [hblk] at h1; cases h1
            have hnew:=y6A hy hn
            have hlen:=b0A.length hnew
            obtain ⟨h4,h5⟩:=h0B h3 hnew hsp
            simp only [An] at h4 h5 hlen
            obtain ⟨hL,hM⟩:=d8D hm hl hblk h2 h5
            refine ⟨_,?_,hL,hM,rfl,rfl⟩
            have:=o1C hT (w:=E.w) hi (off:=off) (x:=y) h2 (by omega) (by omega) (b0A.one hnew)
            simpa [Instr.storeAt,Instr.sureAddr,Env.at] using this
          · exact h.elim
      · exact h.elim
    · rename_i id off n ty k sub
      split at h
      · rename_i cs new hl hn
        split at h
        · rename_i l hA
          cases hb:(Nat.beq (o0A new) i.size&&ty.pure) with
          | false=>rw [hb] at h; exact h.elim
          | true =>
            rw [hb] at h
            rw [Ac] at hb
            have hsz:=Ag hb.1
            simp only [Al] at h
            split at h
            · rename_i z objs' hto
              split at h
              · rename_i cs' hsp
                obtain ⟨rfl,rfl⟩:=h
                obtain ⟨e',hs1,hs2⟩:=m0A hto
                obtain ⟨_,hk,b,hblk,rfl⟩:=m6C hx
                obtain ⟨_,b',cur,e,h1,h2,h3⟩:=hm.rep _ _ hl
                rw [hblk] at h1; cases h1
                have hnew:=y6A hy hn
                have hlen:=b0A.length hnew
                obtain ⟨hin,harr⟩:=b0C h3 hA
                obtain ⟨ce,r1,r2⟩:=m5C (w:=E.w) harr ((At.of_row h2).cut off (n*a0A ty)) hk
                have hce:=a2A.length r1
                obtain ⟨h4,h5⟩:=h0B (o3A r1) hnew hs1
                obtain ⟨E1,u,v',g,m1,e2,t1,c1,_⟩:=v1A ty hb.2 h5 hm hs2
                rw [show v'=[] from c1,Bc] at e2
                subst e2
                have harr':=t2D (a2A.later g.later harr) t1 hk
                have hcell:b0A E1 [.arr n ty (l.set k z)] _:=⟨_,[],by rw [Bc],harr',rfl⟩
                obtain ⟨h6,h7⟩:=h0B (b0A.later g.later h3) hcell hsp
                have hsegl:(List.take (n*a0A ty) (List.drop off cur.toList)).length=n*a0A ty:=by rw [Ap,Ar]; omega
                have hkw:k*a0A ty+a0A ty≤n*a0A ty:=by rw [←Dw]; exact Aw _ hk
                have hlook:a1A id objs'=some (.box cs):=by
                  have:∀ (t:Ty) {cs rest:List AV} {objs objs':Objs} {x:den t},b2A t cs objs=some (x,rest,objs')→∀ id c,a1A id objs=some (.box c)→a1A id objs'=some (.box c):=o0C
                  exact this ty hs2 id cs hl
                have hg1:E1.w.heap[b]? = some (.cells cur e (0,0)):=by rw [g.w]; exact h2
                have hblk1:(E1.M id).blk=some b:=by rw [g.M]; exact hblk
                obtain ⟨hL,hM⟩:=d8D m1 hlook hblk1 hg1 h7
                refine ⟨_,?_,g.later.trans hL,hM,rfl,g.N⟩
                have hbound:off+k*a0A ty+sub+y.cells.size≤cur.size:=by
                  simp only [An] at h4 hin
                  omega
                have:=o1C hT (w:=E.w) hi (off:=off+k*a0A ty+sub) (x:=y) h2 (by simpa using (by simp only [An] at hlen; omega:y.cells.size=i.size)) hbound (b0A.one hnew)
                have hce2:ce=((cur.toList.drop (off+k*a0A ty)).take (a0A ty)):=by
                  apply List.ext_getElem?
                  intro j
                  by_cases hj:j<a0A ty
                  · have hj':j<ce.length:=by omega
                    have h8:=r2 j _ (Aq hj')
                    rw [cell_of_row E.w b _ cur e _ h2] at h8
                    rw [Bt,Aj hj,Bl,Aq hj']
                    simpa [Dj] using h8.symm
                  · rw [Bq (by omega),Bq (by rw [Ap]; omega)]
                simp only [An] at hin h4 hlen
                have s1:=h6B cur.toList y.cells.toList (off+k*a0A ty) sub (a0A ty) (off+k*a0A ty+sub) (by simp only [An]; omega) (by simp only [An]; omega) rfl
                rw [←hce2] at s1
                have s2:=h6B cur.toList (List.take sub ce++(y.cells.toList++List.drop (sub+y.cells.toList.length) ce)) off (k*a0A ty) (n*a0A ty) (off+k*a0A ty)
                  (by simp only [Ak,Ap,Ar,An]; omega) (by simp only [An]; omega) rfl
                have hnl:(List.take sub ce++(y.cells.toList++List.drop (sub+y.cells.toList.length) ce)).length=a0A ty:=by
                  simp only [Ak,Ap,Ar,An]; omega
                have hal:=a2A.length harr'
                have s3:cur.toList.take (off+k*a0A ty+sub)++(y.cells.toList++cur.toList.drop (off+k*a0A ty+sub+y.cells.size)) =
                    cur.toList.take off++((List.take (k*a0A ty) (List.take (n*a0A ty) (List.drop off cur.toList))++((List.take sub ce++(y.cells.toList++List.drop (sub+y.cells.toList.length) ce)) ++
                      List.drop (k*a0A ty+(List.take sub ce++(y.cells.toList++List.drop (sub+y.cells.toList.length) ce)).length) (List.take (n*a0A ty) (List.drop off cur.toList))))++cur.toList.drop (off+n*a0A ty)):=by
                  rw [←s2,hnl]
                  simp only [An] at s1
                  exact s1
                rw [s3] at this
                have e3:(E1.at (E1.w.setRow b (List.take off cur.toList++((List.take (k*a0A ty) (List.take (n*a0A ty) (List.drop off cur.toList))++((List.take sub ce++(y.cells.toList++List.drop (sub+y.cells.toList.length) ce)) ++
                      List.drop (k*a0A ty+(List.take sub ce++(y.cells.toList++List.drop (sub+y.cells.toList.length) ce)).length) (List.take (n*a0A ty) (List.drop off cur.toList))))++cur.toList.drop (off+n*a0A ty))).toArray)).w =
                    E.w.setRow b (List.take off cur.toList++((List.take (k*a0A ty) (List.take (n*a0A ty) (List.drop off cur.toList))++((List.take sub ce++(y.cells.toList++List.drop (sub+y.cells.toList.length) ce)) ++
                      List.drop (k*a0A ty+(List.take sub ce++(y.cells.toList++List.drop (sub+y.cells.toList.length) ce)).length) (List.take (n*a0A ty) (List.drop off cur.toList))))++cur.toList.drop (off+n*a0A ty))).toArray:=by
                  rw [g.w]; rfl
                rw [hal]
                simp only [Instr.storeAt,Instr.sureAddr,Sem.run_bind,Sem.run_pure,Result.andThen_ok]
                rw [this,←e3]
                rfl
              · exact h.elim
            · exact h.elim
        · exact h.elim
      · exact h.elim
    · rename_i id k sub
      split at h
      · rename_i ty l new hl hn
        cases hb:(Nat.beq (o0A new) i.size&&ty.pure) with
        | false=>rw [hb] at h; exact h.elim
        | true =>
          rw [hb] at h
          rw [Ac] at hb
          have hsz:=Ag hb.1
          simp only [Al] at h
          split at h
          · rename_i z objs' hto
            split at h
            · rename_i oc' hlook
              obtain ⟨rfl,rfl⟩:=h
              obtain ⟨e',hs1,hs2⟩:=m0A hto
              obtain ⟨_,hk,b,hblk,rfl⟩:=n4B hx
              have ho:=(hm.rep _ _ hl).2
              have hlen':(E.M id).len=l.length:=ho.1
              have hwd:(E.M id).wd=a0A ty:=ho.2.1
              rw [hlen'] at hk
              obtain ⟨cur,e,h2,hcap,hcs,harr⟩:=b0B ho hblk
              have hc:l.length*a0A ty≤(E.M id).cap*a0A ty:=Aw _ hcap
              have hnew:=y6A hy hn
              have hlen:=b0A.length hnew
              obtain ⟨ce,r1,r2⟩:=m5C (w:=E.w) (b:=b) (o:=(E.M id).base) harr (by have:=((At.of_row h2).cut (E.M id).base (l.length*a0A ty)); rwa [Dk] at this) hk
              have hce:=a2A.length r1
              obtain ⟨h4,h5⟩:=h0B (o3A r1) hnew hs1
              obtain ⟨E1,u,v',g,m1,e2,t1,c1,_⟩:=v1A ty hb.2 h5 hm hs2
              rw [show v'=[] from c1,Bc] at e2
              subst e2
              have harr':=t2D (a2A.later g.later harr) t1 hk
              have hkw:k*a0A ty+a0A ty≤l.length*a0A ty:=by rw [←Dw]; exact Aw _ hk
              have hal:=a2A.length harr'
              have hal:_=l.length*a0A ty:=hal
              have hbound:(E.M id).base+k*a0A ty+sub+y.cells.size≤cur.size:=by
                simp only [An] at h4
                omega
              have hrun:=o1C hT (w:=E.w) hi (off:=(E.M id).base+k*a0A ty+sub) (x:=y) h2 (by simp only [An] at hlen; omega) hbound (b0A.one hnew)
              have hce2:ce=((cur.toList.drop ((E.M id).base+k*a0A ty)).take (a0A ty)):=by
                apply List.ext_getElem?
                intro j
                by_cases hj:j<a0A ty
                · have hj':j<ce.length:=by omega
                  have h8:=r2 j _ (Aq hj')
                  rw [cell_of_row E.w b _ cur e _ h2] at h8
                  rw [Bt,Aj hj,Bl,Aq hj']
                  simpa [Dj] using h8.symm
                · rw [Bq (by omega),Bq (by rw [Ap]; omega)]
              simp only [An] at h4 hlen
              have s1:=h6B cur.toList y.cells.toList ((E.M id).base+k*a0A ty) sub (a0A ty) ((E.M id).base+k*a0A ty+sub) (by simp only [An]; omega) (by simp only [An]; omega) rfl
              rw [←hce2] at s1
              have s2:=h6B cur.toList (List.take sub ce++(y.cells.toList++List.drop (sub+y.cells.toList.length) ce)) (E.M id).base (k*a0A ty) (l.length*a0A ty) ((E.M id).base+k*a0A ty)
                (by simp only [Ak,Ap,Ar,An]; omega) (by simp only [An]; omega) rfl
              have hnl:(List.take sub ce++(y.cells.toList++List.drop (sub+y.cells.toList.length) ce)).length=a0A ty:=by
                simp only [Ak,Ap,Ar,An]; omega
              simp only [An] at s1 s2 hnl harr' hal
              rw [hnl] at s2 harr' hal
              rw [s1,s2] at hrun
              generalize hseg:(List.take (k*a0A ty) (List.take (l.length*a0A ty) (List.drop (E.M id).base cur.toList))++((List.take sub ce++(y.cells.toList++List.drop (sub+y.cells.size) ce)) ++
                      List.drop (k*a0A ty+a0A ty) (List.take (l.length*a0A ty) (List.drop (E.M id).base cur.toList))))=seg at hrun harr' hal
              have hrow:=setRow_heap E.w b cur (List.take (E.M id).base cur.toList++(seg++List.drop ((E.M id).base+l.length*a0A ty) cur.toList)).toArray e _ h2
              have hS:(E.w.setRow b (List.take (E.M id).base cur.toList++(seg++List.drop ((E.M id).base+l.length*a0A ty) cur.toList)).toArray).heap.size=E1.w.heap.size:=by rw [g.w]; exact size_setRow _ _ _
              have hO:∀ j,j≠b→(E.w.setRow b (List.take (E.M id).base cur.toList++(seg++List.drop ((E.M id).base+l.length*a0A ty) cur.toList)).toArray).heap[j]? = E1.w.heap[j]? := fun j hj=>by rw [g.w]; exact q1A _ _ _ _ hj
              have hblk1:(E1.M id).blk=some b:=by rw [g.M]; exact hblk
              have hsep:=m1.sep _ _ _ hlook hblk1
              have hX:e1A E1.w (E.w.setRow b (List.take (E.M id).base cur.toList++(seg++List.drop ((E.M id).base+l.length*a0A ty) cur.toList)).toArray):=by rw [g.w]; exact d7B _ _ _
              have hL:=a8B (keep:=keep) hX hS hO hsep.1 hsep.2
              refine ⟨E1.at (E.w.setRow b (List.take (E.M id).base cur.toList++(seg++List.drop ((E.M id).base+l.length*a0A ty) cur.toList)).toArray),?_,g.later.trans hL,?_,rfl,g.N⟩
              · simp only [Instr.storeAt,Instr.sureAddr,Sem.run_bind,Sem.run_pure,Result.andThen_ok,hwd]
                exact hrun
              · refine a9B hX hS hO m1 hlook hblk1 ?_
                rw [g.M]
                refine o2C (cur:=cur.toList) (seg:=seg) (e:=e) (by rw [Em]; exact hlen') hwd hblk ?_ (by rw [Em]; exact hcap) (by rw [An]; exact hcs) ?_
                · rw [hal]; exact hrow
                · rw [Em]
                  exact a2A.later hL harr'
            · exact h.elim
          · exact h.elim
      · rename_i ty l g cs far new hl hn
        cases hb:(Nat.beq (o0A new) i.size&&ty.pure) with
        | false=>rw [hb] at h; exact h.elim
        | true =>
          rw [hb] at h
          rw [Ac] at hb
          have hsz:=Ag hb.1
          simp only [Al] at h
          obtain ⟨_,hk,b,hblk,rfl⟩:=n4B hx
          have ho:=(hm.rep _ _ hl).2
          obtain ⟨hlen',hwd,b',vs,e,hb',hh,hcap,hcs,⟨hsl,hg,hel,us,hus,hul,huj⟩,_⟩:=c7D ho
          rw [hblk] at hb'; cases hb'
          rw [hlen'] at hk
          have hnew:=y6A hy hn
          have hnl:=b0A.length hnew
          rw [An] at hnl
          have hcw:l.length*a0A ty≤(E.M id).cap*a0A ty:=Aw _ hcap
          have hbase:(E.M id).base+l.length*a0A ty≤vs.toList.length:=by have e2:vs.toList.length=vs.size:=An; omega
          have hkw:k*a0A ty+a0A ty≤l.length*a0A ty:=by rw [←Dw]; exact Aw _ hk
          have rowlen:∀ (ys:List Value),(E.M id).base+k*a0A ty+sub+ys.length≤vs.toList.length→(vs.toList.take ((E.M id).base+k*a0A ty+sub)++(ys++vs.toList.drop ((E.M id).base+k*a0A ty+sub+ys.length))).length=vs.toList.length:=fun ys h=>by
            simp only [Ak,Ap,Ar]; omega
          have hrow:=setRow_heap E.w b vs (vs.toList.take ((E.M id).base+k*a0A ty+sub)++(y.cells.toList++vs.toList.drop ((E.M id).base+k*a0A ty+sub+y.cells.toList.length))).toArray e _ hh
          have hS:(E.w.setRow b (vs.toList.take ((E.M id).base+k*a0A ty+sub)++(y.cells.toList++vs.toList.drop ((E.M id).base+k*a0A ty+sub+y.cells.toList.length))).toArray).heap.size=E.w.heap.size:=size_setRow _ _ _
          have hO:∀ j,j≠b→(E.w.setRow b (vs.toList.take ((E.M id).base+k*a0A ty+sub)++(y.cells.toList++vs.toList.drop ((E.M id).base+k*a0A ty+sub+y.cells.toList.length))).toArray).heap[j]? = E.w.heap[j]? := fun j hj=>q1A _ _ _ _ hj
          have hX:e1A E.w (E.w.setRow b (vs.toList.take ((E.M id).base+k*a0A ty+sub)++(y.cells.toList++vs.toList.drop ((E.M id).base+k*a0A ty+sub+y.cells.toList.length))).toArray):=d7B _ _ _
          have hrun:sub+y.cells.toList.length≤a0A ty→(Instr.storeAt t (.pointer (some ⟨b,(E.M id).base+k*(E.M id).wd+sub,none⟩)) y).run P E.w =
              .ok () (E.w.setRow b (vs.toList.take ((E.M id).base+k*a0A ty+sub)++(y.cells.toList++vs.toList.drop ((E.M id).base+k*a0A ty+sub+y.cells.toList.length))).toArray):=fun hsub=>by
            have:=o1C hT (w:=E.w) hi (off:=(E.M id).base+k*a0A ty+sub) (x:=y) hh (by omega) (by have e1:y.cells.toList.length=y.cells.size:=An; have e2:vs.toList.length=vs.size:=An; omega) (b0A.one hnew)
            rw [hwd]
            simpa [Instr.storeAt,Instr.sureAddr] using this
          generalize hw':E.w.setRow b (vs.toList.take ((E.M id).base+k*a0A ty+sub)++(y.cells.toList++vs.toList.drop ((E.M id).base+k*a0A ty+sub+y.cells.toList.length))).toArray=w' at hrow hS hO hX hrun
          have hsep:=hm.sep _ _ _ hl hblk
          split at h
          · split at h
            · rename_i cs' hsp
              obtain ⟨hkg,rfl,rfl⟩:=h
              have hkg:=Ag hkg
              subst hkg
              obtain ⟨h4,h5⟩:=h0B hus hnew hsp
              rw [hul] at h4
              have hL:=a8B (keep:=keep) hX hS hO hsep.1 hsep.2
              refine ⟨E.at w',hrun h4,hL,a9B hX hS hO hm hl hblk ?_,rfl,rfl⟩
              refine ⟨hlen',hwd,b,_,e,hblk,hrow,hcap,?_,?_⟩
              · rw [Cy,rowlen _ (by omega),An]; exact hcs
              · refine t4D hbase rfl hk hul huj h4 hg (fun i hi hig _ => ?_) (fun h=>absurd rfl h) (by rw [Aj rfl]; exact b0A.later hL h5)
                obtain ⟨us2,r1,r2⟩:=hel i hi hig
                exact ⟨us2,a2A.later hL r1,r2⟩
            · exact h.elim
          · split at h
            · rename_i z objs' hto
              split at h
              · rename_i oc' hlook
                obtain ⟨hkg,rfl,rfl⟩:=h
                have hkg:k≠g:=fun e=>by rw [e,Cn] at hkg; cases hkg
                obtain ⟨e',hs1,hs2⟩:=m0A hto
                obtain ⟨ue,r1,r2⟩:=hel k hk hkg
                rw [Cd,Aq hk] at hs1
                obtain ⟨h4,h5⟩:=h0B (o3A r1) hnew hs1
                rw [a2A.length r1] at h4
                obtain ⟨E1,u,v',g1,m1,e2,t1,c1,_,s1⟩:=v1A ty hb.2 h5 hm hs2
                rw [show v'=[] from c1,Bc] at e2
                subst e2
                have hlook':=s1 _ _ hlook
                rw [hl] at hlook'; cases hlook'
                have hblk1:(E1.M id).blk=some b:=by rw [g1.M]; exact hblk
                have hsep1:=m1.sep _ _ _ hlook hblk1
                have hX1:e1A E1.w w':=by rw [g1.w]; exact hX
                have hS1:w'.heap.size=E1.w.heap.size:=by rw [g1.w]; exact hS
                have hO1:∀ j,j≠b→w'.heap[j]? = E1.w.heap[j]? := by rw [g1.w]; exact hO
                have hL:=a8B (keep:=keep) hX1 hS1 hO1 hsep1.1 hsep1.2
                refine ⟨E1.at w',hrun h4,g1.later.trans hL,a9B hX1 hS1 hO1 m1 hlook hblk1 ?_,rfl,g1.N⟩
                rw [g1.M]
                refine ⟨by rw [Em]; exact hlen',hwd,b,_,e,hblk,hrow,by rw [Em]; exact hcap,?_,?_⟩
                · rw [Cy,rowlen _ (by omega),An]; exact hcs
                · refine t4D hbase (Em ..) hk (a2A.length r1) r2 h4 hg (fun i hi hig hik => ?_) (fun _=>by rw [List.getElem_set_self]; exact a2A.later hL t1) (by
                    rw [Ae hkg]; exact ⟨us,b0A.later (g1.later.trans hL) hus,hul,huj⟩)
                  obtain ⟨us2,q1,q2⟩:=hel i hi hig
                  exact ⟨us2,by rw [List.getElem_set_ne (Ne.symm hik)]; exact a2A.later (g1.later.trans hL) q1,q2⟩
              · exact h.elim
            · exact h.elim
      · exact h.elim
    · exact h.elim
end
end Go.Rx
namespace Go.Rx
variable [Inhabited GW]
section
variable {P:Program} {T:Tab} (hT:TabOK P T) {keep:Nat→Prop} {E:Env} {w:World}
theorem t5D:Array.range 0 = #[]:=rfl
theorem y7E {w:World} {m:MI} {b:Nat} (hb:m.blk=some b):a3A (E.new w m) (.ptr E.N 0) (.pointer (some ⟨b,0,none⟩)):=
 ⟨Cg _,b,by simp [Env.new,hb],rfl⟩
theorem e0D {w:World} {vs:Array Value} {t:TypeId} {cs:List AV} {objs:Objs} (hw:w.heap=E.w.heap.push (.cells vs t)) (hx:e1A E.w w) (hm:a4A E keep objs) (hc:b0A E cs vs.toList) :
  ∃ E',E'.w=w∧Later keep E E'∧a4A E' keep (a9A E.N (.box cs) objs)∧a3A E' (.ptr E.N 0) (.pointer (some ⟨E.w.heap.size,0,none⟩))∧E'.N=E.N+1:=by
 have hL:=a7B (m:=⟨some E.w.heap.size,0,0,0,0⟩) hw hx hm
 refine ⟨E.new w ⟨some E.w.heap.size,0,0,0,0⟩,rfl,hL,d6B hw hx hm (fun b hb=>(Bp hb).symm) ⟨_,vs,t,rfl,?_,b0A.later hL hc⟩,y7E rfl,rfl⟩
 simp [Env.new,hw]
theorem t1B {w:World} {m:MI} {n:Nat} (hb:m.blk=some n) (hcap:m.len≤m.cap):a3A (E.new w m) (.oref E.N none) (.slice (some ⟨n,m.base,none⟩) m.len m.cap):=by
 refine ⟨Cg _,?_⟩
 have:(E.new w m).M E.N=m:=by simp [Env.new]
 rw [this,hb]
 exact ⟨m.base,m.cap,rfl,hcap,by simp [d1A,e9A],.inr ⟨by simp [d1A],by simp [d1A]⟩⟩
theorem e1D {w:World} {m:MI} (hb:m.blk=none) (hl:m.len=0):a3A (E.new w m) (.oref E.N none) (.slice none 0 0):=by
 refine ⟨Cg _,?_⟩
 have:(E.new w m).M E.N=m:=by simp [Env.new]
 rw [this,hb]
 exact ⟨rfl,rfl,hl⟩
theorem e2D {w:World} {vs:Array Value} {e:TypeId} {ty:Ty} {l:List (den ty)} {cap:Nat} {objs:Objs} (hw:w.heap=E.w.heap.push (.cells vs e)) (hx:e1A E.w w) (hm:a4A E keep objs)
  (hcap:l.length≤cap) (hsz:cap*a0A ty≤vs.size)
  (hr:∀ i,(h:i<l.length)→∃ cs,a2A E ty l[i] cs∧∀ j v,cs[j]? = some v→vs[i*a0A ty+j]? = some v) :
  ∃ E',E'.w=w∧Later keep E E'∧a4A E' keep (a9A E.N (.arr ty l) objs)∧a3A E' (.oref E.N none) (.slice (some ⟨E.w.heap.size,0,none⟩) l.length cap)∧E'.N=E.N+1:=by
 have hL:=a7B (m:=⟨some E.w.heap.size,0,l.length,cap,a0A ty⟩) hw hx hm
 refine ⟨E.new w ⟨some E.w.heap.size,0,l.length,cap,a0A ty⟩,rfl,hL,d6B hw hx hm (fun b hb=>(Bp hb).symm) ⟨rfl,rfl,?_⟩,t1B rfl hcap,rfl⟩
 refine ⟨vs,e,by simp [Env.new,hw],hcap,by simpa using hsz,fun i hi => ?_⟩
 obtain ⟨cs,r1,r2⟩:=hr i hi
 exact ⟨cs,a2A.later hL r1,fun j v hj=>by rw [Dk]; exact r2 j v hj⟩
theorem t6D {ty:Ty} {objs:Objs} (hm:a4A E keep objs):∃ E',E'.w=E.w∧Later keep E E'∧a4A E' keep (a9A E.N (.arr ty []) objs)∧a3A E' (.oref E.N none) (.slice none 0 0)∧E'.N=E.N+1:=by
 have hM:∀ id,(E.new E.w ⟨none,0,0,0,a0A ty⟩).M id=if id=E.N then ⟨none,0,0,0,a0A ty⟩ else E.M id:=fun _=>rfl
 have hL:Later keep E (E.new E.w ⟨none,0,0,0,a0A ty⟩):=
  ⟨fun _ h=>h,fun _ h=>.inl h,fun id hi=>by simp [Env.new,El hi],Ej _,Ay _,fun _ _=>rfl,fun _ _=>rfl,e1A.refl _⟩
 refine ⟨E.new E.w ⟨none,0,0,0,a0A ty⟩,rfl,hL,⟨fun id oc h => ?_,fun id oc b h hb => ?_,fun id id' o o' b h h' hb hb' => ?_,hm.rob,hm.kb,hm.gl.later hL⟩,e1D rfl rfl,rfl⟩
 ·rw [d4A] at h
  rw [hM]
  by_cases hi:id=E.N
  ·rw [Aj hi] at h ⊢
   cases h
   exact ⟨by rw [hi]; exact Cg _,rfl,rfl,rfl⟩
  ·rw [Ae hi] at h ⊢
   obtain ⟨h1,h2⟩:=hm.rep _ _ h
   exact ⟨Eh h1,c5A.later hL (fun _ _=>rfl) h2⟩
 ·rw [d4A] at h
  rw [hM] at hb
  by_cases hi:id=E.N
  ·rw [Aj hi] at hb; cases hb
  ·rw [Ae hi] at h hb
   exact hm.sep _ _ _ h hb
 ·rw [d4A] at h h'
  rw [hM] at hb hb'
  by_cases hi:id=E.N
  ·rw [Aj hi] at hb; cases hb
  ·by_cases hi':id'=E.N
   ·rw [Aj hi'] at hb'; cases hb'
   ·rw [Ae hi] at h hb
    rw [Ae hi'] at h' hb'
    exact hm.inj _ _ _ _ _ h h' hb hb'
theorem y8E {t:Ty} {a:AV} {x:Value} {y:den t} {objs objs':Objs} (hp:t.pure=true) (hx:a3A E a x) (hm:a4A E keep objs) (h:j6A t a objs=some (y,objs')) :
  ∃ E',g7A keep E E'∧a4A E' keep objs'∧a2A E' t y x.cells.toList:=by
 unfold j6A at h
 split at h
 ·rename_i cs hc
  split at h
  ·rename_i z o hto
   cases h
   obtain ⟨E',u,v,g,m,e,t1,c,_⟩:=v1A t hp (y6A hx hc) hm hto
   rw [show v=[] from c,Bc] at e
   exact ⟨E',g,m,e▸t1⟩
  ·cases h
 ·cases h
theorem t7D {t:Ty} (hp:t.pure=true) {S:St} {a:Act}:∀ (ps:List (Nat×Operand)) {E:Env} {xs:List (den t)} {objs objs':Objs},e0A E S.tmps a.tmps→a4A E keep objs →
  u2A t (d5A (·.2) (f1A S ps)) objs=some (xs,objs') →
  ∃ E',g7A keep E E'∧a4A E' keep objs'∧xs.length=ps.length∧∀ i,(h:i<xs.length)→∃ v,(ps.map fun p=>a.eval p.2)[i]? = some v∧a2A E' t xs[i] v.cells.toList
 | [],E,xs,objs,objs',hs,hm,h=>by
  simp only [f1A,d5A,u2A] at h
  cases h
  exact ⟨E,g7A.refl _ _,hm,rfl,fun i h=>absurd h (Ch i)⟩
 | p::ps,E,xs,objs,objs',hs,hm,h=>by
  simp only [f1A,d5A,u2A] at h
  split at h
  ·rename_i x o1 h1
   split at h
   ·rename_i ys o2 h2
    cases h
    obtain ⟨E1,g1,m1,t1⟩:=y8E hp (b6A hs p.2) hm h1
    obtain ⟨E2,g2,m2,l2,t2⟩:=t7D hp ps ⟨hs.1,fun i v hv=>a3A.later g1.later (hs.2 i v hv)⟩ m1 h2
    refine ⟨E2,g1.trans g2,m2,by rw [Be,Be,l2],fun i hi => ?_⟩
    cases i with
    | zero=>exact ⟨_,rfl,a2A.later g2.later t1⟩
    | succ i=>exact t2 i (by simpa using hi)
   ·cases h
  ·cases h
theorem t8D {S:St} {f:Operand→Value}:∀ (l:List (Nat×Operand)) (n:Nat),m4B n (f1A S l)=true→l.map (fun p=>(p.1,f p.2))=((l.map fun p=>f p.2).zipIdx n).map fun x=>(x.2,x.1)
 | [],_,_=>rfl
 | (i,x)::l,n,h=>by
  simp only [f1A,m4B,Ac] at h
  have hi:i=n:=Ag h.1
  subst hi
  simp only [List.map_cons,List.zipIdx_cons,t8D l (i+1) h.2]
theorem t9D {S:St}:∀ (l:List (Nat×Operand)),m0B (f1A S l)=l.length
 | []=>rfl
 | _::l=>by simp only [f1A,m0B,t9D l,Be]
include hT
theorem d8B {t:TypeId} {ty:Ty} {bytes:Nat} (h:x7A T t=some (ty,bytes)):∃ e inf z,P.underlying t=some (.slice e)∧P.info? e=some inf∧inf.size=a0A ty∧inf.bytes=bytes∧inf.zero=some z ∧
  ty.pure=true∧0<bytes∧(∀ E:Env,a2A E ty (c4A ty) z.cells.toList):=by
 unfold x7A at h
 split at h
 ·rename_i e htd
  obtain ⟨d,hu,rfl⟩:=f7A hT htd
  split at h
  ·rename_i i hi
   split at h
   ·rename_i ty' hty
    rcases c2A h with ⟨hb,h⟩ | ⟨_,h⟩
    ·cases h
     rw [Ac] at hb
     obtain ⟨inf,h1,h2,h3,z,h4,_,h6,_⟩:=(hT _ _ hi).info
     exact ⟨e,inf,z,hu,h1,by rw [h2,(hT _ _ hi).wd _ hty],h3,h4,hb.1,Bx hb.2,h6 _ hty⟩
    ·cases h
   ·cases h
  ·cases h
 ·cases h
omit hT
theorem y9E {n:Nat} (vals:List Value) (h:∀ v∈vals,v.cells.size=n) (i j:Nat) (u v:Value) (hi:vals[i]? = some u) (hj:u.cells.toList[j]? = some v) :
  (vals.flatMap fun v=>v.cells.toList)[i*n+j]? = some v:=by
 induction vals generalizing i with
 | nil=>cases i <;> cases hi
 | cons a l ih =>
  have ha:=h a (by simp)
  cases i with
  | zero =>
   cases hi
   rw [Eb,Dk,List.flatMap_cons,Bd (by
    rcases Dh j u.cells.toList.length with h' | h'
    ·exact h'
    ·rw [Bq h'] at hj; cases hj)]
   exact hj
  | succ i =>
   have:=ih (fun v hv=>h v (by simp [hv])) i hi
   rw [List.flatMap_cons,List.getElem?_append_right (by rw [An,ha,Ca]; omega),An,ha,Ca,show i*n+1*n+j - n=i*n+j by omega]
   exact this
theorem z0E {n:Nat} (vals:List Value) (h:∀ v∈vals,v.cells.size=n):(vals.flatMap fun v=>v.cells.toList).length=vals.length*n:=by
 induction vals with
 | nil=>simp
 | cons a l ih=>rw [List.flatMap_cons,Ak,ih (fun v hv=>h v (by simp [hv])),An,h a (by simp),Be,Ca]; omega
include hT
theorem z1E {S:St} {a:Act} {t:TypeId} {len:Nat} {ty:Ty} {bytes:Nat} {parts:Array (Nat×Operand)} {r:AV} {objs:Objs} (hs:e0A E S.tmps a.tmps) (hm:a4A E keep S.objs) (hty:x7A T t=some (ty,bytes)) (hl:len=1)
  (h:(m5B S E.N ty (f1A S parts.toList)).gives r objs) :
  ∃ x E',(Instr.buildSlice t len (parts.map fun (i,x)=>(i,a.eval x))).run P E.w=.ok x E'.w∧Later keep E E'∧a4A E' keep objs∧a3A E' r x∧E'.N=E.N+1:=by
 subst hl
 obtain ⟨e,inf,z,hu,hi,hsz,hby,hz,hp,hbp,hdef⟩:=d8B hT hty
 unfold m5B at h
 split at h
 ·rename_i v hps
  obtain ⟨o,hparts,hv⟩:∃ o,parts.toList=[(0,o)]∧v=ev S o:=by
   generalize parts.toList=l at hps
   match l,hps with
   | [p],hps =>
    simp only [f1A,List.cons.injEq,Prod.mk.injEq,and_true] at hps
    exact ⟨p.2,by rw [←hps.1],hps.2.symm⟩
   | [],hps=>cases hps
   | _::_::_,hps=>simp [f1A] at hps
  split at h
  ·rename_i cs hcs
   cases hb:(Nat.beq (o0A cs) (a0A ty)&&Nat.blt 0 (a0A ty)&&Nat.ble (a0A ty) 16777216) with
   | false=>rw [hb] at h; exact h.elim
   | true =>
    rw [hb] at h
    simp only [Ac] at hb
    obtain ⟨⟨hcw,hw0⟩,hsmall⟩:=hb
    have hcw:=Ag hcw
    have hw0:0<a0A ty:=Bx hw0
    have hsmall:=Bx hsmall
    obtain ⟨rfl,rfl⟩:=h
    have hrep:=b6A hs o
    rw [←hv] at hrep
    have hc:=y6A hrep hcs
    have hlen:=b0A.length hc
    rw [hcw,An] at hlen
    have hvals:∀ v∈[a.eval o],v.cells.size=a0A ty:=fun v hv=>by
     rw [Bo.1 hv]; exact hlen
    have hrun:(Instr.buildSlice t 1 (parts.map fun (i,x)=>(i,a.eval x))).run P E.w =
      .ok (.slice (some ⟨E.w.heap.size,0,none⟩) 1 1) (E.w.alloc (.cells ([a.eval o].flatMap fun v=>v.cells.toList).toArray e)):=by
     refine run_buildSlice E.w t e 1 _ _ inf z hu hi hz (by rw [hsz]; omega) (by rw [hsz]; omega) ?_
     have:(parts.map fun (i,x)=>(i,a.eval x)).toList=(([a.eval o]:List Value).zipIdx 0).map fun x=>(x.2,x.1):=by
      rw [Array.toList_map,hparts]; rfl
     rw [this,hsz]
     refine Great.fill_whole hw0 _ _ hvals ?_
     simp
    have hflat:([a.eval o].flatMap fun v=>v.cells.toList)=(a.eval o).cells.toList:=by simp
    rw [hflat] at hrun
    have hL:=a7B (E:=E) (keep:=keep) (w:=E.w.alloc (.cells (a.eval o).cells.toList.toArray e)) (m:=⟨some E.w.heap.size,0,1,1,a0A ty⟩) rfl ⟨rfl,rfl⟩ hm
    refine ⟨_,E.new (E.w.alloc (.cells (a.eval o).cells.toList.toArray e)) ⟨some E.w.heap.size,0,1,1,a0A ty⟩,hrun,hL,?_,t1B rfl (Ay _),rfl⟩
    refine d6B (w:=E.w.alloc (.cells (a.eval o).cells.toList.toArray e)) (o:=.cells (a.eval o).cells.toList.toArray e) (m:=⟨some E.w.heap.size,0,1,1,a0A ty⟩) (oc:=.hol ty [c4A ty] 0 cs false) rfl ⟨rfl,rfl⟩ hm (fun b hb=>(Bp hb).symm) ⟨rfl,rfl,E.w.heap.size,(a.eval o).cells.toList.toArray,e,rfl,?_,Ay _,?_,?_⟩
    ·show (E.w.heap.push (Obj.cells (a.eval o).cells.toList.toArray e))[E.w.heap.size]? = _
     exact Array.getElem?_push_size
    ·rw [Cy,An,hlen]; simp
    ·refine ⟨by simp [hlen],Fg,fun i hi hg => ?_,(a.eval o).cells.toList,b0A.later hL hc,by rw [An,hlen],fun j v hj => ?_⟩
     ·have:i<1:=hi
      omega
     ·have hj2:=(Cl.1 hj).1
      rw [An,hlen] at hj2
      rw [Eb,Dk,Et (by simpa using hj2),Do]
      exact hj
  ·exact h.elim
 ·exact h.elim
theorem z2E {S:St} {a:Act} {t:TypeId} {len:Nat} {parts:Array (Nat×Operand)} {r:AV} {objs:Objs} (hs:e0A E S.tmps a.tmps) (hm:a4A E keep S.objs)
  (h:(g7B T S E.N t len (f1A S parts.toList)).gives r objs) :
  ∃ x E',(Instr.buildSlice t len (parts.map fun (i,x)=>(i,a.eval x))).run P E.w=.ok x E'.w∧Later keep E E'∧a4A E' keep objs∧a3A E' r x∧E'.N=E.N+1:=by
 unfold g7B at h
 split at h
 ·rename_i ty bytes hty
  obtain ⟨e,inf,z,hu,hi,hsz,hby,hz,hp,hbp,hdef⟩:=d8B hT hty
  cases hop:(opT T t&&Nat.beq len 1) with
  | true =>
   rw [hop] at h
   rw [Ac] at hop
   exact z1E hT hs hm hty (Ag hop.2) h
  | false =>
  rw [hop] at h
  cases hb:(m4B 0 (f1A S parts.toList)&&Nat.beq (m0B (f1A S parts.toList)) len&&Nat.ble (len*a0A ty) 16777216&&Nat.blt 0 (a0A ty)) with
  | false=>rw [hb] at h; exact h.elim
  | true =>
   rw [hb] at h
   simp only [Ac] at hb
   obtain ⟨⟨⟨hord,hlen⟩,hsmall⟩,hw0⟩:=hb
   have hlen:=Ag hlen
   rw [t9D] at hlen
   have hsmall:=Bx hsmall
   have hw0:0<a0A ty:=Bx hw0
   simp only [Al] at h
   split at h
   ·rename_i xs objs' hps
    obtain ⟨rfl,rfl⟩:=h
    obtain ⟨E1,g,m1,hl,hts⟩:=t7D hp parts.toList hs hm hps
    have hN:E1.N=E.N:=g.N
    have hvals:∀ v∈parts.toList.map (fun p=>a.eval p.2),v.cells.size=a0A ty:=by
     intro v hv
     obtain ⟨i,hi',rfl⟩:=List.getElem_of_mem hv
     rw [List.length_map] at hi'
     obtain ⟨v',e1,e2⟩:=hts i (by omega)
     rw [Aq (by simpa using hi')] at e1
     cases e1
     rw [←An]; exact a2A.length e2
    have hparts:(parts.map fun (i,x)=>(i,a.eval x)).toList=((parts.toList.map fun p=>a.eval p.2).zipIdx 0).map fun x=>(x.2,x.1):=by
     rw [Array.toList_map]
     exact t8D parts.toList 0 hord
    have hrun:(Instr.buildSlice t len (parts.map fun (i,x)=>(i,a.eval x))).run P E.w =
      .ok (.slice (some ⟨E.w.heap.size,0,none⟩) len len) (E.w.alloc (.cells ((parts.toList.map fun p=>a.eval p.2).flatMap fun v=>v.cells.toList).toArray e)):=by
     by_cases h0:len=0
     ·subst h0
      have hnil:parts.toList=[]:=Br.1 hlen
      have:parts = #[]:=by have:=Cp List.toArray hnil; simpa using this
      subst this
      simp [Instr.buildSlice,c3A hu,n1A hi,Instr.fill,newRow,t5D]
     ·refine run_buildSlice E.w t e len _ _ inf z hu hi hz (by rw [hsz]; omega) (by rw [hsz]; exact Nat.mul_ne_zero h0 (by omega)) ?_
      rw [hparts,hsz]
      refine Great.fill_whole hw0 _ _ hvals ?_
      simp [hlen]
    have hw':(E.w.alloc (.cells ((parts.toList.map fun p=>a.eval p.2).flatMap fun v=>v.cells.toList).toArray e)).heap=E1.w.heap.push (.cells ((parts.toList.map fun p=>a.eval p.2).flatMap fun v=>v.cells.toList).toArray e):=by
     rw [g.w]; rfl
    obtain ⟨E2,hw2,hL,hM,hS,hN2⟩:=e2D (l:=xs) (cap:=len) hw' (by rw [g.w]; exact ⟨rfl,rfl⟩) m1 (by omega) (by simp [z0E _ hvals,hlen]) (fun i hi'=>by
     obtain ⟨v,e1,e2⟩:=hts i hi'
     exact ⟨_,e2,fun j u hj=>by rw [Da]; exact y9E _ hvals i j v u e1 hj⟩)
    refine ⟨_,E2,by rw [hrun,hw2],g.later.trans hL,?_,?_,by rw [hN2,hN]⟩
    ·rw [hN] at hM; exact hM
    ·rw [hN,g.w,show xs.length=len by omega] at hS; exact hS
   ·exact h.elim
 ·exact h.elim
theorem z3E {S:St} {t:TypeId} {l c r:AV} {x y:Value} {objs:Objs} (hm:a4A E keep S.objs)
  (h:(j3C T S E.N t l c).gives r objs) (hx:a3A E l x) (hy:a3A E c y) :
  ∃ z E',(Instr.makeSlice t x y).run P E.w=.ok z E'.w∧Later keep E E'∧a4A E' keep objs∧a3A E' r z∧E'.N=E.N+1:=by
 unfold j3C at h
 split at h
 ·rename_i ty bytes hty
  obtain ⟨e,inf,z,hu,hi,hsz,hby,hz,hp,hbp,hdef⟩:=d8B hT hty
  split at h
  ·rename_i n m
   obtain ⟨hb,rfl,rfl⟩:=h
   simp only [Ac,Au,c6A] at hb
   obtain ⟨⟨h0,hnm⟩,hroom⟩:=hb
   rw [hx.int_inv,hy.int_inv]
   have hmul:m.toNat≤m.toNat*bytes:=Nat.le_mul_of_pos_right _ hbp
   have hm47:m≤140737488355328:=by omega
   have hwn:IntKind.i64.wrap n=n:=IntWalk.i64_in _ (by omega)
   have hwm:IntKind.i64.wrap m=m:=IntWalk.i64_in _ (by omega)
   have hzl:z.cells.size=a0A ty:=by rw [←An]; exact a2A.length (hdef E)
   have hbm:(bytes:Int)*m≤2 ^ 48:=by
    have:((m.toNat*bytes:Nat):Int)=(bytes:Int)*m:=by rw [Int.natCast_mul,Int.toNat_of_nonneg (by omega),Int.mul_comm]
    rw [←this]
    have:m.toNat*bytes≤2 ^ 48:=by omega
    exact_mod_cast this
   have hrun:(Instr.makeSlice t (.int .i64 n) (.int .i64 m)).run P E.w=.ok (.slice (some ⟨E.w.heap.size,0,none⟩) n.toNat m.toNat)
     (E.w.alloc (.cells ((Array.range (m.toNat*a0A ty)).map (z.cells[· % z.cells.size]!)) e)):=by
    have hc1:¬ ((m<0∨(bytes:Int)*m>2 ^ 48)∨n<0∨n>m):=by omega
    simp only [Instr.makeSlice,Sem.run_bind,c3A hu,Result.andThen_ok,asInt,asIntOf,Sem.run_pure,y4A hi,hwn,hwm,hby]
    rw [Ae (by simp; omega)]
    simp only [Sem.run_bind,run_askRoom,Result.andThen_ok,n1A hi,hsz]
    by_cases h0':m.toNat*a0A ty=0
    ·rw [Aj h0']
     simp [h0',newRow,t5D]
    ·rw [Ae h0']
     simp [zeroValue,y4A hi,hz,newRow]
   obtain ⟨E2,hw2,hL,hM,hS,hN2⟩:=e2D (E:=E) (l:=List.replicate n.toNat (c4A ty)) (cap:=m.toNat) (w:=E.w.alloc (.cells ((Array.range (m.toNat*a0A ty)).map (z.cells[· % z.cells.size]!)) e)) rfl ⟨rfl,rfl⟩ hm
    (by rw [Ed]; omega) (by simp) (fun i hi'=>by
     rw [Ed] at hi'
     refine ⟨z.cells.toList,by rw [List.getElem_replicate]; exact hdef E,fun j v hj => ?_⟩
     have hjl:j<a0A ty:=by
      rw [←hzl,←An]
      rcases Dh j z.cells.toList.length with h' | h'
      ·exact h'
      ·rw [Bq h'] at hj; cases hj
     have hlt:i*a0A ty+j<m.toNat*a0A ty:=by
      have:i*a0A ty+a0A ty≤m.toNat*a0A ty:=by rw [←Dw]; exact Aw _ (by omega)
      omega
     have hmod:(i*a0A ty+j) % z.cells.size=j:=by rw [hzl,Nat.mul_comm,Nat.mul_add_mod,Nat.mod_eq_of_lt hjl]
     have hj':z.cells[j]? = some v:=by simpa using hj
     simp only [Array.getElem?_map,Array.getElem?_range,hlt,Ep,Option.map_some,hmod]
     rw [getElem!_def,hj'])
   refine ⟨_,E2,by rw [hrun,hw2],hL,hM,?_,hN2⟩
   rw [Ed] at hS; exact hS
  ·exact h.elim
 ·exact h.elim
end
end Go.Rx
namespace Go.Rx
variable [Inhabited GW]
section
variable {P:Program} {T:Tab} (hT:TabOK P T) {keep:Nat→Prop} {E:Env} {w:World}
theorem b1B {n off len:Nat} {t:Ty} {l:List (den t)} {vs:List Value} (h:a2A E (.arr n t) l vs) (hb:off+len≤n) :
  a2A E (.arr len t) ((l.drop off).take len) ((vs.drop (off*a0A t)).take (len*a0A t)):=by
 obtain ⟨e1,e2,r⟩:=h
 have hm:(off+len)*a0A t≤n*a0A t:=Aw _ hb
 rw [Ca] at hm
 refine ⟨by rw [Ap,Ar]; omega,by rw [Ap,Ar]; omega,fun i hi => ?_⟩
 rw [Ap,Ar] at hi
 obtain ⟨cs,r1,r2⟩:=r (off+i) (by omega)
 refine ⟨cs,by rw [List.getElem_take,List.getElem_drop]; exact r1,fun j v hj => ?_⟩
 have hjl:j<a0A t:=by
  rw [←a2A.length r1]
  rcases Dh j cs.length with h' | h'
  ·exact h'
  ·rw [Bq h'] at hj; cases hj
 have hi2:i*a0A t+a0A t≤len*a0A t:=by rw [←Dw]; exact Aw _ (by omega)
 have:=r2 j v hj
 rw [Ca] at this
 rw [Bt,Aj (by omega),Bl,←Dj]; exact this
theorem n8B {n m:Nat} {t:Ty} {l k:List (den t)} {us vs:List Value} (h:a2A E (.arr n t) l us) (h':a2A E (.arr m t) k vs):a2A E (.arr (n+m) t) (l++k) (us++vs):=by
 obtain ⟨e1,e2,r⟩:=h
 obtain ⟨e3,e4,r'⟩:=h'
 refine ⟨by rw [Ak,e1,e3],by rw [Ak,e2,e4,Ca],fun i hi => ?_⟩
 by_cases hl:i<l.length
 ·obtain ⟨cs,r1,r2⟩:=r i hl
  refine ⟨cs,by rw [List.getElem_append_left hl]; exact r1,fun j v hj => ?_⟩
  have:=r2 j v hj
  rw [Bd (by
   rcases Dh (i*a0A t+j) us.length with h' | h'
   ·exact h'
   ·rw [Bq h'] at this; cases this)]
  exact this
 ·rw [Ak] at hi
  obtain ⟨cs,r1,r2⟩:=r' (i - l.length) (by omega)
  refine ⟨cs,by rw [List.getElem_append_right (by omega)]; exact r1,fun j v hj => ?_⟩
  have:=r2 j v hj
  have hm:n*a0A t≤i*a0A t:=Aw _ (by omega)
  rw [List.getElem?_append_right (by omega),e2,←this,Nat.sub_mul,e1]
  congr 1; omega
theorem u0D {t:Ty} {l:List (den t)} {b o:Nat} (h:u8A E t l b o):∃ vs,a2A E (.arr l.length t) l vs∧At E.w b o vs:=by
 have hcell:∀ k,k<l.length*a0A t→∃ v,E.w.cell? ⟨b,o+k,none⟩=some v:=by
  intro k hk
  have hw:0<a0A t:=by
   rcases Nat.eq_zero_or_pos (a0A t) with h0 | h0
   ·rw [h0,Nat.mul_zero] at hk; omega
   ·exact h0
  have hi:k / a0A t<l.length:=Nat.div_lt_of_lt_mul (by rw [Nat.mul_comm]; exact hk)
  obtain ⟨cs,r1,r2⟩:=h _ hi
  have hj:k % a0A t<cs.length:=by rw [a2A.length r1]; exact Nat.mod_lt _ hw
  have:=r2 _ _ (Aq hj)
  rw [Dj,Nat.mul_comm,Nat.div_add_mod] at this
  exact ⟨_,this⟩
 refine ⟨(List.range (l.length*a0A t)).map fun k=>(E.w.cell? ⟨b,o+k,none⟩).getD undef,⟨rfl,by simp,fun i hi => ?_⟩,fun j v hj => ?_⟩
 ·obtain ⟨cs,r1,r2⟩:=h i hi
  refine ⟨cs,r1,fun j v hj => ?_⟩
  have hjl:j<a0A t:=by
   rw [←a2A.length r1]
   rcases Dh j cs.length with h' | h'
   ·exact h'
   ·rw [Bq h'] at hj; cases hj
  have hi2:i*a0A t+a0A t≤l.length*a0A t:=by rw [←Dw]; exact Aw _ hi
  have:=r2 j v hj
  rw [Dj] at this
  rw [List.getElem?_map,List.getElem?_range (by omega),Option.map_some,this]; rfl
 ·rw [List.getElem?_map] at hj
  have hlt:j<l.length*a0A t:=by
   rcases Dh j (l.length*a0A t) with h' | h'
   ·exact h'
   ·rw [Bq (by simpa using h')] at hj; cases hj
  rw [List.getElem?_range hlt] at hj
  obtain ⟨u,hu⟩:=hcell j hlt
  simp only [Option.map_some,hu,Option.getD_some,Option.some.injEq] at hj
  rw [hu,hj]
theorem o3C {ty:Ty} {objs:Objs} {x:AV} {vx:Value} {ys:List (den ty)} (hm:a4A E keep objs) (hx:a3A E x vx) (h:z5B ty objs x=some ys) :
  ∃ ad cap news,vx=.slice ad ys.length cap∧ys.length≤cap∧a2A E (.arr ys.length ty) ys news∧(ys.length=0∨∃ b o,ad=some ⟨b,o,none⟩∧At E.w b o news):=by
 unfold z5B at h
 split at h
 ·cases h
  have e1:vx=.slice none 0 0:=by simpa using (show [vx]=[Value.slice none 0 0] from hx)
  exact ⟨none,0,[],e1,Ay _,⟨rfl,by simp,fun i hi=>absurd hi (Ch i)⟩,.inl rfl⟩
 ·obtain ⟨rfl,e⟩:=n2A h
  rename_i l
  have e:l=ys:=e
  subst e
  obtain ⟨ad,cap,e1,hc,r⟩:=(show a2A E (.sl _) l [vx] from hx)
  have e1:vx=.slice ad l.length cap:=by simpa using e1
  rcases r with h0 | ⟨b,o,rfl,hro,r⟩
  ·have:l=[]:=Br.1 h0
   subst this
   exact ⟨ad,cap,[],e1,hc.1,⟨rfl,by simp,fun i hi=>absurd hi (Ch i)⟩,.inl rfl⟩
  ·obtain ⟨vs,h1,h2⟩:=u0D r
   exact ⟨_,cap,vs,e1,hc.1,h1,.inr ⟨b,o,rfl,h2⟩⟩
 ·obtain ⟨rfl,e⟩:=n2A h
  rename_i l
  have e:l=ys:=e
  subst e
  obtain ⟨ad,cap,e1,hc,r⟩:=(show a2A E (.sl _) l [vx] from (show a6A E (.slv _ l) [vx] from hx).1)
  have e1:vx=.slice ad l.length cap:=by simpa using e1
  rcases r with h0 | ⟨b,o,rfl,hro,r⟩
  ·have:l=[]:=Br.1 h0
   subst this
   exact ⟨ad,cap,[],e1,hc.1,⟨rfl,by simp,fun i hi=>absurd hi (Ch i)⟩,.inl rfl⟩
  ·obtain ⟨vs,h1,h2⟩:=u0D r
   exact ⟨_,cap,vs,e1,hc.1,h1,.inr ⟨b,o,rfl,h2⟩⟩
 ·rename_i id rg
  split at h
  ·rename_i t' l hl
   obtain ⟨l',hc,rfl⟩:=b4A h
   obtain ⟨rfl,e⟩:=n2A hc
   have e:l=l':=e
   subst e
   have ho:=(hm.rep _ _ hl).2
   have hlen:(E.M id).len=l.length:=ho.1
   have hwd:(E.M id).wd=a0A t':=ho.2.1
   obtain ⟨hid,r⟩:=d5B hx
   rw [hlen] at r
   rw [b8C]
   generalize d1A rg=off at r ⊢
   generalize e9A l.length rg=len at r ⊢
   cases hblk:(E.M id).blk with
   | none =>
    rw [hblk] at r
    obtain ⟨rfl,rfl,rfl⟩:=r
    exact ⟨none,0,[],by simp,by simp,⟨by simp,by simp,fun i hi=>absurd hi (by simp)⟩,.inl (by simp)⟩
   | some b =>
    rw [hblk] at r
    obtain ⟨o,cap,rfl,hc,hl2,hcap⟩:=r
    have hll:((l.drop off).take len).length=len:=by rw [Ap,Ar]; omega
    obtain ⟨cur,e,h1,h2,h3,h4⟩:=b0B ho hblk
    have h5:=b1B h4 (off:=off) (len:=len) (by omega)
    refine ⟨some ⟨b,o,none⟩,cap,_,by rw [hll],by rw [hll]; exact hc,by rw [hll]; exact h5,?_⟩
    by_cases hz:len=0
    ·exact .inl (by rw [hll]; exact hz)
    ·right
     have hcap:=hcap.resolve_left (by omega)
     refine ⟨b,o,rfl,?_⟩
     have hA:=((At.of_row h1).cut (E.M id).base (l.length*a0A t')).cut (off*a0A t') (len*a0A t')
     rw [Dk,←hwd,←hcap.1,hwd] at hA
     exact hA
  ·cases h
 ·rename_i id off n t' lo len
  have hb2:=c2A h
  have hw:a0A t'=a0A ty:=by
   rcases hb2 with ⟨hw,_⟩ | ⟨_,h⟩
   ·exact Ag hw
   ·cases h
  rw [hw,Cn,Al] at h
  split at h
  ·rename_i cs hl
   obtain ⟨l,ha,rfl⟩:=b4A h
   obtain ⟨hi,hlo,b,o,hblk,hv,ho⟩:=(show a6A E (.bsl id off n t' lo len) [vx] from hx)
   have hv:vx=.slice (some ⟨b,o,none⟩) len (n - lo):=by simpa using hv
   obtain ⟨_,b',cur,e,h1,h2,h3⟩:=hm.rep _ _ hl
   rw [hblk] at h1; cases h1
   obtain ⟨hin,harr⟩:=b0C h3 ha
   have hn:=harr.1
   have hll:((l.drop lo).take len).length=len:=by rw [Ap,Ar]; omega
   rw [←hn] at harr
   have h5:=b1B harr (off:=lo) (len:=len) (by omega)
   refine ⟨some ⟨b,o,none⟩,n - lo,_,by rw [hll]; exact hv,by rw [hll]; omega,by rw [hll]; exact h5,?_⟩
   by_cases hz:len=0
   ·exact .inl (by rw [hll]; exact hz)
   ·right
    refine ⟨b,o,rfl,?_⟩
    have ho:=ho.resolve_left (by omega)
    have hA:=((At.of_row h2).cut off (l.length*a0A ty)).cut (lo*a0A ty) (len*a0A ty)
    rw [Dk,←hw,←ho,hw,hn] at hA
    rw [hn]
    exact hA
  ·cases h
 ·cases h
theorem l1A {size n:Nat} {ad:Option Addr} {len cap:Nat} {news:List Value} (hl:news.length=n*size) (h:n=0∨∃ b o,ad=some ⟨b,o,none⟩∧At w b o news) :
  (Builtin.firstCells size n (.slice ad len cap)).run P w=.ok news.toArray w:=by
 rcases h with rfl | ⟨b,o,rfl,hA⟩
 ·rw [Eb] at hl
  have:news=[]:=Br.1 hl
  subst this
  cases ad with
  | none=>rfl
  | some a=>simp [Builtin.firstCells,loadCells,loadCellsFrom]
 ·exact run_firstCells_some w size n ⟨b,o,none⟩ len cap news hl (fun j v hj=>by rw [v0A]; exact hA j v hj)
theorem b9C {t ty e:TypeId} {inf:TypeInfo} {z:Value} (hu:P.underlying t=some (.slice e)) (hi:P.info? e=some inf) (hz:inf.zero=some z)
  {sb xb:Option Addr} {sLen sCap n xcap:Nat} {olds news:List Value} (hb:0<inf.bytes) (hroom:(sLen+n)*inf.bytes≤140737488355328)
  (h1:(Builtin.firstCells inf.size n (.slice xb n xcap)).run P w=.ok news.toArray w) (h2:(Builtin.firstCells inf.size sLen (.slice sb sLen sCap)).run P w.drew=.ok olds.toArray w.drew)
  (h3:(Builtin.firstCells inf.size n (.slice xb n xcap)).run P w.drew=.ok news.toArray w.drew) :
  (Builtin.append_ #[t,t] ty #[.slice sb sLen sCap,.slice xb n xcap]).run P w =
   if sLen+n≤sCap then (match (generalizing:=false) sb with
    | some a=>((storeCells (a.add (sLen*inf.size)) news).run P w).andThen fun _ w=>.ok (.slice sb (sLen+n) sCap) w
    | none=>.ok (.slice none (sLen+n) sCap) w)
   else .ok (.slice (some ⟨w.heap.size,0,none⟩) (sLen+n) (grownCap w (sLen+n) sCap e))
    (w.drew.alloc (.cells (olds.toArray++news.toArray++Builtin.zeroCells z.cells (grownCap w (sLen+n) sCap e - (sLen+n))) e)):=by
 unfold Builtin.append_
 simp only [Da,Fa,Co,Sem.run_bind,c3A hu,Result.andThen_ok,n1A hi,Builtin.lenOf,Sem.run_pure,Sem.run_ite,
  Cf,Fb]
 by_cases hfit:sLen+n≤sCap
 ·rw [Aj hfit,Aj hfit]
  simp only [h1,Result.andThen_ok,Cr,Ep]
  cases sb with
  | none=>rfl
  | some a =>
   show Sem.run P (storeCells (a.add (sLen*inf.size)) news >>= fun _=>pure (Value.slice (some a) (sLen+n) sCap)) w=_
   rw [Sem.run_bind]; rfl
 ·rw [Ae hfit,Ae hfit]
  have hbn:¬ inf.bytes=0:=by omega
  have hg:=growslice_fits (need:=sLen+n) (old:=sCap) (bytes:=inf.bytes) (by omega) hroom
  have hq:(Question.appendCap (sLen+n) sCap e).forced=false:=rfl
  have hw:{ w with drawn:=w.drawn+1 }=w.drew:=rfl
  simp only [y4A hi,Result.andThen_ok,hbn,or_self,and_false,Fb,run_choose,hq,Cf,run_askRoom,Cr,Ep,hw,h2,h3]
  rw [Ae (by omega)]
  simp only [Sem.run_bind,run_choose,hq,Cf,Fb,Result.andThen_ok,hw,y4A hi,run_askRoom,h2,h3,zeroValue,hz,Sem.run_pure,newRow,run_newObj]
  rfl
theorem c0C {w:World} {m:MI} {j b:Nat} {objs:Objs} {oc oc':OC} (hx:e1A E.w w) (hs:w.heap.size=E.w.heap.size) (ho:∀ k,k≠b→w.heap[k]? = E.w.heap[k]?) (hm:a4A E keep objs)
  (hl:a1A j objs=some oc) (hb:(E.M j).blk=some b) (hmb:m.blk=some b) (hr:Later keep E (E.new w m)→c5A (E.new w m) m oc') :
  Later keep E (E.new w m)∧a4A (E.new w m) keep (a9A E.N oc' (b9A j objs)):=by
 have hsep:=hm.sep _ _ _ hl hb
 have hM:∀ id,(E.new w m).M id=if id=E.N then m else E.M id:=fun _=>rfl
 have hL:Later keep E (E.new w m):=
  ⟨fun _ h=>h,fun _ h=>.inl h,fun id hi=>by simp [Env.new,El hi],Ej _,by simp [Env.new,hs],
   fun k hk=>ho k (fun e=>hsep.1 (e▸hk)),fun k hk=>ho k (fun e=>hsep.2 (e▸hk)),hx⟩
 have f:∀ {k o},a1A k (b9A j objs)=some o→a1A k objs=some o∧k≠j:=by
  intro k o h
  rw [i3A] at h
  by_cases hj:k=j
  ·rw [Aj hj] at h; cases h
  ·rw [Ae hj] at h; exact ⟨h,hj⟩
 refine ⟨hL,fun k o h => ?_,fun k o b' h hb' => ?_,fun k k' o1 o2 b' h h' hb1 hb2 => ?_,fun b' hb' => ?_,fun b' hb' => ?_,hm.gl.later hL⟩
 ·rw [d4A] at h
  rw [hM]
  by_cases hi:k=E.N
  ·rw [Aj hi] at h ⊢
   cases h
   exact ⟨by rw [hi]; exact Cg _,hr hL⟩
  ·rw [Ae hi] at h ⊢
   obtain ⟨h,hkj⟩:=f h
   obtain ⟨h1,h2⟩:=hm.rep _ _ h
   exact ⟨Eh h1,c5A.later hL (fun b' hb'=>ho b' (fun e=>hkj (hm.inj _ _ _ _ b h hl (e▸hb') hb))) h2⟩
 ·rw [d4A] at h
  rw [hM] at hb'
  by_cases hi:k=E.N
  ·rw [Aj hi,hmb] at hb'
   cases hb'
   exact hsep
  ·rw [Ae hi] at h hb'
   exact hm.sep _ _ _ (f h).1 hb'
 ·rw [d4A] at h h'
  rw [hM] at hb1 hb2
  by_cases hi:k=E.N <;> by_cases hi':k'=E.N
  ·rw [hi,hi']
  ·rw [Aj hi,hmb] at hb1
   rw [Ae hi'] at h' hb2
   cases hb1
   exact absurd (hm.inj _ _ _ _ _ (f h').1 hl hb2 hb) (f h').2
  ·rw [Aj hi',hmb] at hb2
   rw [Ae hi] at h hb1
   cases hb2
   exact absurd (hm.inj _ _ _ _ _ (f h).1 hl hb1 hb) (f h).2
  ·rw [Ae hi] at h hb1
   rw [Ae hi'] at h' hb2
   exact hm.inj _ _ _ _ _ (f h).1 (f h').1 hb1 hb2
 ·show b'<w.heap.size
  rw [hs]; exact hm.rob b' hb'
 ·show b'<w.heap.size
  rw [hs]; exact hm.kb b' hb'
theorem e3D (w:World) {need old:Nat} {e:TypeId}:need≤grownCap w need old e:=by
 unfold grownCap Question.cut
 exact Nat.le_add_right _ _
theorem t2B (z:Array Value) (n:Nat):(Builtin.zeroCells z n).size=n*z.size:=by simp [Builtin.zeroCells]
theorem u1D {ty:Ty} {e:TypeId} {xs ys:List (den ty)} {olds news:List Value} {z:Value} {sCap:Nat} {objs:Objs} (hm:a4A E keep objs) (hz:z.cells.size=a0A ty)
  (h1:a2A E (.arr xs.length ty) xs olds) (h2:a2A E (.arr ys.length ty) ys news) :
  ∃ E',E'.w=E.w.drew.alloc (.cells (olds.toArray++news.toArray++Builtin.zeroCells z.cells (grownCap E.w (xs.length+ys.length) sCap e - (xs.length+ys.length))) e)∧Later keep E E' ∧
   a4A E' keep (a9A E.N (.arr ty (xs++ys)) objs)∧a3A E' (.oref E.N none) (.slice (some ⟨E.w.heap.size,0,none⟩) (xs.length+ys.length) (grownCap E.w (xs.length+ys.length) sCap e))∧E'.N=E.N+1:=by
 have hg:=e3D E.w (need:=xs.length+ys.length) (old:=sCap) (e:=e)
 have h3:=n8B h1 h2
 obtain ⟨_,e2,r⟩:=h3
 obtain ⟨E',hw,hL,hM,hS,hN⟩:=e2D (E:=E) (l:=xs++ys) (cap:=grownCap E.w (xs.length+ys.length) sCap e)
  (w:=E.w.drew.alloc (.cells (olds.toArray++news.toArray++Builtin.zeroCells z.cells (grownCap E.w (xs.length+ys.length) sCap e - (xs.length+ys.length))) e)) rfl ⟨rfl,rfl⟩ hm
  (by rw [Ak]; exact hg) (by
   have e7:olds.length+news.length=(xs.length+ys.length)*a0A ty:=by rw [←e2,Ak]
   rw [Array.size_append,t2B,hz,Array.size_append,Cy,Cy,e7,←Ca]
   exact Aw _ (by omega))
  (fun i hi=>by
   obtain ⟨cs,r1,r2⟩:=r i hi
   refine ⟨cs,r1,fun j v hj => ?_⟩
   have:=r2 j v hj
   rw [Array.getElem?_append_left (by
    rw [Array.size_append,Cy,Cy,←Ak]
    rcases Dh (i*a0A ty+j) (olds++news).length with h' | h'
    ·exact h'
    ·rw [Bq h'] at this; cases this)]
   simpa using this)
 refine ⟨E',hw,hL,hM,?_,hN⟩
 rw [Ak] at hS; exact hS
include hT
set_option maxHeartbeats 1600000 in
theorem z4E {S:St} {t tt:TypeId} {s x r:AV} {vs vx:Value} {objs:Objs} (hm:a4A E keep S.objs)
  (h:(j2C T S E.N t s x).gives r objs) (hs:a3A E s vs) (hx:a3A E x vx) :
  ∃ z E',(Builtin.append_ #[t,t] tt #[vs,vx]).run P E.w=.ok z E'.w∧Later keep E E'∧a4A E' keep objs∧a3A E' r z∧E'.N=E.N+1:=by
 unfold j2C at h
 split at h
 ·rename_i ty bytes hty
  obtain ⟨e,inf,z,hu,hi,hsz,hby,hz,hp,hbp,hdef⟩:=d8B hT hty
  have hzl:z.cells.size=a0A ty:=by rw [←An]; exact a2A.length (hdef E)
  split at h
  ·rename_i ys hys
   obtain ⟨xb,xcap,news,rfl,hxc,hn1,hn2⟩:=o3C hm hx hys
   have hnl:news.length=ys.length*inf.size:=by rw [hsz]; exact hn1.2.1
   have f1:(Builtin.firstCells inf.size ys.length (.slice xb ys.length xcap)).run P E.w=.ok news.toArray E.w:=l1A hnl hn2
   have f3:(Builtin.firstCells inf.size ys.length (.slice xb ys.length xcap)).run P E.w.drew=.ok news.toArray E.w.drew:=l1A hnl hn2
   split at h
   ·obtain ⟨hb,rfl,rfl⟩:=h
    have hb:ys.length*bytes≤140737488355328:=Dl hb
    have e1:vs=.slice none 0 0:=by simpa using (show [vs]=[Value.slice none 0 0] from hs)
    subst e1
    have f2:(Builtin.firstCells inf.size 0 (.slice none 0 0)).run P E.w.drew=.ok ([]:List Value).toArray E.w.drew:=l1A (by simp) (.inl rfl)
    have hrun:=b9C (P:=P) (w:=E.w) (ty:=tt) hu hi hz (sb:=none) (sLen:=0) (sCap:=0) (xb:=xb) (n:=ys.length) (xcap:=xcap) (olds:=[]) (news:=news) (by omega) (by rw [hby,Dk]; exact hb) f1 f2 f3
    by_cases hy0:ys.length=0
    ·have:ys=[]:=Br.1 hy0
     subst this
     rw [Aj (by simp)] at hrun
     obtain ⟨E',hw,hL,hM,hS,hN⟩:=t6D (ty:=ty) hm
     exact ⟨_,E',by rw [hw]; exact hrun,hL,hM,hS,hN⟩
    ·rw [Ae (by omega)] at hrun
     obtain ⟨E',hw,hL,hM,hS,hN⟩:=u1D (e:=e) (sCap:=0) (xs:=[]) (olds:=[]) hm hzl ⟨rfl,by simp,fun i hi=>absurd hi (Ch i)⟩ hn1
     exact ⟨_,E',by rw [hw]; exact hrun,hL,hM,hS,hN⟩
   ·rename_i j rg
    split at h
    ·rename_i xs hxs
     obtain ⟨hb,rfl,rfl⟩:=h
     have hb:(xs++ys).length*bytes≤140737488355328:=Dl hb
     rw [Ak] at hb
     obtain ⟨sb,sCap,olds,rfl,hsc,ho1,ho2⟩:=o3C hm hs hxs
     have hol:olds.length=xs.length*inf.size:=by rw [hsz]; exact ho1.2.1
     have f2:(Builtin.firstCells inf.size xs.length (.slice sb xs.length sCap)).run P E.w.drew=.ok olds.toArray E.w.drew:=l1A hol ho2
     have hrun:=b9C (P:=P) (w:=E.w) (ty:=tt) hu hi hz (sb:=sb) (sLen:=xs.length) (sCap:=sCap) (xb:=xb) (n:=ys.length) (xcap:=xcap) (olds:=olds) (news:=news) (by omega) (by rw [hby]; exact hb) f1 f2 f3
     by_cases hfit:xs.length+ys.length≤sCap
     ·rw [Aj hfit] at hrun
      have hobj:∃ l:List (den ty),a1A j S.objs=some (.arr ty l)∧xs=h3A l rg:=by
       have hxs':(match a1A j S.objs with
        | some (.arr t' l)=>oM (j1A t' ty l) fun l=>h3A l rg
        | _=>none)=some xs:=hxs
       split at hxs'
       ·rename_i t' l hl
        obtain ⟨l',hc,rfl⟩:=b4A hxs'
        obtain ⟨rfl,e⟩:=n2A hc
        exact ⟨l,hl,by rw [show l=l' from e]⟩
       ·cases hxs'
      obtain ⟨l,hl,hxl⟩:=hobj
      have ho:=(hm.rep _ _ hl).2
      have hlen:(E.M j).len=l.length:=ho.1
      have hwd:(E.M j).wd=a0A ty:=ho.2.1
      obtain ⟨hid,rr⟩:=d5B hs
      rw [hlen] at rr
      cases hblk:(E.M j).blk with
      | none =>
       rw [hblk] at rr
       obtain ⟨e1,_,_⟩:=rr
       simp only [Value.slice.injEq] at e1
       obtain ⟨rfl,e2,rfl⟩:=e1
       have hxe:xs=[]:=Br.1 e2
       have hye:ys=[]:=Br.1 (by omega)
       subst hxe hye
       obtain ⟨E',hw,hL,hM,hS,hN⟩:=t6D (ty:=ty) (s0A (id:=j) hm)
       exact ⟨_,E',by rw [hw]; exact hrun,hL,hM,hS,hN⟩
      | some b =>
       rw [hblk] at rr
       obtain ⟨o,cap,e1,hc,hl2,hcap⟩:=rr
       simp only [Value.slice.injEq] at e1
       obtain ⟨rfl,e2,rfl⟩:=e1
       obtain ⟨cur,ee,h1,h2,h3,h4⟩:=b0B ho hblk
       replace hrun:(Builtin.append_ #[t,t] tt #[.slice (some ⟨b,o,none⟩) xs.length sCap,.slice xb ys.length xcap]).run P E.w =
         ((storeCells ((⟨b,o,none⟩:Addr).add (xs.length*inf.size)) news).run P E.w).andThen fun _ w=>Result.ok (Value.slice (some ⟨b,o,none⟩) (xs.length+ys.length) sCap) w:=hrun
       rcases Nat.eq_zero_or_pos sCap with hc0 | hc0
       ·subst hc0
        have hxe:xs=[]:=Br.1 (by omega)
        have hye:ys=[]:=Br.1 (by omega)
        have hne:news=[]:=Br.1 (by rw [hnl,hye]; simp)
        rw [hne] at hrun
        simp only [storeCells,Sem.run_pure,Result.andThen_ok] at hrun
        have hmr:=c0C (w:=E.w) (m:=⟨some b,0,0,0,a0A ty⟩) (oc':=.arr ty []) (e1A.refl _) rfl (fun _ _=>rfl) hm hl hblk rfl
         (fun _=>⟨rfl,rfl,cur,ee,h1,Ay _,by simp,fun i hi=>absurd hi (Ch i)⟩)
        refine ⟨_,E.new E.w ⟨some b,0,0,0,a0A ty⟩,hrun,hmr.1,by rw [hxe,hye]; exact hmr.2,?_,rfl⟩
        rw [hxe,hye]
        refine ⟨Cg _,?_⟩
        have:(E.new E.w ⟨some b,0,0,0,a0A ty⟩).M E.N=⟨some b,0,0,0,a0A ty⟩:=by simp [Env.new]
        rw [this]
        exact ⟨o,0,rfl,Ay _,Ay _,.inl rfl⟩
       ·have hcap:=hcap.resolve_left (by omega)
        have hA:xs.length=0∨At E.w b o olds:=by
         rcases ho2 with h0 | ⟨b',o',e3,hA⟩
         ·exact .inl h0
         ·cases e3; exact .inr hA
        have hcw:(d1A rg+sCap)*a0A ty≤(E.M j).cap*a0A ty:=Aw _ hcap.2
        rw [Ca] at hcw
        have hnw:(xs.length+ys.length)*a0A ty≤sCap*a0A ty:=Aw _ hfit
        rw [Ca] at hnw
        rw [hwd] at hcap
        rw [hsz] at hol hnl hrun
        have hst:=run_storeCells_at (P:=P) b (o+xs.length*a0A ty) ee news 0 cur E.w h1 (by omega) (a2A.one hn1)
        rw [Dx] at hst
        rw [v0A,hst,Result.andThen_ok] at hrun
        have holds:olds=(cur.toList.drop o).take (xs.length*a0A ty):=by
         rcases hA with h0 | hA
         ·have:olds=[]:=Br.1 (by rw [hol,h0,Eb])
          rw [this,h0,Eb,List.take_zero]
         ·apply List.ext_getElem?
          intro k
          by_cases hk:k<xs.length*a0A ty
          ·have h8:=hA k _ (Aq (by omega))
           rw [cell_of_row E.w b _ cur ee _ h1] at h8
           rw [Bt,Aj hk,Bl,Aq (by omega)]
           simpa using h8.symm
          ·rw [Bq (by omega),Bq (by rw [Ap]; omega)]
        have hcl:cur.toList.length=cur.size:=An
        have hcat:cur.toList.take (o+xs.length*a0A ty)++news++cur.toList.drop (o+xs.length*a0A ty+news.length)=cur.toList.take o++((olds++news)++cur.toList.drop (o+(olds++news).length)):=by
         have:=h6B cur.toList news o (xs.length*a0A ty) ((xs.length+ys.length)*a0A ty) (o+xs.length*a0A ty) (by rw [Ca]; omega) (by rw [Ca]; omega) rfl
         rw [Bz,this]
         have e5:List.drop (xs.length*a0A ty+news.length) (List.take ((xs.length+ys.length)*a0A ty) (List.drop o cur.toList))=[]:=by
          rw [List.drop_eq_nil_iff,Ap,Ca]; omega
         have e6:List.take (xs.length*a0A ty) (List.take ((xs.length+ys.length)*a0A ty) (List.drop o cur.toList))=olds:=by
          rw [List.take_take,Nat.min_eq_left (by rw [Ca]; omega),holds]
         rw [e5,e6,Bc,Ak,hol,hnl,←Ca]
        have hrow:=setRow_heap E.w b cur (cur.toList.take (o+xs.length*a0A ty)++news++cur.toList.drop (o+xs.length*a0A ty+news.length)).toArray ee _ h1
        have hmr:=c0C (w:=E.w.setRow b (cur.toList.take (o+xs.length*a0A ty)++news++cur.toList.drop (o+xs.length*a0A ty+news.length)).toArray)
         (m:=⟨some b,o,xs.length+ys.length,sCap,a0A ty⟩) (oc':=.arr ty (xs++ys)) (d7B _ _ _) (size_setRow _ _ _) (fun k hk=>q1A _ _ _ _ hk) hm hl hblk rfl
         (fun hL=>o2C (cur:=cur.toList) (seg:=olds++news) (e:=ee) (by simp) rfl rfl (by rw [←hcat]; exact hrow) (by rw [Ak]; exact hfit) (by
           show o+sCap*a0A ty≤_
           rw [hcl]; omega) (by rw [Ak]; exact a2A.later hL (n8B ho1 hn1)))
        refine ⟨_,E.new _ ⟨some b,o,xs.length+ys.length,sCap,a0A ty⟩,hrun,hmr.1,hmr.2,t1B (m:=⟨some b,o,xs.length+ys.length,sCap,a0A ty⟩) rfl hfit,rfl⟩
     ·rw [Ae hfit] at hrun
      obtain ⟨E',hw,hL,hM,hS,hN⟩:=u1D (e:=e) (sCap:=sCap) (s0A (id:=j) hm) hzl ho1 hn1
      exact ⟨_,E',by rw [hw]; exact hrun,hL,hM,hS,hN⟩
    ·exact h.elim
   ·exact h.elim
  ·exact h.elim
 ·exact h.elim
end
end Go.Rx
namespace Go.Rx
variable [Inhabited GW]
section
variable {P:Program} {T:Tab} (hT:TabOK P T) {keep:Nat→Prop} {E:Env} {w:World}
theorem e4D {t:Ty} {l zs:List (den t)} {off:Nat} {seg cells:List Value} (h:a2A E (.arr l.length t) l seg) (hz:a2A E (.arr zs.length t) zs cells) (hb:off+zs.length≤l.length) :
  a2A E (.arr l.length t) (h5A l off zs) (seg.take (off*a0A t)++(cells++seg.drop (off*a0A t+cells.length))):=by
 have hsl:seg.length=l.length*a0A t:=h.2.1
 have hcl:cells.length=zs.length*a0A t:=hz.2.1
 have h1:=b1B h (off:=0) (len:=off) (by omega)
 have h2:=b1B h (off:=off+zs.length) (len:=l.length - (off+zs.length)) (by omega)
 rw [Eb,Do,Do] at h1
 have e1:(l.drop (off+zs.length)).take (l.length - (off+zs.length))=l.drop (off+zs.length):=by rw [Bn]; rw [Ar]; omega
 have e2:(seg.drop ((off+zs.length)*a0A t)).take ((l.length - (off+zs.length))*a0A t)=seg.drop (off*a0A t+cells.length):=by
  rw [hcl,Ca]
  rw [Bn]
  rw [Ar,hsl,Nat.sub_mul,Ca]
  omega
 rw [e1,e2] at h2
 have h3:=n8B h1 (n8B hz h2)
 rw [show off+(zs.length+(l.length - (off+zs.length)))=l.length by omega] at h3
 exact h3
include hT
theorem z5E {S:St} {t u tt:TypeId} {d x r:AV} {vd vx:Value} {objs:Objs} (hm:a4A E keep S.objs)
  (h:(z8C T S t d x).gives r objs) (hd:a3A E d vd) (hx:a3A E x vx) :
  ∃ z E',(Builtin.copy_ #[t,u] tt #[vd,vx]).run P E.w=.ok z E'.w∧Later keep E E'∧a4A E' keep objs∧a3A E' r z∧E'.N=E.N:=by
 unfold z8C at h
 split at h
 ·rename_i ty bytes hty
  obtain ⟨e,inf,z,hu,hi,hsz,hby,hz,hp,hbp,hdef⟩:=d8B hT hty
  split at h
  ·rename_i ys j rg hys
   split at h
   ·rename_i t' l hl
    split at h
    ·rename_i l' hc
     obtain ⟨rfl,rfl⟩:=h
     obtain ⟨rfl,e0⟩:=n2A hc
     have e0:l=l':=e0
     subst e0
     obtain ⟨xb,xcap,news,rfl,hxc,hn1,hn2⟩:=o3C hm hx hys
     have ho:=(hm.rep _ _ hl).2
     have hlen:(E.M j).len=l.length:=ho.1
     have hwd:(E.M j).wd=a0A t':=ho.2.1
     obtain ⟨_,hr⟩:=d5B hd
     rw [hlen] at hr
     cases hblk:(E.M j).blk with
     | none =>
      rw [hblk] at hr
      obtain ⟨rfl,h1,h2⟩:=hr
      have hl0:l=[]:=by have:=ho.2.2; rw [hblk] at this; exact this
      subst hl0
      rw [h2,h1]
      have hrun:(Builtin.copy_ #[t,u] tt #[.slice none 0 0,.slice xb ys.length xcap]).run P E.w=.ok (goInt 0) E.w:=by
       have f1:(Builtin.firstCells inf.size 0 (.slice xb ys.length xcap)).run P E.w=.ok ([]:List Value).toArray E.w:=l1A (by simp) (.inl rfl)
       simp [Builtin.copy_,c3A hu,Builtin.lenOf,n1A hi,f1]
      refine ⟨_,E,hrun,Later.refl _ _,t0B hm fun k oc hk => ?_,rfl,rfl⟩
      rw [d4A] at hk
      by_cases hkj:k=j
      ·rw [Aj hkj] at hk
       cases hk
       rw [hkj,hl]; rfl
      ·rw [Ae hkj] at hk; exact hk
     | some b =>
      rw [hblk] at hr
      obtain ⟨o,cap,rfl,h5,h6,h7⟩:=hr
      generalize hL:e9A l.length rg=len at *
      have hzl:(ys.take len).length=Nat.min ys.length len:=by rw [Ap,Nat.min_comm]
      have htt:ys.take (ys.take len).length=ys.take len:=by
       rw [Ap]
       rcases Nat.le_total len ys.length with h' | h'
       ·rw [Nat.min_eq_left h']
       ·rw [Nat.min_eq_right h',List.take_length,Bn h']
      have hcut:a2A E (.arr (ys.take len).length t') (ys.take len) (news.take ((ys.take len).length*a0A t')):=by
       have:=b1B hn1 (off:=0) (len:=(ys.take len).length) (by rw [Ap]; omega)
       rw [Eb,Do,Do] at this
       rwa [htt] at this
      generalize hcells:news.take ((ys.take len).length*a0A t')=cells at hcut
      have hcl:cells.length=(ys.take len).length*a0A t':=hcut.2.1
      have hf:(Builtin.firstCells inf.size (Nat.min ys.length len) (.slice xb ys.length xcap)).run P E.w=.ok cells.toArray E.w:=by
       have:(Builtin.firstCells inf.size (ys.take len).length (.slice xb (ys.take len).length xcap)).run P E.w=.ok cells.toArray E.w:=by
        refine l1A (by rw [hsz]; exact hcl) ?_
        rcases hn2 with h0 | ⟨b',o',rfl,hA⟩
        ·left; rw [Ap,h0]; omega
        ·right
         refine ⟨b',o',rfl,?_⟩
         have:=hA.cut 0 ((ys.take len).length*a0A t')
         rwa [Dx,Do,hcells] at this
       rw [←hzl]
       cases xb <;> exact this
      obtain ⟨cur,ee,g1,g2,g3,g4⟩:=b0B ho hblk
      have hoff:d1A rg+(ys.take len).length≤l.length:=by rw [Ap]; omega
      have hnew:=e4D g4 hcut hoff
      generalize hzs:ys.take len=zs at *
      by_cases hz0:zs.length=0
      ·have hzn:zs=[]:=Br.1 hz0
       subst hzn
       have hcn:cells=[]:=Br.1 (by rw [hcl]; simp)
       subst hcn
       have hrun:(Builtin.copy_ #[t,u] tt #[.slice (some ⟨b,o,none⟩) len cap,.slice xb ys.length xcap]).run P E.w=.ok (goInt 0) E.w:=by
        rw [←hzl] at hf
        have hmin:Nat.min ys.length len=0:=by rw [←hzl]; rfl
        simp only [Builtin.copy_,Da,Fa,Co,Sem.run_bind,c3A hu,Result.andThen_ok,Builtin.lenOf,Sem.run_pure,n1A hi,hmin]
        have hf:(Builtin.firstCells inf.size 0 (.slice xb ys.length xcap)).run P E.w=.ok #[] E.w:=hf
        simp [hf,storeCells]
       refine ⟨_,E,hrun,Later.refl _ _,t0B hm fun k oc hk => ?_,rfl,rfl⟩
       rw [d4A] at hk
       by_cases hkj:k=j
       ·rw [Aj hkj] at hk
        cases hk
        rw [hkj,hl]
        simp [h5A]
       ·rw [Ae hkj] at hk; exact hk
      ·have hcap:cap≠0:=by rw [hzl] at hz0; have:Nat.min ys.length len≤len:=Nat.min_le_right _ _; omega
       obtain ⟨h8,h9⟩:=h7.resolve_left hcap
       have hc1:l.length*a0A t'≤(E.M j).cap*a0A t':=Aw _ g2
       have hc2:(d1A rg+zs.length)*a0A t'≤l.length*a0A t':=Aw _ hoff
       rw [Ca,←hcl] at hc2
       have hc3:(E.M j).base+l.length*a0A t'≤cur.toList.length:=by rw [An]; exact Dz (Nat.add_le_add_left hc1 _) g3
       have hst:=run_storeCells_at (P:=P) b o ee cells 0 cur E.w g1 (by rw [h8,hwd]; omega) (a2A.one hcut)
       have hrun:(Builtin.copy_ #[t,u] tt #[.slice (some ⟨b,o,none⟩) len cap,.slice xb ys.length xcap]).run P E.w =
         .ok (goInt zs.length) (E.w.setRow b (cur.toList.take o++(cells++cur.toList.drop (o+cells.length))).toArray):=by
        simp only [Builtin.copy_,Da,Fa,Co,Sem.run_bind,c3A hu,Result.andThen_ok,Builtin.lenOf,Sem.run_pure,n1A hi,hf,hst]
        rw [hzl]
        simp [Bz]
       have hsp:=h6B cur.toList cells (E.M j).base (d1A rg*a0A t') (l.length*a0A t') o hc2 hc3 (by rw [h8,hwd])
       rw [hsp] at hrun
       generalize hseg:(((cur.toList.drop (E.M j).base).take (l.length*a0A t')).take (d1A rg*a0A t')++(cells++((cur.toList.drop (E.M j).base).take (l.length*a0A t')).drop (d1A rg*a0A t'+cells.length)))=seg at hrun hnew
       have hal:seg.length=l.length*a0A t':=by have:=a2A.length hnew; exact this
       have hrow:=setRow_heap E.w b cur (List.take (E.M j).base cur.toList++(seg++List.drop ((E.M j).base+l.length*a0A t') cur.toList)).toArray ee _ g1
       have hS:(E.w.setRow b (List.take (E.M j).base cur.toList++(seg++List.drop ((E.M j).base+l.length*a0A t') cur.toList)).toArray).heap.size=E.w.heap.size:=size_setRow _ _ _
       have hO:∀ k,k≠b→(E.w.setRow b (List.take (E.M j).base cur.toList++(seg++List.drop ((E.M j).base+l.length*a0A t') cur.toList)).toArray).heap[k]? = E.w.heap[k]? := fun k hk=>q1A _ _ _ _ hk
       have hsep:=hm.sep _ _ _ hl hblk
       have hLat:=a8B (keep:=keep) (d7B _ _ _) hS hO hsep.1 hsep.2
       have hcpl:(h5A l (d1A rg) zs).length=l.length:=by simp only [h5A,Ak,Ap,Ar]; omega
       refine ⟨_,E.at _,hrun,hLat,?_,rfl,rfl⟩
       refine a9B (d7B _ _ _) hS hO hm hl hblk ?_
       refine o2C (cur:=cur.toList) (seg:=seg) (e:=ee) (by rw [hcpl]; exact hlen) hwd hblk ?_ (by rw [hcpl]; exact g2) (by rw [An]; exact g3) ?_
       ·rw [hal]; exact hrow
       ·rw [hcpl]; exact a2A.later hLat hnew
    ·exact h.elim
   ·exact h.elim
  ·rename_i ys id off n t' lo len hys
   have hb2:=h
   have hw:a0A t'=a0A ty:=by
    cases hb:Nat.beq (a0A t') (a0A ty) with
    | true=>exact Ag hb
    | false=>rw [hb] at h; exact h.elim
   rw [hw,Cn,Al] at h
   split at h
   ·rename_i cs hl
    split at h
    ·rename_i l ha
     split at h
     ·rename_i cs' hsp
      obtain ⟨rfl,rfl⟩:=h
      obtain ⟨xb,xcap,news,rfl,hxc,hn1,hn2⟩:=o3C hm hx hys
      obtain ⟨hid,hlo,b,o,hblk,hv,ho⟩:=(show a6A E (.bsl id off n t' lo len) [vd] from hd)
      have hv:vd=.slice (some ⟨b,o,none⟩) len (n - lo):=by simpa using hv
      subst hv
      obtain ⟨_,b',cur,ee,h1,h2,h3⟩:=hm.rep _ _ hl
      rw [hblk] at h1; cases h1
      obtain ⟨hin,harr⟩:=b0C h3 ha
      have hn:=harr.1
      have hzl:(ys.take len).length=Nat.min ys.length len:=by rw [Ap,Nat.min_comm]
      have htt:ys.take (ys.take len).length=ys.take len:=by
       rw [Ap]
       rcases Nat.le_total len ys.length with h' | h'
       ·rw [Nat.min_eq_left h']
       ·rw [Nat.min_eq_right h',List.take_length,Bn h']
      have hcut:a2A E (.arr (ys.take len).length ty) (ys.take len) (news.take ((ys.take len).length*a0A ty)):=by
       have:=b1B hn1 (off:=0) (len:=(ys.take len).length) (by rw [Ap]; omega)
       rw [Eb,Do,Do] at this
       rwa [htt] at this
      generalize hcells:news.take ((ys.take len).length*a0A ty)=cells at hcut
      have hcl:cells.length=(ys.take len).length*a0A ty:=hcut.2.1
      have hf:(Builtin.firstCells inf.size (Nat.min ys.length len) (.slice xb ys.length xcap)).run P E.w=.ok cells.toArray E.w:=by
       have:(Builtin.firstCells inf.size (ys.take len).length (.slice xb (ys.take len).length xcap)).run P E.w=.ok cells.toArray E.w:=by
        refine l1A (by rw [hsz]; exact hcl) ?_
        rcases hn2 with h0 | ⟨b',o',rfl,hA⟩
        ·left; rw [Ap,h0]; omega
        ·right
         refine ⟨b',o',rfl,?_⟩
         have:=hA.cut 0 ((ys.take len).length*a0A ty)
         rwa [Dx,Do,hcells] at this
       rw [←hzl]
       cases xb <;> exact this
      have hoff:lo+(ys.take len).length≤l.length:=by rw [Ap]; omega
      have hnew:=e4D (hn.symm▸harr:a2A E (.arr l.length ty) l _) hcut hoff
      rw [hn] at hnew
      have hseg:=hnew
      have hcell:b0A E [.arr n ty (h5A l lo (ys.take len))] _:=⟨_,[],by rw [Bc],hseg,rfl⟩
      obtain ⟨h6,h7⟩:=h0B h3 hcell hsp
      generalize hzs:ys.take len=zs at *
      simp only [An] at hin h6
      have hsl:(List.take (n*a0A ty) (List.drop off cur.toList)).length=n*a0A ty:=by rw [Ap,Ar,An]; omega
      have hc2:lo*a0A ty+cells.length≤n*a0A ty:=by rw [hcl,←Ca]; exact Aw _ (by omega)
      have hal:(List.take (lo*a0A ty) (List.take (n*a0A ty) (List.drop off cur.toList))++(cells++List.drop (lo*a0A ty+cells.length) (List.take (n*a0A ty) (List.drop off cur.toList)))).length=n*a0A ty:=by
       have:=a2A.length hseg; exact this
      rw [hal] at h7
      have hsplice:=h6B cur.toList cells off (lo*a0A ty) (n*a0A ty) (off+lo*a0A ty) hc2 (by rw [An]; omega) rfl
      by_cases hz0:zs.length=0
      ·have hzn:zs=[]:=Br.1 hz0
       have hcn:cells=[]:=Br.1 (by rw [hcl,hz0]; simp)
       subst hcn
       rw [hzl] at hz0
       have hrun:(Builtin.copy_ #[t,u] tt #[.slice (some ⟨b,o,none⟩) len (n - lo),.slice xb ys.length xcap]).run P E.w=.ok (goInt 0) E.w:=by
        simp only [Builtin.copy_,Da,Fa,Co,Sem.run_bind,c3A hu,Result.andThen_ok,Builtin.lenOf,Sem.run_pure,n1A hi,hz0]
        have hf:(Builtin.firstCells inf.size 0 (.slice xb ys.length xcap)).run P E.w=.ok #[] E.w:=by rw [←hz0]; exact hf
        simp [hf,storeCells]
       refine ⟨_,E,hrun,Later.refl _ _,?_,by rw [hzn]; rfl,rfl⟩
       have hcur:cur.toList.take off++((List.take (lo*a0A ty) (List.take (n*a0A ty) (List.drop off cur.toList))++([]++List.drop (lo*a0A ty+([]:List Value).length) (List.take (n*a0A ty) (List.drop off cur.toList))))++List.drop (off+n*a0A ty) cur.toList)=cur.toList:=by
        rw [←hsplice]; simp
       rw [hcur] at h7
       have:=a9B (E:=E) (keep:=keep) (w:=E.w) (b:=b) (e1A.refl _) rfl (fun _ _=>rfl) hm hl hblk (oc':=.box cs') ⟨b,cur,ee,hblk,h2,h7⟩
       exact this
      ·have hcap:len≠0:=by rw [hzl] at hz0; have:Nat.min ys.length len≤len:=Nat.min_le_right _ _; omega
       have ho:o=off+lo*a0A ty:=by
        have:=ho.resolve_left (by omega)
        rw [this,hw]
       obtain ⟨hL,hM⟩:=d8D hm hl hblk h2 h7
       have hst:=run_storeCells_at (P:=P) b o ee cells 0 cur E.w h2 (by rw [ho]; omega) (a2A.one hcut)
       have hrun:(Builtin.copy_ #[t,u] tt #[.slice (some ⟨b,o,none⟩) len (n - lo),.slice xb ys.length xcap]).run P E.w =
         .ok (goInt zs.length) (E.w.setRow b (cur.toList.take o++(cells++cur.toList.drop (o+cells.length))).toArray):=by
        simp only [Builtin.copy_,Da,Fa,Co,Sem.run_bind,c3A hu,Result.andThen_ok,Builtin.lenOf,Sem.run_pure,n1A hi,hf,hst]
        rw [hzl]
        simp [Bz]
       rw [ho,hsplice] at hrun
       rw [ho]
       exact ⟨_,E.at _,hrun,hL,hM,rfl,rfl⟩
     ·exact h.elim
    ·exact h.elim
   ·exact h.elim
  ·exact h.elim
 ·exact h.elim
end
end Go.Rx
namespace Go.Rx
variable [Inhabited GW]
section
variable {P:Program} {T:Tab} (hT:TabOK P T) {keep:Nat→Prop} {E:Env} {w:World}
theorem z6E {t:Ty} {z:Array Value} (n:Nat) (hz:a2A E t (c4A t) z.toList):a2A E (.arr (List.replicate n (c4A t)).length t) (List.replicate n (c4A t)) (Builtin.zeroCells z n).toList:=by
 have hzl:z.size=a0A t:=by rw [←An]; exact a2A.length hz
 refine ⟨rfl,by rw [An,t2B,Ed,hzl],fun i hi=>⟨z.toList,by rw [List.getElem_replicate]; exact hz,fun j v hj => ?_⟩⟩
 rw [Ed] at hi
 have hjl:j<a0A t:=by
  rw [←hzl,←An]
  rcases Dh j z.toList.length with h' | h'
  ·exact h'
  ·rw [Bq h'] at hj; cases hj
 have hlt:i*a0A t+j<n*z.size:=by
  rw [hzl]
  have:i*a0A t+a0A t≤n*a0A t:=by rw [←Dw]; exact Aw _ (by omega)
  omega
 have hmod:(i*a0A t+j) % z.size=j:=by rw [hzl,Nat.mul_comm,Nat.mul_add_mod,Nat.mod_eq_of_lt hjl]
 have hj':z[j]? = some v:=by simpa using hj
 simp only [Builtin.zeroCells,Dr,Array.getElem?_map,Array.getElem?_range,hlt,Ep,Option.map_some,hmod]
 rw [getElem!_def,hj']
theorem u2D {t tt e:TypeId} {inf:TypeInfo} {z:Value} {w:World} {a:Addr} {len cap:Nat} (hu:P.underlying t=some (.slice e)) (hi:P.info? e=some inf) (hz:inf.zero=some z) (h0:len≠0) :
  (Builtin.clear_ #[t] tt #[.slice (some a) len cap]).run P w=(do storeCells a (Builtin.zeroCells z.cells len).toList; pure (.tuple #[]):Sem Value).run P w:=by
 obtain ⟨n,rfl⟩:∃ n,len=n+1:=⟨len - 1,by omega⟩
 simp [Builtin.clear_,c3A hu,zeroValue,y4A hi,hz]
include hT
theorem z7E {S:St} {t tt:TypeId} {x r:AV} {vx:Value} {objs:Objs} (hm:a4A E keep S.objs) (h:(z9C T S t x).gives r objs) (hx:a3A E x vx) :
  ∃ E',(Builtin.clear_ #[t] tt #[vx]).run P E.w=.ok (.tuple #[]) E'.w∧Later keep E E'∧a4A E' keep objs∧a3A E' r (.tuple #[])∧E'.N=E.N:=by
 unfold z9C at h
 split at h
 ·rename_i ty bytes hty
  obtain ⟨e,inf,z,hu,hi,hsz,hby,hz,hp,hbp,hdef⟩:=d8B hT hty
  split at h
  ·obtain ⟨rfl,rfl⟩:=h
   have hx:[vx]=[Value.slice none 0 0]:=hx
   have hx:vx=.slice none 0 0:=by simpa using hx
   subst hx
   exact ⟨E,by simp [Builtin.clear_,c3A hu],Later.refl _ _,hm,⟨[],rfl,rfl⟩,rfl⟩
  ·rename_i j rg
   split at h
   ·rename_i t' l hl
    split at h
    ·rename_i l' hc
     obtain ⟨rfl,rfl⟩:=h
     obtain ⟨rfl,e0⟩:=n2A hc
     have e0:l=l':=e0
     subst e0
     have ho:=(hm.rep _ _ hl).2
     have hlen:(E.M j).len=l.length:=ho.1
     have hwd:(E.M j).wd=a0A t':=ho.2.1
     obtain ⟨_,hr⟩:=d5B hx
     rw [hlen] at hr
     have same:∀ {zs:List (den t')},zs=[]→a4A E keep (a9A j (.arr t' (h5A l (d1A rg) zs)) S.objs):=fun hzn=>by
      subst hzn
      refine t0B hm fun k oc hk => ?_
      rw [d4A] at hk
      by_cases hkj:k=j
      ·rw [Aj hkj] at hk
       cases hk
       rw [hkj,hl]
       simp [h5A]
      ·rw [Ae hkj] at hk; exact hk
     cases hblk:(E.M j).blk with
     | none =>
      rw [hblk] at hr
      obtain ⟨rfl,h1,h2⟩:=hr
      exact ⟨E,by simp [Builtin.clear_,c3A hu],Later.refl _ _,same (by rw [h2]; rfl),⟨[],rfl,rfl⟩,rfl⟩
     | some b =>
      rw [hblk] at hr
      obtain ⟨o,cap,rfl,h5,h6,h7⟩:=hr
      generalize hL:e9A l.length rg=len at *
      by_cases hz0:len=0
      ·subst hz0
       exact ⟨E,by simp [Builtin.clear_,c3A hu],Later.refl _ _,same rfl,⟨[],rfl,rfl⟩,rfl⟩
      ·have hcut:=z6E len (hdef E)
       generalize hcells:(Builtin.zeroCells z.cells len).toList=cells at hcut
       generalize hzs:List.replicate len (c4A t')=zs at *
       have hzl:zs.length=len:=by rw [←hzs,Ed]
       have hcl:cells.length=zs.length*a0A t':=hcut.2.1
       obtain ⟨cur,ee,g1,g2,g3,g4⟩:=b0B ho hblk
       have hoff:d1A rg+zs.length≤l.length:=by rw [hzl]; omega
       have hnew:=e4D g4 hcut hoff
       have hcap:cap≠0:=by omega
       obtain ⟨h8,h9⟩:=h7.resolve_left hcap
       have hc1:l.length*a0A t'≤(E.M j).cap*a0A t':=Aw _ g2
       have hc2:(d1A rg+zs.length)*a0A t'≤l.length*a0A t':=Aw _ hoff
       rw [Ca,←hcl] at hc2
       have hc3:(E.M j).base+l.length*a0A t'≤cur.toList.length:=by rw [An]; exact Dz (Nat.add_le_add_left hc1 _) g3
       have hst:=run_storeCells_at (P:=P) b o ee cells 0 cur E.w g1 (by rw [h8,hwd]; omega) (a2A.one hcut)
       have hrun:(Builtin.clear_ #[t] tt #[.slice (some ⟨b,o,none⟩) len cap]).run P E.w=.ok (.tuple #[]) (E.w.setRow b (cur.toList.take o++(cells++cur.toList.drop (o+cells.length))).toArray):=by
        rw [u2D hu hi hz hz0,hcells]
        simp only [Sem.run_bind,hst,Result.andThen_ok]
        simp [Bz]
       have hsp:=h6B cur.toList cells (E.M j).base (d1A rg*a0A t') (l.length*a0A t') o hc2 hc3 (by rw [h8,hwd])
       rw [hsp] at hrun
       generalize hseg:(((cur.toList.drop (E.M j).base).take (l.length*a0A t')).take (d1A rg*a0A t')++(cells++((cur.toList.drop (E.M j).base).take (l.length*a0A t')).drop (d1A rg*a0A t'+cells.length)))=seg at hrun hnew
       have hal:seg.length=l.length*a0A t':=by have:=a2A.length hnew; exact this
       have hrow:=setRow_heap E.w b cur (List.take (E.M j).base cur.toList++(seg++List.drop ((E.M j).base+l.length*a0A t') cur.toList)).toArray ee _ g1
       have hS:(E.w.setRow b (List.take (E.M j).base cur.toList++(seg++List.drop ((E.M j).base+l.length*a0A t') cur.toList)).toArray).heap.size=E.w.heap.size:=size_setRow _ _ _
       have hO:∀ k,k≠b→(E.w.setRow b (List.take (E.M j).base cur.toList++(seg++List.drop ((E.M j).base+l.length*a0A t') cur.toList)).toArray).heap[k]? = E.w.heap[k]? := fun k hk=>q1A _ _ _ _ hk
       have hsep:=hm.sep _ _ _ hl hblk
       have hLat:=a8B (keep:=keep) (d7B _ _ _) hS hO hsep.1 hsep.2
       have hcpl:(h5A l (d1A rg) zs).length=l.length:=by simp only [h5A,Ak,Ap,Ar]; omega
       refine ⟨E.at _,hrun,hLat,?_,⟨[],rfl,rfl⟩,rfl⟩
       refine a9B (d7B _ _ _) hS hO hm hl hblk ?_
       refine o2C (cur:=cur.toList) (seg:=seg) (e:=ee) (by rw [hcpl]; exact hlen) hwd hblk ?_ (by rw [hcpl]; exact g2) (by rw [An]; exact g3) ?_
       ·rw [hal]; exact hrow
       ·rw [hcpl]; exact a2A.later hLat hnew
    ·exact h.elim
   ·exact h.elim
  ·exact h.elim
 ·exact h.elim
theorem z8E {S:St} {t:TypeId} {x r:AV} {vx:Value} {objs:Objs} (hm:a4A E keep S.objs) (h:(z6B T S E.N t x).gives r objs) (hx:a3A E x vx) (hs:∃ s,x=.str s) :
  ∃ z E',(Instr.range t vx).run P E.w=.ok z E'.w∧Later keep E E'∧a4A E' keep objs∧a3A E' r z∧E'.N=E.N+1:=by
 unfold z6B at h
 split at h
 ·rename_i s htd
  obtain ⟨rfl,rfl⟩:=h
  obtain ⟨d,hu,rfl⟩:=f7A hT htd
  have hx:=hx.str_inv
  subst hx
  have hrun:(Instr.range t (.string s)).run P E.w=.ok (.pointer (some ⟨E.w.heap.size,0,none⟩)) (E.w.alloc (.stringIter s 0)):=by
   simp [Instr.range,c3A hu]
  refine ⟨_,E.new (E.w.alloc (.stringIter s 0)) ⟨some E.w.heap.size,0,0,0,0⟩,hrun,a7B (o:=.stringIter s 0) rfl ⟨rfl,rfl⟩ hm,?_,?_,rfl⟩
  ·exact d6B (w:=E.w.alloc (.stringIter s 0)) (o:=.stringIter s 0) (m:=⟨some E.w.heap.size,0,0,0,0⟩) (oc:=.iter s 0) rfl ⟨rfl,rfl⟩ hm (fun b h=>(Bp h).symm) ⟨E.w.heap.size,rfl,by show (E.w.heap.push (Obj.stringIter s 0))[E.w.heap.size]? = _; exact Array.getElem?_push_size⟩
  ·exact ⟨Cg _,E.w.heap.size,by simp [Env.new],rfl⟩
 ·obtain ⟨s,e⟩:=hs; cases e
 ·exact h.elim
omit hT
theorem z9E {S:St} {it r:AV} {vx:Value} {ty:TypeId} {objs:Objs} (hm:a4A E keep S.objs) (h:(a0D S it).gives r objs) (hx:a3A E it vx) :
  ∃ z E',(Instr.next vx true ty).run P E.w=.ok z E'.w∧Later keep E E'∧a4A E' keep objs∧a3A E' r z∧E'.N=E.N:=by
 unfold a0D at h
 split at h
 ·rename_i id
  split at h
  ·rename_i s pos hl
   obtain ⟨_,b,hb,rfl⟩:=h4B hx
   obtain ⟨_,b',h1,h2⟩:=hm.rep _ _ hl
   rw [hb] at h1; cases h1
   have hg:(getObj b).run P E.w=.ok (.stringIter s pos) E.w:=by simp [getObj,Sem.run,h2]
   rcases h with ⟨hd,rfl,rfl⟩ | ⟨hd,rfl,rfl⟩
   ·have hd:=Dl hd
    have hbl:b<E.w.heap.size:=j8A (hm.rep _ _ hl).2 hb
    obtain ⟨w',hw'⟩:∃ w',({ E.w with heap:=E.w.heap.setIfInBounds b (.stringIter s (pos+q4A s pos)) }:World)=w':=⟨_,rfl⟩
    have hset:(setObj b (.stringIter s (pos+q4A s pos))).run P E.w=.ok () w':=by rw [←hw']; simp [setObj,Sem.run,h2]
    have hS:w'.heap.size=E.w.heap.size:=by rw [←hw']; simp
    have hO:∀ k,k≠b→w'.heap[k]? = E.w.heap[k]? := fun k hk=>by rw [←hw']; simp [Ne.symm hk]
    have hQ:e1A E.w w':=by rw [←hw']; exact ⟨rfl,rfl⟩
    have hsep:=hm.sep _ _ _ hl hb
    have hnew:w'.heap[b]? = some (.stringIter s (pos+q4A s pos)):=by rw [←hw']; simp [hbl]
    refine ⟨_,E.at w',?_,a8B hQ hS hO hsep.1 hsep.2,a9B hQ hS hO hm hl hb ⟨b,hb,hnew⟩,⟨[.bool true,.int .i64 pos,.int .i32 (f6C s pos)],rfl,_,_,rfl,rfl,_,_,rfl,rfl,_,_,rfl,rfl,rfl⟩,rfl⟩
    simp only [Instr.next,Sem.run_bind,hg,Result.andThen_ok]
    rw [Aj hd]
    simp only [Sem.run_bind]
    have:=hset
    unfold q4A at this
    rw [this]
    rfl
   ·have hd:=of_decide_eq_false hd
    refine ⟨_,E,?_,Later.refl _ _,hm,⟨[.bool false],rfl,_,_,rfl,rfl,rfl⟩,rfl⟩
    simp only [Instr.next,Sem.run_bind,hg,Result.andThen_ok]
    rw [Ae hd]
    rfl
  ·exact h.elim
 ·exact h.elim
end
end Go.Rx
namespace Go.Rx
variable [Inhabited GW]
section
variable {P:Program} {T:Tab} (hT:TabOK P T) {keep:Nat→Prop} {E:Env}
omit [Inhabited GW] in
theorem u3D {n:Int}:∀ {l:List MapEntry} {es:List (Int×AV)} (i:Nat),l.map (·.key)=es.map (fun p=>Value.int .i64 p.1)→hasM n es=false→Instr.findNow (.int .i64) (.int .i64 n) l i=some none
 | [],_,_,_,_=>rfl
 | e::l,[],i,h,_=>by simp at h
 | e::l,p::es,i,h,hn=>by
  simp only [List.map_cons,List.cons.injEq] at h
  simp only [hasM,Fi,Ee] at hn
  unfold Instr.findNow
  rw [h.1]
  have:(n==p.1)=false:=by simpa using hn.1
  simp only [Instr.sameNow,Ep,this]
  exact u3D (i+1) h.2 hn.2
theorem u4D {n:Int}:∀ {l:List MapEntry} {es:List (Int×AV)} (i:Nat),l.map (·.key)=es.map (fun p=>Value.int .i64 p.1)→e5A E (es.map (·.2)) (l.map (·.val)) →
  ∃ r,Instr.findNow (.int .i64) (.int .i64 n) l i=some r∧∀ z vz,i6A z=true→a6A E z [vz]→i6A (u3A n z es)=true∧a6A E (u3A n z es) [match r with | some (_,v)=>v | none=>vz]
 | [],[],_,_,_=>⟨none,rfl,fun z vz h1 h2=>⟨h1,h2⟩⟩
 | [],p::es,_,h,_=>by simp at h
 | e::l,[],i,h,_=>by simp at h
 | e::l,p::es,i,h,hr=>by
  simp only [List.map_cons,List.cons.injEq] at h
  obtain ⟨v,r,e1,c1,r1,r2⟩:=hr
  simp only [List.map_cons,List.cons.injEq] at e1
  obtain ⟨rfl,rfl⟩:=e1
  unfold Instr.findNow
  rw [h.1]
  by_cases hn:n=p.1
  ·have:(n==p.1)=true:=by simpa using hn
   simp only [Instr.sameNow,Ep,this]
   refine ⟨_,rfl,fun z vz h1 h2 => ?_⟩
   rw [show u3A n z (p::es)=p.2 by unfold u3A; rw [Ah hn]; rfl]
   exact ⟨c1,r1⟩
  ·have:(n==p.1)=false:=by simpa using hn
   simp only [Instr.sameNow,Ep,this]
   obtain ⟨q,h3,h4⟩:=u4D (i+1) h.2 r2
   refine ⟨q,h3,fun z vz h1 h2 => ?_⟩
   rw [show u3A n z (p::es)=u3A n z es from (show (bif decide (n=p.1) then p.2 else u3A n z es)=_ by rw [Am hn]; rfl)]
   exact h4 z vz h1 h2
omit [Inhabited GW] in
theorem e5D (n:Int) (v:AV):∀ es:List (Int×AV),j4C n v es=es++[(n,v)]
 | []=>rfl
 | p::es=>by unfold j4C; rw [e5D n v es]; rfl
omit [Inhabited GW] in
theorem e5A.snoc:∀ {l:List AV} {vs:List Value} {a:AV} {v:Value},e5A E l vs→i6A a=true→a6A E a [v]→e5A E (l++[a]) (vs++[v])
 | [],vs,a,v,h,hc,hr=>by
  have h:vs=[]:=h
  subst h
  exact ⟨v,[],rfl,hc,hr,rfl⟩
 | b::l,vs,a,v,h,hc,hr=>by
  obtain ⟨u,r,rfl,h1,h2,h3⟩:=h
  exact ⟨u,r++[v],rfl,h1,h2,e5A.snoc h3 hc hr⟩
theorem e6D {id:Nat} {v:Value} (h:a3A E (.mapr id) v):id<E.N∧∃ b,(E.M id).blk=some b∧v=.map (some b):=by
 obtain ⟨h1,b,h2,h3⟩:=(show a6A E (.mapr id) [v] from h)
 exact ⟨h1,b,h2,by simpa using h3⟩
include hT
theorem a0F {S:St} {t:TypeId} {m k v r:AV} {vm vk vv:Value} {objs:Objs} (hm:a4A E keep S.objs) (h:(a1D T S t m k v).gives r objs) (hxm:a3A E m vm) (hxk:a3A E k vk) (hxv:a3A E v vv) :
  ∃ E',(Instr.mapUpdate t vm vk vv).run P E.w=.ok () E'.w∧Later keep E E'∧a4A E' keep objs∧r=.tup []∧E'.N=E.N:=by
 unfold a1D at h
 split at h
 ·rename_i kt et id n htd
  split at h
  ·rename_i es hk hl
   cases hc:(!hasM n es&&i6A v) with
   | false=>rw [hc] at h; exact h.elim
   | true =>
    rw [hc] at h
    simp only [Ac,Ew] at hc
    obtain ⟨rfl,rfl⟩:=h
    obtain ⟨d,hu,rfl⟩:=f7A hT htd
    obtain ⟨d2,hu2,rfl⟩:=f7A hT hk
    obtain ⟨_,b,hb,rfl⟩:=e6D hxm
    have hxk:vk=.int .i64 n:=by simpa [a3A,d6A,a6A] using hxk
    subst hxk
    obtain ⟨_,b',ms,ck,h1,h2,h3,h4⟩:=hm.rep _ _ hl
    rw [hb] at h1; cases h1
    have hg:(getObj b).run P E.w=.ok (.map ms ck) E.w:=by simp [getObj,Sem.run,h2]
    have hbl:b<E.w.heap.size:=j8A (hm.rep _ _ hl).2 hb
    obtain ⟨o,ho⟩:∃ o,o=Obj.map (ms.push { key:=.int .i64 n,val:=vv,born:=ck }) (ck+1):=⟨_,rfl⟩
    obtain ⟨w',hw'⟩:∃ w',({ E.w with heap:=E.w.heap.setIfInBounds b o }:World)=w':=⟨_,rfl⟩
    have hset:(setObj b o).run P E.w=.ok () w':=by rw [←hw']; simp [setObj,Sem.run,h2]
    have hS:w'.heap.size=E.w.heap.size:=by rw [←hw']; simp
    have hO:∀ k,k≠b→w'.heap[k]? = E.w.heap[k]? := fun k hk=>by rw [←hw']; simp [Ne.symm hk]
    have hQ:e1A E.w w':=by rw [←hw']; exact ⟨rfl,rfl⟩
    have hsep:=hm.sep _ _ _ hl hb
    have hnew:w'.heap[b]? = some o:=by rw [←hw']; simp [hbl]
    have hL:=a8B (keep:=keep) hQ hS hO hsep.1 hsep.2
    refine ⟨E.at w',?_,hL,a9B hQ hS hO hm hl hb ⟨b,_,_,hb,by rw [ho] at hnew; exact hnew,?_,?_⟩,rfl,rfl⟩
    ·simp only [Instr.mapUpdate,Sem.run_bind,c3A hu,Result.andThen_ok,hg,b3C hu2,Instr.findKey,c3A hu2,u3D 0 h3 hc.1,Sem.run_pure]
     rw [←ho]; exact hset
    ·rw [e5D,Array.toList_push,List.map_append,List.map_append,h3]; rfl
    ·rw [e5D,Array.toList_push,List.map_append,List.map_append]
     exact e5A.snoc (e5A.later hL h4) hc.2 (a6A.later hL (m9C hxv hc.2))
  ·exact h.elim
 ·exact h.elim
theorem a1F {S:St} {t:TypeId} {m k r:AV} {vm vk:Value} {objs:Objs} (hm:a4A E keep S.objs) (h:(atM T S t m k).gives r objs) (hxm:a3A E m vm) (hxk:a3A E k vk) :
  ∃ x,(Instr.lookup t vm vk false).run P E.w=.ok x E.w∧objs=S.objs∧a3A E r x:=by
 unfold atM at h
 split at h
 ·rename_i kt et id n htd
  split at h
  ·rename_i es i hk hl hi
   split at h
   ·rename_i z hz
    cases hc:(i6A z&&!i.td.isAgg) with
    | false=>rw [hc] at h; exact h.elim
    | true =>
     rw [hc] at h
     simp only [Ac,Ew] at hc
     obtain ⟨rfl,rfl⟩:=h
     obtain ⟨d,hu,rfl⟩:=f7A hT htd
     obtain ⟨d2,hu2,rfl⟩:=f7A hT hk
     obtain ⟨_,b,hb,rfl⟩:=e6D hxm
     have hxk:vk=.int .i64 n:=by simpa [a3A,d6A,a6A] using hxk
     subst hxk
     obtain ⟨_,b',ms,ck,h1,h2,h3,h4⟩:=hm.rep _ _ hl
     rw [hb] at h1; cases h1
     have hg:(getObj b).run P E.w=.ok (.map ms ck) E.w:=by simp [getObj,Sem.run,h2]
     obtain ⟨inf,i1,i2,i3,zv,i4,i5,i6,i7⟩:=(hT et i hi).info
     rw [hc.2] at i7
     have i7:zv.cells = #[zv]:=i7
     have hzr:a6A E z [zv]:=by
      have:=i5 E
      rw [hz,i7] at this
      obtain ⟨u,r,e,hu,hr⟩:=this
      have hr:r=[]:=hr
      subst hr
      rw [Bc] at e
      rw [←e] at hu; exact hu
     obtain ⟨q,q1,q2⟩:=u4D (E:=E) (n:=n) 0 h3 h4
     obtain ⟨q3,q4⟩:=q2 z zv hc.1 hzr
     refine ⟨_,?_,rfl,(a3A.iff_V (by cases hp:u3A n z es <;> first | rfl | (rw [hp] at q3; cases q3))).2 (s7D q3 q4)⟩
     cases q with
     | none=>simp [Instr.lookup,Sem.run_bind,c3A hu,hg,b3C hu2,Instr.findKey,c3A hu2,q1,zeroValue,y4A i1,i4]
     | some p=>simp [Instr.lookup,Sem.run_bind,c3A hu,hg,b3C hu2,Instr.findKey,c3A hu2,q1]
   ·exact h.elim
  ·exact h.elim
 ·exact h.elim
theorem a2F {S:St} {t:TypeId} {objs:Objs} (hm:a4A E keep S.objs) (h:objs=a9A E.N (.map []) S.objs) :
  ∃ x E',(Instr.makeMap t none).run P E.w=.ok x E'.w∧Later keep E E'∧a4A E' keep objs∧a3A E' (.mapr E.N) x∧E'.N=E.N+1:=by
 subst h
 have hrun:(Instr.makeMap t none).run P E.w=.ok (.map (some E.w.heap.size)) (E.w.alloc (.map #[] 0)):=by simp [Instr.makeMap]
 refine ⟨_,E.new (E.w.alloc (.map #[] 0)) ⟨some E.w.heap.size,0,0,0,0⟩,hrun,a7B (o:=.map #[] 0) rfl ⟨rfl,rfl⟩ hm,?_,?_,rfl⟩
 ·exact d6B (w:=E.w.alloc (.map #[] 0)) (o:=.map #[] 0) (m:=⟨some E.w.heap.size,0,0,0,0⟩) (oc:=.map []) rfl ⟨rfl,rfl⟩ hm (fun b h=>(Bp h).symm) ⟨E.w.heap.size,#[],0,rfl,by show (E.w.heap.push (Obj.map #[] 0))[E.w.heap.size]? = _; exact Array.getElem?_push_size,rfl,rfl⟩
 ·exact ⟨Cg _,E.w.heap.size,by simp [Env.new],rfl⟩
end
end Go.Rx
namespace Go.Rx
variable [Inhabited GW]
section
variable {P:Program} {T:Tab} (hT:TabOK P T) {keep:Nat→Prop} {E:Env}
theorem b5A.snoc {kt vt:Bool×Ty} {e:MapEntry} {p:Nat×(den kt.2×den vt.2)} (hb:e.born=p.1) (hk:d7A E kt p.2.1 e.key) (hv:d7A E vt p.2.2 e.val) :
  ∀ {es:List (Nat×(den kt.2×den vt.2))} {ms:List MapEntry},b5A E kt vt es ms→b5A E kt vt (es++[p]) (ms++[e])
 | [],ms,h=>by
  have h:ms=[]:=h
  subst h
  exact ⟨e,[],rfl,hb,hk,hv,rfl⟩
 | q::es,ms,h=>by
  obtain ⟨f,r,rfl,h1,h2,h3,h4⟩:=h
  exact ⟨f,r++[e],rfl,h1,h2,h3,b5A.snoc hb hk hv h4⟩
theorem b5A.put {kt vt:Bool×Ty} (eq:den kt.2→Bool) {x:den vt.2} {f:MapEntry→MapEntry} (hf:∀ e,(f e).born=e.born∧d7A E vt x (f e).val) :
  ∀ {es:List (Nat×(den kt.2×den vt.2))} {ms:List MapEntry} {i:Nat},b5A E kt vt es ms→i1A eq es=some i→(∀ e,ms[i]? = some e→(f e).key=e.key)→b5A E kt vt (i9C eq x es) (ms.modify i f)
 | [],_,_,_,h,_=>by cases h
 | p::es,_,i,h,hi,hk=>by
  obtain ⟨e,r,rfl,h1,h2,h3,h4⟩:=h
  unfold i1A at hi
  unfold i9C
  cases hb:eq p.2.1 with
  | true =>
   rw [hb] at hi
   cases hi
   exact ⟨f e,r,rfl,by rw [(hf e).1]; exact h1,by rw [hk e rfl]; exact h2,(hf e).2,h4⟩
  | false =>
   rw [hb] at hi
   obtain ⟨j,hj,rfl⟩:=b4A hi
   rw [List.modify_succ_cons]
   exact ⟨e,_,rfl,h1,h2,h3,b5A.put eq hf h4 hj fun e' he=>hk e' (by rw [Co]; exact he)⟩
theorem b5A.del {kt vt:Bool×Ty} (eq:den kt.2→Bool):∀ {es:List (Nat×(den kt.2×den vt.2))} {ms:List MapEntry} {i:Nat},b5A E kt vt es ms→i1A eq es=some i→b5A E kt vt (d3B eq es) (ms.eraseIdx i)
 | [],_,_,_,h=>by cases h
 | p::es,_,i,h,hi=>by
  obtain ⟨e,r,rfl,h1,h2,h3,h4⟩:=h
  unfold i1A at hi
  unfold d3B
  cases hb:eq p.2.1 with
  | true=>rw [hb] at hi; cases hi; exact h4
  | false =>
   rw [hb] at hi
   obtain ⟨j,hj,rfl⟩:=b4A hi
   exact ⟨e,_,rfl,h1,h2,h3,b5A.del eq h4 hj⟩
theorem b5A.kept {kt vt:Bool×Ty} (eq:den kt.2→Bool):∀ {es:List (Nat×(den kt.2×den vt.2))},i1A eq es=none→d3B eq es=es
 | [],_=>rfl
 | p::es,h=>by
  unfold i1A at h
  unfold d3B
  cases hb:eq p.2.1 with
  | true=>rw [hb] at h; cases h
  | false =>
   rw [hb] at h
   have:i1A eq es=none:=by
    cases hj:i1A eq es with
    | none=>rfl
    | some j=>rw [hj] at h; cases h
   show p::d3B eq es=p::es
   rw [b5A.kept eq this]
theorem b5A.stamp {kt vt:Bool×Ty} {n:Int} {x:den vt.2} {u:Value} (hu:d7A E vt x u):∀ {es:List (Nat×(den kt.2×den vt.2))} {ms:List MapEntry},b5A E kt vt es ms→hasB n es=true →
  ∃ i,ms.findIdx? (fun e=>(e.born:Int)==n)=some i∧b5A E kt vt (z0B n x es) (ms.modify i fun e=>{ e with val:=u })
 | [],_,_,hb=>by cases hb
 | p::es,_,h,hb=>by
  obtain ⟨e,r,rfl,h1,h2,h3,h4⟩:=h
  unfold hasB at hb
  unfold z0B
  rw [List.findIdx?_cons,h1]
  cases hc:(((p.1:Nat):Int)==n) with
  | true=>exact ⟨0,rfl,⟨{ e with val:=u },r,rfl,h1,h2,hu,h4⟩⟩
  | false =>
   rw [hc,Bool.false_or] at hb
   obtain ⟨i,hi,hM⟩:=b5A.stamp hu h4 hb
   refine ⟨i+1,by rw [hi]; rfl,?_⟩
   rw [List.modify_succ_cons]
   exact ⟨e,_,rfl,h1,h2,h3,hM⟩
theorem c1C {id:Nat} {objs:Objs} {kt vt:Bool×Ty} {es:List (Nat×(den kt.2×den vt.2))} {ck:Nat} {vm:Value} (hm:a4A E keep objs) (hl:a1A id objs=some (.mp kt vt es ck)) (hx:a3A E (.mapr id) vm) :
  ∃ b ms,(E.M id).blk=some b∧vm=.map (some b)∧b<E.w.heap.size∧E.w.heap[b]? = some (.map ms ck)∧(getObj b).run P E.w=.ok (.map ms ck) E.w∧b5A E kt vt es ms.toList:=by
 obtain ⟨_,b,hb,rfl⟩:=e6D hx
 obtain ⟨_,b',ms,h1,h2,h3⟩:=hm.rep _ _ hl
 rw [hb] at h1; cases h1
 exact ⟨b,ms,hb,rfl,j8A (hm.rep _ _ hl).2 hb,h2,by simp [getObj,Sem.run,h2],h3⟩
theorem h7B {id b:Nat} {objs:Objs} {oc oc':OC} {o:Obj} {o0:Obj} (hm:a4A E keep objs) (hl:a1A id objs=some oc) (hb:(E.M id).blk=some b) (h0:E.w.heap[b]? = some o0) (hs:(setObj b o).run P E.w=.ok () { E.w with heap:=E.w.heap.setIfInBounds b o })
  (hr:∀ E':Env,Later keep E E'→E'.w.heap[b]? = some o→(E'.M id).blk=some b→c5A E' (E'.M id) oc') :
  ∃ E',(setObj b o).run P E.w=.ok () E'.w∧Later keep E E'∧a4A E' keep (a9A id oc' objs)∧E'.N=E.N∧E'.M=E.M:=by
 have hbl:b<E.w.heap.size:=by
  rcases Dh b E.w.heap.size with h | h
  ·exact h
  ·rw [Eg h] at h0; cases h0
 obtain ⟨w',hw'⟩:∃ w',({ E.w with heap:=E.w.heap.setIfInBounds b o }:World)=w':=⟨_,rfl⟩
 have hset:(setObj b o).run P E.w=.ok () w':=by rw [hs,hw']
 have hS:w'.heap.size=E.w.heap.size:=by rw [←hw']; simp
 have hO:∀ k,k≠b→w'.heap[k]? = E.w.heap[k]? := fun k hk=>by rw [←hw']; simp [Ne.symm hk]
 have hQ:e1A E.w w':=by rw [←hw']; exact ⟨rfl,rfl⟩
 have hsep:=hm.sep _ _ _ hl hb
 have hnew:w'.heap[b]? = some o:=by rw [←hw']; simp [hbl]
 have hL:=a8B (keep:=keep) hQ hS hO hsep.1 hsep.2
 exact ⟨E.at w',hset,hL,a9B hQ hS hO hm hl hb (hr (E.at w') hL hnew hb),rfl,rfl⟩
theorem u5D {t:Bool×Ty} {a:AV} {v:Value} {x:den t.2} {objs objs':Objs} (hp:t.2.pure=true) (hm:a4A E keep objs) (h:j0C t a objs=some (x,objs')) (hv:a3A E a v) :
  ∃ E',g7A keep E E'∧a4A E' keep objs'∧d7A E' t x v∧∀ j oc,a1A j objs'=some oc→a1A j objs=some oc:=by
 unfold j0C at h
 rcases c2A h with ⟨hf,h⟩ | ⟨_,h⟩
 ·have h0:=h
  unfold j6A at h
  split at h
  ·rename_i cs hcs
   split at h
   ·rename_i y objs1 hto
    cases h
    have hc:=y6A hv hcs
    obtain ⟨E',u,r,g,m,e,t1,c1,_,s1⟩:=v1A t.2 hp hc hm hto
    rw [show r=[] from c1,Bc] at e
    refine ⟨E',g,m,⟨u,t1,?_⟩,s1⟩
    obtain ⟨ag,ty⟩:=t
    cases ag with
    | true =>
     rw [Aj rfl]
     cases a <;> first
      | (cases hf; done)
      | skip
     obtain ⟨us,rfl,_⟩:=hv
     rw [←e]; simp [Value.cells]
    | false =>
     rw [Ae Fc,←e]
     have hcell:i6A a=true:=by
      cases a <;> first
       | rfl
       | (cases hf; done)
       | (cases hcs; done)
     have h1:=a6A.one (m9C hv hcell) v (by simp)
     rw [d9D h1]
   ·cases h
  ·cases h
 ·cases h
include hT
theorem u6D {S:St} {t:TypeId} {m k x r:AV} {vm vk vx:Value} {objs:Objs} (hm:a4A E keep S.objs) (h:(j5C T S t m k x).gives r objs) (hxm:a3A E m vm) (hxk:a3A E k vk) (hxv:a3A E x vx) :
  ∃ E',(Instr.mapUpdate t vm vk vx).run P E.w=.ok () E'.w∧Later keep E E'∧a4A E' keep objs∧r=.tup []∧E'.N=E.N:=by
 unfold j5C at h
 split at h
 ·rename_i id
  split at h
  ·rename_i kt vt es ck hl
   cases hc:u1A T t kt vt with
   | false=>rw [hc] at h; exact h.elim
   | true =>
    rw [hc] at h
    obtain ⟨K,e,hu,hK,hp,_,z,hz,hzr⟩:=b5C hT hc
    simp only [Al] at h
    split at h
    ·rename_i key hkey
     split at h
     ·rename_i y objs1 hval
      split at h
      ·rename_i oc1 hl1
       obtain ⟨rfl,rfl⟩:=h
       have hkr:=n5C hK.ty hkey hxk
       obtain ⟨E1,g,m1,hvr,s1⟩:=u5D hp hm hval hxv
       have hl1':=s1 _ _ hl1
       rw [hl] at hl1'; cases hl1'
       obtain ⟨b,ms,hb,rfl,hbl,hg0,hg,hM⟩:=c1C (P:=P) m1 hl1 (a3A.later g.later hxm)
       rw [g.w] at hg hg0
       have hf:=n4C hT (w:=E.w) hK (d7A.later g.later hkr) hM
       have hck:=n3C hT (w:=E.w) hK hkr false
       cases hi:i1A (f0A kt.2 key) es with
       | none =>
        rw [hi] at hf
        have hn:(l8A (f0A kt.2 key) es).isSome=false:=by rw [(b5A.miss hi).1]; rfl
        obtain ⟨E2,h1,h2,h3,h4,_⟩:=h7B (P:=P) (o:=.map (ms.push { key:=vk,val:=vx,born:=ck }) (ck+1)) (oc':=.mp kt vt (z1B (f0A kt.2 key) key y ck es) (ckE (f0A kt.2 key) ck es)) m1 hl1 hb (by rw [g.w]; exact hg0) (by rw [g.w]; simp [setObj,Sem.run,hg0])
         (fun E' hL hh hbk=>⟨b,_,hbk,by unfold ckE; rw [hn]; exact hh,by
          unfold z1B; rw [hn,Array.toList_push]
          exact b5A.snoc rfl (d7A.later hL (d7A.later g.later hkr)) (d7A.later hL hvr) (b5A.later hL hM)⟩)
        refine ⟨E2,?_,g.later.trans h2,h3,rfl,by rw [h4,g.N]⟩
        simp only [Instr.mapUpdate,Sem.run_bind,c3A hu,Result.andThen_ok,hg,hck,hf,oB]
        rw [g.w] at h1; exact h1
       | some i =>
        rw [hi] at hf
        have hn:(l8A (f0A kt.2 key) es).isSome=true:=by rw [←d0D,hi]; rfl
        obtain ⟨e',p,g1,g2,_,_,g5,g6,g7⟩:=hM.at (f0A kt.2 key) hi
        have hke:e'.key=vk:=by
         have:=(r8D hK.ty _ _).1 g5
         rw [←this] at g6
         exact d7A.uniq hK.ty g6 (d7A.later g.later hkr)
        obtain ⟨E2,h1,h2,h3,h4,_⟩:=h7B (P:=P) (o:=.map (ms.modify i fun e=>{ e with key:=vk,val:=vx }) ck) (oc':=.mp kt vt (z1B (f0A kt.2 key) key y ck es) (ckE (f0A kt.2 key) ck es)) m1 hl1 hb (by rw [g.w]; exact hg0) (by rw [g.w]; simp [setObj,Sem.run,hg0])
         (fun E' hL hh hbk=>⟨b,_,hbk,by unfold ckE; rw [hn]; exact hh,by
          unfold z1B; rw [hn,Array.toList_modify]
          exact b5A.put (f:=fun e=>{ e with key:=vk,val:=vx }) _ (fun e=>⟨rfl,d7A.later hL hvr⟩) (b5A.later hL hM) hi (fun e he=>by rw [g1] at he; cases he; exact hke.symm)⟩)
        refine ⟨E2,?_,g.later.trans h2,h3,rfl,by rw [h4,g.N]⟩
        have hks:(Instr.keyThatStays vk vk).run P E.w=.ok vk E.w:=s0D hK.ty hkr
        have hgi:((ms[i]?).map (·.key)).getD vk=vk:=by
         rw [←Dr,g1]; exact hke
        simp only [Instr.mapUpdate,Sem.run_bind,c3A hu,Result.andThen_ok,hg,hck,hf,oB,oM,g1,hgi,hks]
        rw [g.w] at h1; exact h1
      ·exact h.elim
     ·exact h.elim
    ·exact h.elim
  ·exact a0F hT hm h hxm hxk hxv
 ·exact h.elim
theorem a3F {S:St} {t:TypeId} {m k r:AV} {vm vk:Value} {objs:Objs} (hm:a4A E keep S.objs) (h:(a2D T S t m k).gives r objs) (hxm:a3A E m vm) (hxk:a3A E k vk) :
  ∃ x E',(Instr.mapEntry t vm vk).run P E.w=.ok x E'.w∧Later keep E E'∧a4A E' keep objs∧a3A E' r x∧E'.N=E.N:=by
 unfold a2D at h
 split at h
 ·rename_i id
  split at h
  ·rename_i kt vt es ck hl
   cases hc:u1A T t kt vt with
   | false=>rw [hc] at h; exact h.elim
   | true =>
    rw [hc] at h
    obtain ⟨K,e,hu,hK,hp,hs,z,hz,hzr⟩:=b5C hT hc
    simp only [Al] at h
    split at h
    ·rename_i key hkey
     obtain ⟨rfl,rfl⟩:=h
     have hkr:=n5C hK.ty hkey hxk
     obtain ⟨b,ms,hb,rfl,hbl,hg0,hg,hM⟩:=c1C (P:=P) hm hl hxm
     have hf:=n4C hT (w:=E.w) hK hkr hM
     have hck:=n3C hT (w:=E.w) hK hkr false
     cases hi:i1A (f0A kt.2 key) es with
     | none =>
      rw [hi] at hf
      have hn:=b5A.miss hi
      obtain ⟨E2,h1,h2,h3,h4,_⟩:=h7B (P:=P) (o:=.map (ms.push { key:=vk,val:=z,born:=ck }) (ck+1)) (oc':=.mp kt vt (z2B (f0A kt.2 key) key (c4A vt.2) ck es) (ckE (f0A kt.2 key) ck es)) hm hl hb hg0 (by simp [setObj,Sem.run,hg0])
       (fun E' hL hh hbk=>⟨b,_,hbk,by unfold ckE; rw [hn.1]; exact hh,by
        unfold z2B; rw [hn.1,Array.toList_push]
        exact b5A.snoc rfl (d7A.later hL hkr) (hzr E') (b5A.later hL hM)⟩)
      refine ⟨_,E2,?_,h2,h3,⟨[z,.int .i64 ck],rfl,_,_,rfl,?_,_,_,rfl,?_,rfl⟩,h4⟩
      ·simp only [Instr.mapEntry,Sem.run_bind,c3A hu,Result.andThen_ok,hg,hck,hf,oB,hz,h1]
       rfl
      ·rw [hn.1]; exact n7B hp hs (hzr E2)
      ·rw [hn.2]; rfl
     | some i =>
      rw [hi] at hf
      have hn:(l8A (f0A kt.2 key) es).isSome=true:=by rw [←d0D,hi]; rfl
      obtain ⟨e',p,g1,g2,_,g4,g5,g6,g7⟩:=hM.at (f0A kt.2 key) hi
      have hke:e'.key=vk:=by
       have:=(r8D hK.ty _ _).1 g5
       rw [←this] at g6
       exact d7A.uniq hK.ty g6 hkr
      have hsame:(ms.modify i fun e=>{ e with key:=vk }).toList=ms.toList:=by
       rw [Array.toList_modify]
       apply List.ext_getElem?
       intro j
       rw [List.getElem?_modify]
       by_cases hj:i=j
       ·subst hj
        rw [g1,←hke]
        simp
       ·simp [hj]
      obtain ⟨E2,h1,h2,h3,h4,_⟩:=h7B (P:=P) (o:=.map (ms.modify i fun e=>{ e with key:=vk }) ck) (oc':=.mp kt vt (z2B (f0A kt.2 key) key (c4A vt.2) ck es) (ckE (f0A kt.2 key) ck es)) hm hl hb hg0 (by simp [setObj,Sem.run,hg0])
       (fun E' hL hh hbk=>⟨b,_,hbk,by unfold ckE; rw [hn]; exact hh,by
        unfold z2B; rw [hn,hsame]
        exact b5A.later hL hM⟩)
      have hks:(Instr.keyThatStays vk vk).run P E.w=.ok vk E.w:=s0D hK.ty hkr
      have hgi:((ms[i]?).map (·.key)).getD vk=vk:=by
       rw [←Dr,g1]; exact hke
      have hgb:((ms[i]?).map (fun x=>((x.born:Nat):Int))).getD 0=(e'.born:Int):=by
       rw [←Dr,g1]; rfl
      refine ⟨_,E2,?_,h2,h3,⟨[e'.val,.int .i64 e'.born],rfl,_,_,rfl,?_,_,_,rfl,?_,rfl⟩,h4⟩
      ·simp only [Instr.mapEntry,Sem.run_bind,c3A hu,Result.andThen_ok,hg,hck,hf,oB,oM,g1,hgi,hks,h1,hgb]
       rfl
      ·rw [g2]; exact n7B hp hs (d7A.later h2 g7)
      ·rw [g4]; rfl
    ·exact h.elim
  ·exact h.elim
 ·exact h.elim
theorem a4F {S:St} {t:TypeId} {m s x r:AV} {vm vs vx:Value} {objs:Objs} (hm:a4A E keep S.objs) (h:(a3D T S t m s x).gives r objs) (hxm:a3A E m vm) (hxs:a3A E s vs) (hxv:a3A E x vx) :
  ∃ E',(Instr.entryStore t vm vs vx).run P E.w=.ok () E'.w∧Later keep E E'∧a4A E' keep objs∧r=.tup []∧E'.N=E.N:=by
 unfold a3D at h
 split at h
 ·rename_i id n
  have hxs:vs=.int .i64 n:=by simpa [a3A,d6A,a6A] using hxs
  subst hxs
  split at h
  ·rename_i kt vt es ck hl
   cases hc:u1A T t kt vt with
   | false=>rw [hc] at h; exact h.elim
   | true =>
    rw [hc] at h
    obtain ⟨K,e,hu,hK,hp,_,z,hz,hzr⟩:=b5C hT hc
    simp only [Al] at h
    split at h
    ·rename_i y objs1 hval
     split at h
     ·rename_i oc1 hl1
      obtain ⟨hhas,rfl,rfl⟩:=h
      obtain ⟨E1,g,m1,hvr,s1⟩:=u5D hp hm hval hxv
      have hl1':=s1 _ _ hl1
      rw [hl] at hl1'; cases hl1'
      obtain ⟨b,ms,hb,rfl,hbl,hg0,hg,hM⟩:=c1C (P:=P) m1 hl1 (a3A.later g.later hxm)
      rw [g.w] at hg hg0
      obtain ⟨i,hi,hM2⟩:=b5A.stamp hvr hM hhas
      obtain ⟨E2,h1,h2,h3,h4,_⟩:=h7B (P:=P) (o:=.map (ms.modify i fun e=>{ e with val:=vx }) ck) (oc':=.mp kt vt (z0B n y es) ck) m1 hl1 hb (by rw [g.w]; exact hg0) (by rw [g.w]; simp [setObj,Sem.run,hg0])
       (fun E' hL hh hbk=>⟨b,_,hbk,hh,by rw [Array.toList_modify]; exact b5A.later hL hM2⟩)
      refine ⟨E2,?_,g.later.trans h2,h3,rfl,by rw [h4,g.N]⟩
      rw [←List.findIdx?_toArray,Array.toArray_toList] at hi
      have has:(asInt (.int .i64 n)).run P E.w=.ok n E.w:=by simp [asInt,asIntOf]
      simp only [Instr.entryStore,Sem.run_bind,Result.andThen_ok,hg,has,hi,Sem.run_pure]
      rw [g.w] at h1; exact h1
     ·exact h.elim
    ·exact h.elim
  ·exact h.elim
 ·exact h.elim
theorem a5F {S:St} {t tt:TypeId} {ats:Array TypeId} {m k r:AV} {vm vk:Value} {objs:Objs} (hat:ats[0]? = some t) (hm:a4A E keep S.objs) (h:(a4D T S t m k).gives r objs) (hxm:a3A E m vm) (hxk:a3A E k vk) :
  ∃ E',(Builtin.delete_ ats tt #[vm,vk]).run P E.w=.ok (.tuple #[]) E'.w∧Later keep E E'∧a4A E' keep objs∧a3A E' r (.tuple #[])∧E'.N=E.N:=by
 unfold a4D at h
 split at h
 ·rename_i id
  split at h
  ·rename_i kt vt es ck hl
   cases hc:u1A T t kt vt with
   | false=>rw [hc] at h; exact h.elim
   | true =>
    rw [hc] at h
    obtain ⟨K,e,hu,hK,hp,hs,z,hz,hzr⟩:=b5C hT hc
    simp only [Al] at h
    split at h
    ·rename_i key hkey
     obtain ⟨rfl,rfl⟩:=h
     have hkr:=n5C hK.ty hkey hxk
     obtain ⟨b,ms,hb,rfl,hbl,hg0,hg,hM⟩:=c1C (P:=P) hm hl hxm
     have hf:=n4C hT (w:=E.w) hK hkr hM
     have hck:=n3C hT (w:=E.w) hK hkr ms.isEmpty
     cases hi:i1A (f0A kt.2 key) es with
     | none =>
      rw [hi] at hf
      obtain ⟨E2,h1,h2,h3,h4,_⟩:=h7B (P:=P) (o:=.map ms ck) (oc':=.mp kt vt (d3B (f0A kt.2 key) es) ck) hm hl hb hg0 (by simp [setObj,Sem.run,hg0])
       (fun E' hL hh hbk=>⟨b,_,hbk,hh,by rw [b5A.kept _ hi]; exact b5A.later hL hM⟩)
      refine ⟨E2,?_,h2,h3,⟨[],rfl,rfl⟩,h4⟩
      simp [Builtin.delete_,Sem.run_bind,hat,c3A hu,hg,hck,hf,oB,h1]
     | some i =>
      rw [hi] at hf
      obtain ⟨e',p,g1,_⟩:=hM.at (f0A kt.2 key) hi
      have hlt:i<ms.size:=by
       rcases Dh i ms.toList.length with h' | h'
       ·simpa using h'
       ·rw [Bq h'] at g1; cases g1
      obtain ⟨E2,h1,h2,h3,h4,_⟩:=h7B (P:=P) (o:=.map (ms.eraseIdxIfInBounds i) ck) (oc':=.mp kt vt (d3B (f0A kt.2 key) es) ck) hm hl hb hg0 (by simp [setObj,Sem.run,hg0])
       (fun E' hL hh hbk=>⟨b,_,hbk,hh,by
        have:(ms.eraseIdxIfInBounds i).toList=ms.toList.eraseIdx i:=by
         unfold Array.eraseIdxIfInBounds
         rw [dif_pos hlt,Array.toList_eraseIdx]
        rw [this]
        exact b5A.del _ (b5A.later hL hM) hi⟩)
      refine ⟨E2,?_,h2,h3,⟨[],rfl,rfl⟩,h4⟩
      simp [Builtin.delete_,Sem.run_bind,hat,c3A hu,hg,hck,hf,oB,oM,g1,h1]
    ·exact h.elim
  ·exact h.elim
 ·exact h.elim
omit hT
theorem a6F {S:St} {t:TypeId} {kt vt:Bool×Ty} {objs:Objs} (hm:a4A E keep S.objs) (h:objs=a9A E.N (.mp kt vt [] 0) S.objs) :
  ∃ x E',(Instr.makeMap t none).run P E.w=.ok x E'.w∧Later keep E E'∧a4A E' keep objs∧a3A E' (.mapr E.N) x∧E'.N=E.N+1:=by
 subst h
 have hrun:(Instr.makeMap t none).run P E.w=.ok (.map (some E.w.heap.size)) (E.w.alloc (.map #[] 0)):=by simp [Instr.makeMap]
 refine ⟨_,E.new (E.w.alloc (.map #[] 0)) ⟨some E.w.heap.size,0,0,0,0⟩,hrun,a7B (o:=.map #[] 0) rfl ⟨rfl,rfl⟩ hm,?_,?_,rfl⟩
 ·exact d6B (w:=E.w.alloc (.map #[] 0)) (o:=.map #[] 0) (m:=⟨some E.w.heap.size,0,0,0,0⟩) (oc:=.mp kt vt [] 0) rfl ⟨rfl,rfl⟩ hm (fun b h=>(Bp h).symm) ⟨E.w.heap.size,#[],rfl,by show (E.w.heap.push (Obj.map #[] 0))[E.w.heap.size]? = _; exact Array.getElem?_push_size,rfl⟩
 ·exact ⟨Cg _,E.w.heap.size,by simp [Env.new],rfl⟩
include hT
theorem a7F {S:St} {t:TypeId} {x r:AV} {vx:Value} {objs:Objs} (hm:a4A E keep S.objs) (h:(z6B T S E.N t x).gives r objs) (hx:a3A E x vx) :
  ∃ z E',(Instr.range t vx).run P E.w=.ok z E'.w∧Later keep E E'∧a4A E' keep objs∧a3A E' r z∧E'.N=E.N+1:=by
 have h0:=h
 unfold z6B at h
 split at h
 ·exact z8E hT hm h0 hx ⟨_,rfl⟩
 ·rename_i K e m htd
  split at h
  ·rename_i kt vt es ck hl
   obtain ⟨rfl,rfl⟩:=h
   obtain ⟨d,hu,rfl⟩:=f7A hT htd
   obtain ⟨b,ms,hb,rfl,hbl,hg0,hg,hM⟩:=c1C (P:=P) hm hl hx
   have hrun:(Instr.range t (.map (some b))).run P E.w=.ok (.pointer (some ⟨E.w.heap.size,0,none⟩)) (E.w.alloc (.mapIter (some b) ck #[] ck)):=by
    simp [Instr.range,c3A hu,hg]
   have hmN:m<E.N:=(hm.rep _ _ hl).1
   refine ⟨_,E.new (E.w.alloc (.mapIter (some b) ck #[] ck)) ⟨some E.w.heap.size,0,0,0,0⟩,hrun,a7B (o:=.mapIter (some b) ck #[] ck) rfl ⟨rfl,rfl⟩ hm,?_,?_,rfl⟩
   ·exact d6B (w:=E.w.alloc (.mapIter (some b) ck #[] ck)) (o:=.mapIter (some b) ck #[] ck) (m:=⟨some E.w.heap.size,0,0,0,0⟩) (oc:=.mit m ck [] ck) rfl ⟨rfl,rfl⟩ hm (fun b h=>(Bp h).symm)
     ⟨E.w.heap.size,b,rfl,Eh hmN,by simp only [Env.new,Ae (El hmN)]; exact hb,by show (E.w.heap.push (Obj.mapIter (some b) ck #[] ck))[E.w.heap.size]? = _; exact Array.getElem?_push_size⟩
   ·exact ⟨Cg _,E.w.heap.size,by simp [Env.new],rfl⟩
  ·exact h.elim
 ·exact h.elim
end
end Go.Rx
namespace Go.Rx
variable [Inhabited GW]
section
variable {P:Program} {T:Tab} {keep:Nat→Prop} {E:Env}
theorem b5A.filter {kt vt:Bool×Ty} (f:Nat→Bool):∀ {es:List (Nat×(den kt.2×den vt.2))} {ms:List MapEntry},b5A E kt vt es ms→b5A E kt vt (es.filter fun p=>f p.1) (ms.filter fun e=>f e.born)
 | [],ms,h=>by rw [show ms=[] from h]; rfl
 | p::es,ms,h=>by
  obtain ⟨e,r,rfl,h1,h2,h3,h4⟩:=h
  rw [List.filter_cons,List.filter_cons,h1]
  cases f p.1 with
  | true=>exact ⟨e,_,rfl,h1,h2,h3,h4.filter f⟩
  | false=>exact h4.filter f
theorem b5A.app {kt vt:Bool×Ty} {es':List (Nat×(den kt.2×den vt.2))} {ms':List MapEntry} (h':b5A E kt vt es' ms'):∀ {es:List (Nat×(den kt.2×den vt.2))} {ms:List MapEntry},b5A E kt vt es ms→b5A E kt vt (es++es') (ms++ms')
 | [],ms,h=>by rw [show ms=[] from h]; exact h'
 | p::es,ms,h=>by
  obtain ⟨e,r,rfl,h1,h2,h3,h4⟩:=h
  exact ⟨e,r++ms',rfl,h1,h2,h3,b5A.app h' h4⟩
theorem b5A.get {kt vt:Bool×Ty}:∀ {es:List (Nat×(den kt.2×den vt.2))} {ms:List MapEntry} {i:Nat} {e:MapEntry},b5A E kt vt es ms→ms[i]? = some e →
  ∃ p,es[i]? = some p∧e.born=p.1∧d7A E kt p.2.1 e.key∧d7A E vt p.2.2 e.val
 | [],ms,i,e,h,hi=>by rw [show ms=[] from h] at hi; cases hi
 | p::es,ms,i,e,h,hi=>by
  obtain ⟨e',r,rfl,h1,h2,h3,h4⟩:=h
  cases i with
  | zero=>cases hi; exact ⟨p,rfl,h1,h2,h3⟩
  | succ i=>exact h4.get (i:=i) (by simpa using hi)
theorem b5A.all {kt vt:Bool×Ty} (f:Nat→Bool):∀ {es:List (Nat×(den kt.2×den vt.2))} {ms:List MapEntry},b5A E kt vt es ms→ms.all (fun e=>f e.born)=es.all fun p=>f p.1
 | [],ms,h=>by rw [show ms=[] from h]; rfl
 | p::es,ms,h=>by
  obtain ⟨e,r,rfl,h1,h2,h3,h4⟩:=h
  rw [List.all_cons,List.all_cons,h1,h4.all f]
theorem b5A.empty {kt vt:Bool×Ty}:∀ {es:List (Nat×(den kt.2×den vt.2))} {ms:List MapEntry},b5A E kt vt es ms→ms.isEmpty=es.isEmpty
 | [],ms,h=>by rw [show ms=[] from h]; rfl
 | p::es,ms,h=>by obtain ⟨e,r,rfl,_⟩:=h; rfl
theorem a8F {w:World} {objs:Objs} (hh:w.heap=E.w.heap) (hq:e1A E.w w) (hm:a4A E keep objs):Later keep E (E.at w)∧a4A (E.at w) keep objs:=by
 have hL:Later keep E (E.at w):=⟨fun _ h=>h,fun _ h=>.inl h,fun _ _=>rfl,Ay _,by simp [Env.at,hh],fun _ _=>by simp [Env.at,hh],fun _ _=>by simp [Env.at,hh],hq⟩
 exact ⟨hL,fun id oc h=>⟨(hm.rep id oc h).1,c5A.later hL (fun b _=>by simp [Env.at,hh]) (hm.rep id oc h).2⟩,hm.sep,hm.inj,fun b hb=>by simp only [Env.at,hh]; exact hm.rob b hb,fun b hb=>by simp only [Env.at,hh]; exact hm.kb b hb,hm.gl.later hL⟩
theorem a9F (n:Nat) (hn:0<n) (w:World):∃ i w',i<n∧(choose (.mapNext n)).run P w=.ok i w'∧w'.heap=w.heap∧e1A w w':=by
 rw [run_choose_drew]
 split
 ·exact ⟨0,w,hn,rfl,rfl,e1A.refl _⟩
 ·exact ⟨_,_,Nat.mod_lt _ hn,rfl,rfl,⟨rfl,rfl⟩⟩
def u7D (P:Program) (keep:Nat→Prop) (o:Oper) (S:St) (a:Act) (E:Env) (G:Gv→Prop):Prop:=
 ∃ g x E',G g∧(execOp a.eval o).run P E.w=.ok (.value x) E'.w∧Later keep E E'∧a4A E' keep (a9A g.id g.oc S.objs)∧a3A E' g.v x∧E'.N=E.N
def b0F {k v:Bool×Ty} (q:m8B k v) (g:Gv):Prop:=∃ ch∈x9A q.es q.since q.seen q.last,g=match ch with
 | none=>gvN q
 | some e=>gvS q e
theorem b1F:∀ {c:Code} {q:Oper×Nat},n0B c=some q→q.1.op=.next (.tmp q.2) false∧q.1.guard=none:=by
 intro c
 induction c with
 | seq x y ihx _=>intro q h; exact ihx h
 | region id ops draw =>
  intro q h
  cases draw with
  | true=>cases h
  | false =>
   unfold n0B at h
   split at h
   ·split at h
    ·rename_i o _ _ t h1 h2
     cases h
     exact ⟨h1,h2⟩
    ·cases h
   ·cases h
 | _=>intro q h; cases h
theorem b2F {S:St} {a:Act} {k v:Bool×Ty} {q:Oper×Nat} {m:m8B k v} (hs:e0A E S.tmps a.tmps) (hm:a4A E keep S.objs) (ho:q.1.op=.next (.tmp q.2) false) (hmit:m9B S (b1A S.tmps q.2) k v=some m)
  (hne:x9A m.es m.since m.seen m.last≠[]):u7D P keep q.1 S a E (b0F m):=by
 have hev:=b6A hs (.tmp q.2)
 unfold m9B at hmit
 split at hmit
 ·rename_i id off hx
  split at hmit
  ·rename_i mid since seen last hl
   split at hmit
   ·rename_i k' v' es ck hl2
    rcases c2A hmit with ⟨hc,hmit⟩ | ⟨_,hmit⟩
    ·obtain ⟨es',hes,rfl⟩:=b4A hmit
     unfold mpC at hes
     split at hes
     ·rename_i hkv
      obtain ⟨rfl,rfl⟩:=hkv
      cases hes
      simp only [Ac,b1D] at hc
      obtain ⟨hoff,⟨hk1,hk2⟩,hv1,hv2⟩:=hc
      have hoff:=Ag hoff
      subst hoff
      have hev:a3A E (.ptr id 0) (a.eval (.tmp q.2)):=by
       have:ev S (.tmp q.2)=.ptr id 0:=hx
       rw [this] at hev; exact hev
      obtain ⟨_,b,hb,hval⟩:=h4B hev
      obtain ⟨_,b',mb,h1,h2,h3,h4⟩:=hm.rep _ _ hl
      rw [hb] at h1; cases h1
      obtain ⟨_,mb',ms,h5,h6,h7⟩:=hm.rep _ _ hl2
      rw [h3] at h5; cases h5
      have hgi:(getObj b).run P E.w=.ok (.mapIter (some mb) since seen.toArray last) E.w:=by simp [getObj,Sem.run,h4]
      have hgm:(getObj mb).run P E.w=.ok (.map ms ck) E.w:=by simp [getObj,Sem.run,h6]
      have hcond:(!seen.toArray.isEmpty&&!ms.isEmpty&&ms.all (fun e=>decide (e.born≥last)))=(!seen.isEmpty&&(!es.isEmpty&&es.all fun e=>decide (last≤e.1))):=by
       rw [←Array.all_toList,←Array.isEmpty_toList,←Array.isEmpty_toList,h7.empty,Eo]
       congr 2
       exact h7.all fun n=>decide (last≤n)
      have hcond2:(!seen.isEmpty&&(!es.isEmpty&&es.all fun e=>decide (last≤e.1)))=false:=by
       cases hq:(!seen.isEmpty&&(!es.isEmpty&&es.all fun e=>decide (last≤e.1))) with
       | false=>rfl
       | true =>
        exfalso
        apply hne
        unfold x9A
        rw [hq]; rfl
      have hleft:=h7.filter fun n=>!seen.contains n
      have hold:=hleft.filter fun n=>decide (n<since)
      have hnew:=hleft.filter fun n=>decide (since≤n)
      obtain ⟨ca,hca⟩:∃ ca:Array (Option MapEntry),ca=(if ((ms.filter fun e=>!seen.toArray.contains e.born).filter fun e=>decide (e.born<since)).isEmpty=true then #[none] else #[]) ++
        (((ms.filter fun e=>!seen.toArray.contains e.born).filter fun e=>decide (e.born<since))++((ms.filter fun e=>!seen.toArray.contains e.born).filter fun e=>decide (e.born≥since))).map some:=⟨_,rfl⟩
      have hcl:ca.toList=(if ((ms.toList.filter fun e=>!seen.contains e.born).filter fun e=>decide (e.born<since)).isEmpty=true then [none] else []) ++
        (((ms.toList.filter fun e=>!seen.contains e.born).filter fun e=>decide (e.born<since))++((ms.toList.filter fun e=>!seen.contains e.born).filter fun e=>decide (since≤e.born))).map some:=by
       rw [hca]
       simp only [Array.toList_append,Array.toList_map,Array.toList_filter,←Array.isEmpty_toList,List.contains_toArray,ge_iff_le]
       congr 1
       split <;> rfl
      have hrel:∀ (i:Nat) (c:Option MapEntry),ca.toList[i]? = some c→∃ ch,(x9A es since seen last)[i]? = some ch∧match ch,c with
        | none,none=>True
        | some p,some e=>e.born=p.1∧d7A E k' p.2.1 e.key∧d7A E v' p.2.2 e.val
        | _,_=>False:=by
       intro i c hi
       rw [hcl] at hi
       unfold x9A
       rw [hcond2]
       simp only [Ai]
       rw [hold.empty] at hi
       have tail:∀ (j:Nat),((((ms.toList.filter fun e=>!seen.contains e.born).filter fun e=>decide (e.born<since))++((ms.toList.filter fun e=>!seen.contains e.born).filter fun e=>decide (since≤e.born))).map some)[j]? = some c →
         ∃ p e,((((es.filter fun e=>!seen.contains e.1).filter fun e=>decide (e.1<since))++((es.filter fun e=>!seen.contains e.1).filter fun e=>decide (since≤e.1))).map some)[j]? = some (some p)∧c=some e∧e.born=p.1∧d7A E k' p.2.1 e.key∧d7A E v' p.2.2 e.val:=by
        intro j hj
        rw [List.getElem?_map,Option.map_eq_some_iff] at hj
        obtain ⟨e,he,rfl⟩:=hj
        obtain ⟨p,hp,r1,r2,r3⟩:=(b5A.app hnew hold).get he
        exact ⟨p,e,by rw [List.getElem?_map,hp]; rfl,rfl,r1,r2,r3⟩
       cases hem:(((es.filter fun e=>!seen.contains e.1).filter fun e=>decide (e.1<since)).isEmpty) with
       | true =>
        rw [hem] at hi
        simp only [Ep,Al] at hi ⊢
        cases i with
        | zero =>
         have hi:c=none:=by simpa using hi.symm
         subst hi
         exact ⟨none,rfl,trivial⟩
        | succ i =>
         obtain ⟨p,e,r1,rfl,r2⟩:=tail i (by simpa using hi)
         exact ⟨some p,by simpa using r1,r2⟩
       | false =>
        rw [hem] at hi
        simp only [Cf,Fb,Ai,Cv] at hi ⊢
        obtain ⟨p,e,r1,rfl,r2⟩:=tail i hi
        exact ⟨some p,r1,r2⟩
      have hlen:ca.toList.length=(x9A es since seen last).length:=by
       rw [hcl]
       unfold x9A
       rw [hcond2,hold.empty]
       simp only [Ai,Ak,List.length_map,hold.length,hnew.length]
       cases (((es.filter fun e=>!seen.contains e.1).filter fun e=>decide (e.1<since)).isEmpty) <;> rfl
      have hpos:0<ca.size:=by
       rw [←An,hlen]
       exact List.length_pos_iff.2 hne
      obtain ⟨i,w1,hi,hch,hheap,hq⟩:=a9F (P:=P) ca.size hpos E.w
      obtain ⟨hL1,hM1⟩:=a8F (keep:=keep) hheap hq hm
      have hget:ca.toList[i]? = some (ca.toList[i]'(by simpa using hi)):=Aq _
      obtain ⟨ch,hch1,hch2⟩:=hrel i _ hget
      have hmem:ch∈x9A es since seen last:=List.mem_of_getElem? hch1
      generalize hcv:(ca.toList[i]'(by simpa using hi))=cv at hget hch2
      rw [Dr] at hget
      have hrun0:∀ (ty:TypeId),(Instr.next (.pointer (some ⟨b,0,none⟩)) false ty).run P E.w=((match some cv with
        | some (some e)=>do
         setObj b (.mapIter (some mb) since (seen.toArray.push e.born) ck)
         pure (.tuple #[.bool true,e.key,e.val])
        | some none=>pure (.tuple #[.bool false])
        | none => stuck "Next: no such candidate" : Sem Value)).run P w1 := by
       intro ty
       simp only [Instr.next,Sem.run_bind,hgi,Result.andThen_ok,hgm]
       rw [hcond,hcond2]
       simp only [Cf,Fb,Sem.run_bind,Sem.run_pure,Result.andThen_ok]
       rw [←hca,hch]
       simp only [Result.andThen_ok,hget]
       cases cv <;> rfl
      have hexec:∀ (x:Value) (w':World),(Instr.next (.pointer (some ⟨b,0,none⟩)) false q.1.type).run P E.w=.ok x w'→(execOp a.eval q.1).run P E.w=.ok (.value x) w':=by
       intro x w' h
       obtain ⟨⟨dst,op,type,pos,after,guard⟩,t⟩:=q
       have ho:op=.next (.tmp t) false:=ho
       subst ho
       have hval:a.eval (.tmp t)=.pointer (some ⟨b,0,none⟩):=hval
       simp only [execOp,hval]
       exact i2A h
      cases ch with
      | none =>
       cases cv with
       | some e=>exact hch2.elim
       | none =>
        refine ⟨gvN ⟨id,mid,since,seen,last,es,ck⟩,.tuple #[.bool false],E.at w1,⟨none,hmem,rfl⟩,hexec _ _ (by rw [hrun0]; rfl),hL1,?_,⟨[.bool false],rfl,_,_,rfl,rfl,rfl⟩,rfl⟩
        refine t0B hM1 fun j oc hj => ?_
        rw [show (gvN (⟨id,mid,since,seen,last,es,ck⟩:m8B k' v')).id=id from rfl,show (gvN (⟨id,mid,since,seen,last,es,ck⟩:m8B k' v')).oc=.mit mid since seen last from rfl,d4A] at hj
        by_cases e:j=id
        ·rw [Aj e] at hj; rw [e,hl]; exact hj
        ·rw [Ae e] at hj; exact hj
      | some p =>
       cases cv with
       | none=>exact hch2.elim
       | some e =>
        obtain ⟨r1,r2,r3⟩:=hch2
        have h4':(E.at w1).w.heap[b]? = some (.mapIter (some mb) since seen.toArray last):=by show w1.heap[b]? = _; rw [hheap]; exact h4
        obtain ⟨E2,s1,s2,s3,s4,_⟩:=h7B (P:=P) (E:=E.at w1) (o:=.mapIter (some mb) since (seen.toArray.push e.born) ck) (oc':=.mit mid since (seen++[p.1]) ck) hM1 hl hb h4' (by simp [setObj,Sem.run,h4'])
         (fun E' hL hh hbk=>⟨b,mb,hbk,Bi h2 hL.N,by rw [hL.M mid h2]; exact h3,by rw [hh,r1,List.push_toArray]⟩)
        refine ⟨gvS ⟨id,mid,since,seen,last,es,ck⟩ p,.tuple #[.bool true,e.key,e.val],E2,⟨some p,hmem,rfl⟩,hexec _ _ (by
         rw [hrun0]
         simp only [Sem.run_bind]
         have s1:(setObj b (.mapIter (some mb) since (seen.toArray.push e.born) ck)).run P w1=.ok () E2.w:=s1
         rw [s1]; rfl),hL1.trans s2,s3,?_,s4⟩
        exact ⟨[.bool true,e.key,e.val],rfl,_,_,rfl,rfl,_,_,rfl,n7B hk1 hk2 (d7A.later (hL1.trans s2) r2),_,_,rfl,n7B hv1 hv2 (d7A.later (hL1.trans s2) r3),rfl⟩
     ·cases hes
    ·cases hmit
   ·cases hmit
  ·cases hmit
 ·cases hmit
theorem b3F {X R C:Type} {cs:X→List C} {f:C→X→Option (X⊕R)} {x:X} {r:R} (h:b0D cs f x=some r):∃ n,z9B cs f r n x:=by
 unfold b0D at h
 split at h
 ·rename_i hex
  cases h
  exact Ei hex
 ·cases h
end
end Go.Rx
namespace Go.Rx
variable [Inhabited GW]
section
variable {P:Program} {T:Tab} (hT:TabOK P T) {keep:Nat→Prop} {E:Env} {w:World}
theorem o4C {s:Sem Unit} {w':World} (h:s.run P w=.ok () w'):(do s; pure Next.skip:Sem Next).run P w=.ok .skip w':=by
 rw [Sem.run_bind,h]; rfl
theorem b4F {t:TypeId} {i o:Nat} {v:Value} {objs:Objs} (hm:a4A E keep objs) (hr:a3A E (.ptr i o) v) :
  ∃ E',E'.w=E.w.alloc (.cells v.cells t)∧Later keep E E'∧a4A E' keep objs∧a3A E' (.cbox (.ptr i o)) (.pointer (some ⟨E.w.heap.size,0,none⟩))∧E'.N=E.N+1 ∧
   (Instr.box t v).run P E.w=.ok (.pointer (some ⟨E.w.heap.size,0,none⟩)) (E.w.alloc (.cells v.cells t)):=by
 obtain ⟨_,b,_,e⟩:=(show a6A E (.ptr i o) [v] from hr)
 have e:v=.pointer (some ⟨b,o,none⟩):=by simpa using e
 have hc:v.cells = #[v]:=by rw [e]; rfl
 have hrun:(Instr.box t v).run P E.w=.ok (.pointer (some ⟨E.w.heap.size,0,none⟩)) (E.w.alloc (.cells v.cells t)):=by
  simp [Instr.box,newVar,newRow]
 obtain ⟨E1,h1,h2,h3,h4,h5⟩:=e0D (E:=E) (w:=E.w.alloc (.cells v.cells t)) (cs:=[.ptr i o]) rfl ⟨rfl,rfl⟩ hm (by rw [hc]; exact ⟨[v],[],rfl,hr,rfl⟩)
 obtain ⟨_,b1,hb1,e1⟩:=(show a6A E1 (.ptr E.N 0) [.pointer (some ⟨E.w.heap.size,0,none⟩)] from h4)
 have e1:E.w.heap.size=b1:=by simpa using e1
 subst e1
 have hl:a1A E.N (a9A E.N (.box [.ptr i o]) objs)=some (.box [.ptr i o]):=by rw [d4A,Aj rfl]
 have hk:¬ keep E.w.heap.size:=fun h=>absurd (hm.kb _ h) (Nat.lt_irrefl _)
 have hM:=d6D h3 hl hb1
 have hL:=s9B (E:=E1) (b:=E.w.heap.size) hk
 refine ⟨E1.free E.w.heap.size,h1,h2.trans hL,t0B hM fun j oc hj => ?_,⟨E.w.heap.size,v,t,rfl,.inr rfl,?_,rfl,a6A.later hL (a6A.later h2 hr)⟩,h5,hrun⟩
 ·rw [i3A,d4A]
  have:j≠E.N:=fun e=>absurd (hm.rep _ _ hj).1 (by rw [e]; exact Nat.lt_irrefl _)
  rw [Ae this,Ae this]; exact hj
 ·show E1.w.heap[E.w.heap.size]? = _
  rw [h1,←hc]; exact Array.getElem?_push_size
include hT
theorem u8D {S:St} {a:Act} (hs:e0A E S.tmps a.tmps) (hm:a4A E keep S.objs) (o:Oper) {v:AV} {objs:Objs} (h:(q0A T S E.N o.op).gives v objs) :
  ∃ x E' n,((execOp a.eval o).run P E.w=.ok (.value x) E'.w∨((execOp a.eval o).run P E.w=.ok .skip E'.w∧x=undef))∧Later keep E E'∧a4A E' keep objs∧a3A E' v x∧E'.N=n∧n≤E.N+1:=by
 obtain ⟨dst,op,type,pos,after,guard⟩:=o
 simp only at h
 unfold q0A at h
 split at h
 ·rename_i t
  split at h
  ·rename_i i hi
   obtain ⟨rfl,rfl⟩:=h
   obtain ⟨inf,h1,h2,h3,z,h4,h5,_⟩:=(hT t i hi).info
   have hrun:(Instr.alloc t true (.tuple #[])).run P E.w=.ok (.pointer (some ⟨E.w.heap.size,0,none⟩)) (E.w.alloc (.cells z.cells t)):=by
    simp [Instr.alloc,zeroValue,y4A h1,h4,newVar,newRow]
   obtain ⟨E',hw,hL,hM,hS,hN⟩:=e0D (E:=E) (w:=E.w.alloc (.cells z.cells t)) rfl ⟨rfl,rfl⟩ hm (h5 E)
   exact ⟨_,E',_,.inl (by rw [hw]; exact i2A hrun),hL,hM,hS,hN,Ay _⟩
  ·exact h.elim
 ·rename_i t x
  split at h
  ·rename_i i o hev
   obtain ⟨rfl,rfl⟩:=h
   have hr:=b6A hs x
   rw [hev] at hr
   obtain ⟨E',h1,h2,h3,h4,h5,h6⟩:=b4F (t:=t) hm hr
   exact ⟨_,E',_,.inl (by rw [h1]; exact i2A h6),h2,h3,h4,h5,Ay _⟩
  rename_i hne
  split at h
  ·rename_i cs hc
   obtain ⟨rfl,rfl⟩:=h
   have hrun:(Instr.box t (a.eval x)).run P E.w=.ok (.pointer (some ⟨E.w.heap.size,0,none⟩)) (E.w.alloc (.cells (a.eval x).cells t)):=by
    simp [Instr.box,newVar,newRow]
   obtain ⟨E',hw,hL,hM,hS,hN⟩:=e0D (E:=E) (w:=E.w.alloc (.cells (a.eval x).cells t)) rfl ⟨rfl,rfl⟩ hm (y6A (b6A hs x) hc)
   exact ⟨_,E',_,.inl (by rw [hw]; exact i2A hrun),hL,hM,hS,hN,Ay _⟩
  ·exact h.elim
 ·rename_i t p x
  obtain ⟨E',h1,h2,h3,rfl,h4⟩:=y6E hT hm h (b6A hs p) (b6A hs x)
  exact ⟨undef,E',_,.inr ⟨o4C h1,rfl⟩,h2,h3,⟨[],rfl,rfl⟩,h4,Ej _⟩
 ·obtain ⟨x,E',h1,h2,h3,h4,h5⟩:=z2E hT hs hm h
  exact ⟨x,E',_,.inl (i2A h1),h2,h3,h4,h5,Ay _⟩
 ·rename_i t l c
  obtain ⟨x,E',h1,h2,h3,h4,h5⟩:=z3E hT hm h (b6A hs l) (b6A hs c)
  exact ⟨x,E',_,.inl (i2A h1),h2,h3,h4,h5,Ay _⟩
 ·rename_i args argTypes
  split at h
  ·rename_i s x t u e1 e2
   have e1:=b1C e1
   have e2:=b1C e2
   subst e1 e2
   cases hb:Nat.beq t u with
   | false=>rw [hb] at h; exact h.elim
   | true =>
    rw [hb] at h
    have hb:=Ag hb
    subst hb
    obtain ⟨z,E',h1,h2,h3,h4,h5⟩:=z4E hT (tt:=type) hm h (b6A hs s) (b6A hs x)
    refine ⟨z,E',_,.inl ?_,h2,h3,h4,h5,Ay _⟩
    simp [execOp,resolve,invoke,builtin,h1]
  ·exact h.elim
 ·rename_i args argTypes
  split at h
  ·rename_i d x t u e1 e2
   have e1:=b1C e1
   have e2:=b1C e2
   subst e1 e2
   obtain ⟨z,E',h1,h2,h3,h4,h5⟩:=z5E hT (u:=u) (tt:=type) hm h (b6A hs d) (b6A hs x)
   refine ⟨z,E',_,.inl ?_,h2,h3,h4,h5,Ej _⟩
   simp [execOp,resolve,invoke,builtin,h1]
  ·exact h.elim
 ·rename_i args argTypes
  split at h
  ·rename_i x t e1 e2
   have e1:=n0C e1
   have e2:=n0C e2
   subst e1 e2
   obtain ⟨E',h1,h2,h3,h4,h5⟩:=z7E hT (tt:=type) hm h (b6A hs x)
   refine ⟨_,E',_,.inl ?_,h2,h3,h4,h5,Ej _⟩
   simp [execOp,resolve,invoke,builtin,h1]
  ·exact h.elim
 ·rename_i t x
  obtain ⟨z,E',h1,h2,h3,h4,h5⟩:=a7F hT hm h (b6A hs x)
  exact ⟨z,E',_,.inl (i2A h1),h2,h3,h4,h5,Ay _⟩
 ·rename_i x
  obtain ⟨z,E',h1,h2,h3,h4,h5⟩:=z9E (ty:=type) (P:=P) hm h (b6A hs x)
  exact ⟨z,E',_,.inl (i2A h1),h2,h3,h4,h5,Ej _⟩
 ·rename_i t
  split at h
  ·split at h
   ·obtain ⟨rfl,rfl⟩:=h
    obtain ⟨x,E',h1,h2,h3,h4,h5⟩:=a6F (P:=P) (t:=t) hm rfl
    exact ⟨x,E',_,.inl (i2A h1),h2,h3,h4,h5,Ay _⟩
   ·obtain ⟨rfl,rfl⟩:=h
    obtain ⟨x,E',h1,h2,h3,h4,h5⟩:=a2F (P:=P) (t:=t) hT hm rfl
    exact ⟨x,E',_,.inl (i2A h1),h2,h3,h4,h5,Ay _⟩
  ·exact h.elim
 ·rename_i t m k x
  obtain ⟨E',h1,h2,h3,rfl,h4⟩:=u6D hT hm h (b6A hs m) (b6A hs k) (b6A hs x)
  exact ⟨undef,E',_,.inr ⟨o4C h1,rfl⟩,h2,h3,⟨[],rfl,rfl⟩,h4,Ej _⟩
 ·rename_i t m k x
  obtain ⟨E',h1,h2,h3,rfl,h4⟩:=u6D hT hm h (b6A hs m) (b6A hs k) (b6A hs x)
  exact ⟨undef,E',_,.inr ⟨o4C h1,rfl⟩,h2,h3,⟨[],rfl,rfl⟩,h4,Ej _⟩
 ·rename_i t m k
  obtain ⟨x,E',h1,h2,h3,h4,h5⟩:=a3F hT hm h (b6A hs m) (b6A hs k)
  exact ⟨x,E',_,.inl (i2A h1),h2,h3,h4,h5,Ej _⟩
 ·rename_i t m s x
  obtain ⟨E',h1,h2,h3,rfl,h4⟩:=a4F hT hm h (b6A hs m) (b6A hs s) (b6A hs x)
  exact ⟨undef,E',_,.inr ⟨o4C h1,rfl⟩,h2,h3,⟨[],rfl,rfl⟩,h4,Ej _⟩
 ·rename_i args argTypes
  split at h
  ·rename_i m k t ts e1 e2
   have e1:=b1C e1
   subst e1
   have hat:argTypes[0]? = some t:=by rw [←Dr,e2]; rfl
   obtain ⟨E',h1,h2,h3,h4,h5⟩:=a5F hT (tt:=type) hat hm h (b6A hs m) (b6A hs k)
   refine ⟨_,E',_,.inl ?_,h2,h3,h4,h5,Ej _⟩
   simp [execOp,resolve,invoke,builtin,h1]
  ·exact h.elim
 ·rename_i t m k
  obtain ⟨x,h1,rfl,h4⟩:=a1F hT hm h (b6A hs m) (b6A hs k)
  exact ⟨x,E,_,.inl (i2A h1),Later.refl _ _,hm,h4,rfl,Ej _⟩
 ·exact h.elim
omit hT
theorem a4A.more {E:Env} {objs:Objs} (hm:a4A E keep objs) (n:Nat) (hn:E.N≤n):Later keep E { E with N:=n }∧a4A { E with N:=n } keep objs:=by
 have hL:Later keep E { E with N:=n }:=⟨fun _ h=>h,fun _ h=>.inl h,fun _ _=>rfl,hn,Ay _,fun _ _=>rfl,fun _ _=>rfl,e1A.refl _⟩
 exact ⟨hL,fun id oc h=>⟨Bi (hm.rep id oc h).1 hn,c5A.later hL (fun _ _=>rfl) (hm.rep id oc h).2⟩,hm.sep,hm.inj,hm.rob,hm.kb,hm.gl.later hL⟩
theorem c2C {S:St} {a:Act} {E:Env} (hs:e0A E S.tmps a.tmps) (dst:Option Nat) {v:AV} {x:Value} (hv:a3A E v x):e0A E (S.put dst v).tmps (a.put dst x).tmps:=by
 cases dst with
 | none=>exact hs
 | some d =>
  have hlen:∀ (l:List AV) (d:Nat) (v:AV),(g2A l d v).length=l.length:=by
   intro l
   induction l with
   | nil=>intro d v; cases d <;> rfl
   | cons a l ih=>intro d v; cases d with
    | zero=>rfl
    | succ d=>simp only [g2A,Be,ih]
  have hget:∀ (l:List AV) (d i:Nat) (v:AV),b1A (g2A l d v) i=if i=d∧d<l.length then v else b1A l i:=by
   intro l
   induction l with
   | nil=>intro d i v; simp [g2A]
   | cons a l ih =>
    intro d i v
    cases d with
    | zero =>
     cases i with
     | zero=>simp [g2A,b1A]
     | succ i=>simp [g2A,b1A]
    | succ d =>
     cases i with
     | zero=>simp [g2A,b1A]
     | succ i =>
      simp only [g2A,b1A,ih]
      by_cases h:i=d
      ·subst h; simp
      ·rw [Ae (fun hh=>h hh.1),Ae (fun hh=>h (Nat.succ.inj hh.1))]
  refine ⟨by simp only [St.put,Act.put,hlen,Array.size_setIfInBounds]; exact hs.1,fun i u hu => ?_⟩
  simp only [St.put,Act.put] at hu ⊢
  rw [hget]
  rw [Array.getElem?_setIfInBounds] at hu
  by_cases hi:d=i
  ·subst hi
   rw [Aj rfl] at hu
   by_cases hd:d<a.tmps.size
   ·rw [Aj hd] at hu
    cases hu
    rw [Aj ⟨rfl,by rw [hs.1]; exact hd⟩]
    exact hv
   ·rw [Ae hd] at hu; cases hu
  ·rw [Ae hi] at hu
   rw [Ae (fun h=>hi h.1.symm)]
   exact hs.2 i u hu
theorem e0A.later {S:St} {a:Act} {E':Env} (hs:e0A E S.tmps a.tmps) (hL:Later keep E E'):e0A E' S.tmps a.tmps:=⟨hs.1,fun i v hv=>a3A.later hL (hs.2 i v hv)⟩
end
end Go.Rx
namespace Go.Rx
variable [Inhabited GW]
section
variable {keep:Nat→Prop} {E E':Env} {id:Nat} {t:Ty} {l:List (den t)}
omit [Inhabited GW] in
theorem u9D:∀ v:AV,i6A (p1A id t l v)=i6A v:=by
 intro v
 cases v <;> first
  | rfl
  | (rename_i j r; unfold p1A; cases Nat.beq j id <;> rfl)
  | (unfold p1A; rfl)
structure Fz (keep:Nat→Prop) (E E':Env) (id:Nat) (t:Ty) (l:List (den t)):Prop where
 later:Later keep E E'
 w:E'.w=E.w
 own:c5A E (E.M id) (.arr t l)
 ro:∀ b,(E.M id).blk=some b→E'.ro b
mutual
theorem a6A.frz (h:Fz keep E E' id t l):∀ {v:AV} {vs:List Value},a6A E v vs→a6A E' (p1A id t l v) vs
 | .oref j r,vs,hr=>by
  unfold p1A
  cases hb:Nat.beq j id with
  | false=>exact a6A.later h.later hr
  | true =>
   have hj:=Ag hb
   subst hj
   have h1:∃ v,vs=[v]:=by
    obtain ⟨_,hr⟩:=hr
    split at hr
    ·exact ⟨_,hr.1⟩
    ·obtain ⟨o,cap,e,_⟩:=hr; exact ⟨_,e⟩
   obtain ⟨v,rfl⟩:=h1
   exact n9C rfl h.own hr E' h.later h.ro h.w
 | .func f a b,vs,hr=>by
  obtain ⟨A,B,e,r1,r2⟩:=hr
  exact ⟨A,B,e,e5A.frz h r1,e5A.frz h r2⟩
 | .iface u ag cs,vs,hr=>by
  obtain ⟨ws,r1,r2⟩:=hr
  exact ⟨ws,e5A.frz h r1,r2⟩
 | .cbox c,vs,hr=>by
  obtain ⟨b,v,e,h1,h2,h3,h4,h5⟩:=hr
  exact ⟨b,v,e,h1,h.later.ro b h2,(h.later.heapRo b h2).trans h3,by rw [u9D]; exact h4,a6A.frz h h5⟩
 | .agg _,_,hr=>hr.elim
 | .tup _,_,hr=>hr.elim
 | .top,_,hr=>a6A.later h.later hr
 | .int ..,_,hr=>a6A.later h.later hr
 | .bool _,_,hr=>a6A.later h.later hr
 | .str _,_,hr=>a6A.later h.later hr
 | .sl ..,_,hr=>a6A.later h.later hr
 | .slv ..,_,hr=>a6A.later h.later hr
 | .nilsl,_,hr=>a6A.later h.later hr
 | .arr ..,_,hr=>a6A.later h.later hr
 | .ptr ..,_,hr=>a6A.later h.later hr
 | .ptrA ..,_,hr=>a6A.later h.later hr
 | .ptrO ..,_,hr=>a6A.later h.later hr
 | .ptrR ..,_,hr=>a6A.later h.later hr
 | .bsl ..,_,hr=>a6A.later h.later hr
 | .yld _,_,hr=>a6A.later h.later hr
 | .gptr _,_,hr=>a6A.later h.later hr
 | .nilp,_,hr=>a6A.later h.later hr
 | .nilf,_,hr=>a6A.later h.later hr
 | .mapr _,_,hr=>a6A.later h.later hr
 | .nilm,_,hr=>a6A.later h.later hr
 | .nili,_,hr=>a6A.later h.later hr
theorem e5A.frz (h:Fz keep E E' id t l):∀ {vs:List AV} {ws:List Value},e5A E vs ws→e5A E' (p2A id t l vs) ws
 | [],_,r=>r
 | a::as,_,r=>by
  obtain ⟨v,s,e,hc,r1,r2⟩:=r
  exact ⟨v,s,e,by rw [u9D]; exact hc,a6A.frz h r1,e5A.frz h r2⟩
end
theorem b0A.frz (h:Fz keep E E' id t l):∀ {vs:List AV} {ws:List Value},b0A E vs ws→b0A E' (p2A id t l vs) ws
 | [],_,r=>r
 | a::as,_,r=>by
  obtain ⟨v,s,e,r1,r2⟩:=r
  exact ⟨v,s,e,a6A.frz h r1,b0A.frz h r2⟩
theorem d6A.frz (h:Fz keep E E' id t l) {v:AV} {x:Value} (r:d6A E v x):d6A E' (p1A id t l v) x:=by
 cases v
 case agg cs=>obtain ⟨vs,e,r⟩:=r; exact ⟨vs,e,b0A.frz h r⟩
 case oref j rg =>
  have:=a6A.frz h (show a6A E (.oref j rg) [x] from r)
  unfold p1A at this ⊢
  cases hb:Nat.beq j id <;> rw [hb] at this <;> exact this
 all_goals first
  | exact r
  | exact r.elim
  | exact a6A.frz h (v:=_) (vs:=[x]) r
theorem j2A.frz (h:Fz keep E E' id t l):∀ {vs:List AV} {ws:List Value},j2A E vs ws→j2A E' (p2A id t l vs) ws
 | [],_,r=>r
 | a::as,_,r=>by
  obtain ⟨v,s,e,r1,r2⟩:=r
  exact ⟨v,s,e,d6A.frz h r1,j2A.frz h r2⟩
theorem a3A.frz (h:Fz keep E E' id t l) {v:AV} {x:Value} (r:a3A E v x):a3A E' (p1A id t l v) x:=by
 cases ht:v.isTup with
 | true =>
  cases v <;> first
   | (obtain ⟨vs,e,r⟩:=r; exact ⟨vs,e,j2A.frz h r⟩)
   | cases ht
 | false =>
  have hf:(p1A id t l v).isTup=false:=by
   cases v <;> first
    | rfl
    | (rename_i j rg; unfold p1A; cases Nat.beq j id <;> rfl)
    | (simp [AV.isTup] at ht; done)
  exact (a3A.iff_V hf).2 (d6A.frz h ((a3A.iff_V ht).1 r))
omit [Inhabited GW] in
theorem v0D:∀ (vs:List AV) (i:Nat),b1A (p2A id t l vs) i=p1A id t l (b1A vs i)
 | [],i=>by simp [p2A,b1A,p1A]
 | v::vs,0=>rfl
 | v::vs,i+1=>v0D vs i
omit [Inhabited GW] in
theorem v1D:∀ (vs:List AV),(p2A id t l vs).length=vs.length
 | []=>rfl
 | v::vs=>Cp (·+1) (v1D vs)
omit [Inhabited GW] in
theorem h8B:∀ (objs:Objs) (j:Nat),a1A j (r5A id t l objs)=(a1A j objs).map fun oc=>match oc with
  | .box cs=>.box (p2A id t l cs)
  | oc=>oc
 | [],j=>rfl
 | (k,oc)::r,j=>by
  cases oc with
  | box cs =>
   simp only [r5A,a1A]
   cases Nat.beq k j
   ·exact h8B r j
   ·rfl
  | arr t l =>
   simp only [r5A,a1A]
   cases Nat.beq k j
   ·exact h8B r j
   ·rfl
  | map es =>
   simp only [r5A,a1A]
   cases Nat.beq k j
   ·exact h8B r j
   ·rfl
  | iter s p =>
   simp only [r5A,a1A]
   cases Nat.beq k j
   ·exact h8B r j
   ·rfl
  | mp kt vt es ck =>
   simp only [r5A,a1A]
   cases Nat.beq k j
   ·exact h8B r j
   ·rfl
  | mit a b c d =>
   simp only [r5A,a1A]
   cases Nat.beq k j
   ·exact h8B r j
   ·rfl
  | hol t' l' g cs far =>
   simp only [r5A,a1A]
   cases Nat.beq k j
   ·exact h8B r j
   ·rfl
theorem a4A.frz {objs:Objs} (h:Fz keep E E' id t l) (hm:a4A E' keep objs) (hr:∀ j oc,a1A j objs=some oc→c5A E (E.M j) oc) (hM:E'.M=E.M):a4A E' keep (r5A id t l objs):=by
 have key:∀ {j oc},a1A j (r5A id t l objs)=some oc→∃ oc0,a1A j objs=some oc0∧c5A E' (E'.M j) oc:=fun {j oc} hj=>by
  rw [h8B] at hj
  obtain ⟨oc0,h1,h2⟩:=Option.map_eq_some_iff.1 hj
  refine ⟨oc0,h1,?_⟩
  cases oc0 with
  | box cs =>
   cases h2
   obtain ⟨b,vs,e,r1,r2,r3⟩:=hr _ _ h1
   exact ⟨b,vs,e,by rw [hM]; exact r1,by rw [h.w]; exact r2,b0A.frz h r3⟩
  | arr t l=>cases h2; exact (hm.rep _ _ h1).2
  | map es=>cases h2; exact (hm.rep _ _ h1).2
  | iter s p=>cases h2; exact (hm.rep _ _ h1).2
  | mp kt vt es ck=>cases h2; exact (hm.rep _ _ h1).2
  | mit a b c d=>cases h2; exact (hm.rep _ _ h1).2
  | hol t' l' g cs far=>cases h2; exact (hm.rep _ _ h1).2
 refine ⟨fun j oc hj => ?_,fun j oc b hj hb => ?_,fun j j' oc oc' b hj hj' hb hb' => ?_,hm.rob,hm.kb,hm.gl⟩
 ·obtain ⟨oc0,h1,h2⟩:=key hj
  exact ⟨(hm.rep _ _ h1).1,h2⟩
 ·obtain ⟨oc0,h1,h2⟩:=key hj
  exact hm.sep _ _ _ h1 hb
 ·obtain ⟨oc0,h1,_⟩:=key hj
  obtain ⟨oc1,h2,_⟩:=key hj'
  exact hm.inj _ _ _ _ b h1 h2 hb hb'
theorem b5F {S S':St} {z s:Nat} {a:Act} (hf:j6C S s=some S') (h:Rel keep z S a E):∃ E',E'.w=E.w∧Later keep E E'∧Rel keep z S' a E':=by
 unfold j6C at hf
 cases hi:r4A S s with
 | none=>rw [hi] at hf; cases hf
 | some id =>
  rw [hi] at hf
  dsimp only at hf
  split at hf
  ·rename_i t l hl
   rcases c2A hf with ⟨_,hf⟩ | ⟨_,hf⟩
   ·cases hf
    have ho:=(h.mems.rep _ _ hl).2
    have fin:∀ E':Env,E'.w=E.w→Later keep E E'→a4A E' keep (b9A id S.objs)→(∀ b,(E.M id).blk=some b→E'.ro b)→E'.M=E.M→E'.N=E.N→∃ E',E'.w=E.w∧Later keep E E'∧Rel keep z ⟨p2A id t l S.tmps,r5A id t l (b9A id S.objs),S.next⟩ a E':=fun E' hw hL hM hro hMM hN=>by
     have hz:Fz keep E E' id t l:=⟨hL,hw,ho,hro⟩
     refine ⟨E',hw,hL,h.size,⟨?_,fun i v hv => ?_⟩,a4A.frz hz hM (fun j oc hj => ?_) hMM,by rw [hN]; exact h.next,h.defers.later hL⟩
     ·rw [v1D]; exact h.slots.1
     ·rw [v0D]; exact a3A.frz hz (h.slots.2 i v hv)
     ·rw [i3A] at hj
      split at hj
      ·cases hj
      ·exact (h.mems.rep _ _ hj).2
    cases hb:(E.M id).blk with
    | none=>exact fin E rfl (Later.refl _ _) (s0A h.mems) (fun b e=>by rw [hb] at e; cases e) rfl rfl
    | some b=>exact fin (E.free b) rfl (s9B (h.mems.sep _ _ _ hl hb).2) (d6D h.mems hl hb) (fun b' e=>by rw [hb] at e; cases e; exact .inr rfl) rfl rfl
   ·cases hf
  ·cases hf
theorem e7D {id:Nat} {oc oc':OC} {objs:Objs} (hm:a4A E keep objs) (hl:a1A id objs=some oc) (hr:c5A E (E.M id) oc'):a4A E keep (a9A id oc' objs):=by
 have f:∀ {j o},a1A j (a9A id oc' objs)=some o→∃ o',a1A j objs=some o':=by
  intro j o h
  rw [d4A] at h
  by_cases hj:j=id
  ·exact ⟨oc,by rw [hj]; exact hl⟩
  ·rw [Ae hj] at h; exact ⟨_,h⟩
 refine ⟨fun j o h => ?_,fun j o b h hb => ?_,fun j j' o o' b h h' hb hb' => ?_,hm.rob,hm.kb,hm.gl⟩
 ·rw [d4A] at h
  by_cases hj:j=id
  ·rw [Aj hj] at h
   cases h
   subst hj
   exact ⟨(hm.rep _ _ hl).1,hr⟩
  ·rw [Ae hj] at h
   exact hm.rep _ _ h
 ·obtain ⟨_,h⟩:=f h
  exact hm.sep _ _ _ h hb
 ·obtain ⟨_,h⟩:=f h
  obtain ⟨_,h'⟩:=f h'
  exact hm.inj _ _ _ _ b h h' hb hb'
omit [Inhabited GW] in
theorem b6F {vs:List Value} {base n i:Nat} {v:Value} (h:vs[base+i]? = some v) (hi:i<n):((vs.drop base).take n)[i]? = some v:=by
 rw [Et hi,Bl]; exact h
theorem b7F {m:MI} {t:Ty} {l:List (den t)} {g:Nat} (hg:g<l.length) (h:c5A E m (.arr t l)):c5A E m (.hol t l g (enc t (l.getD g (c4A t))) false):=by
 obtain ⟨h1,h2,h3⟩:=h
 cases hb:m.blk with
 | none =>
  rw [hb] at h3
  have h3:l=[]:=h3
  subst h3
  exact absurd hg (Ch _)
 | some b =>
  rw [hb] at h3
  obtain ⟨vs,e,h4,h5,h6,h7⟩:=h3
  have hc:l.length*a0A t≤m.cap*a0A t:=Aw _ h5
  have el:∀ i,(hi:i<l.length)→∃ us,a2A E t l[i] us∧∀ j v,us[j]? = some v→((vs.toList.drop m.base).take (l.length*a0A t))[i*a0A t+j]? = some v:=fun i hi=>by
   obtain ⟨us,r1,r2⟩:=h7 i hi
   refine ⟨us,r1,fun j v hj=>b6F (by rw [Dr,←Dj]; exact r2 j v hj) ?_⟩
   have hj':j<a0A t:=by rw [←a2A.length r1]; exact (Cl.1 hj).1
   have:i*a0A t+a0A t≤l.length*a0A t:=by rw [←Dw]; exact Aw _ hi
   omega
  refine ⟨h1,h2,b,vs,e,hb,h4,h5,h6,by have e2:vs.toList.length=vs.size:=An; rw [Ap,Ar]; omega,hg,fun i hi _=>el i hi,?_⟩
  obtain ⟨us,r1,r2⟩:=el g hg
  exact ⟨us,by rw [Cd,Aq hg]; exact o3A r1,a2A.length r1,r2⟩
theorem v2D {m:MI} {t:Ty} {l:List (den t)} {g:Nat} {cs:List AV} {far:Bool} (x:den t) (h:c5A E m (.hol t l g cs far)) :
  ∃ us,b0A E cs us∧∀ E':Env,Later keep E E'→E'.w=E.w→a2A E' t x us→c5A E' m (.arr t (l.set g x)):=by
 obtain ⟨h1,h2,b,vs,e,h3,h4,h5,h6,h7,hg,hel,us,hus,hul,huj⟩:=h
 refine ⟨us,hus,fun E' hL hw hx=>⟨by rw [Em]; exact h1,h2,?_⟩⟩
 rw [h3]
 refine ⟨vs,e,by rw [hw]; exact h4,by rw [Em]; exact h5,h6,fun i hi => ?_⟩
 rw [Em] at hi
 have back:∀ {j:Nat} {v:Value},((vs.toList.drop m.base).take (l.length*a0A t))[i*a0A t+j]? = some v→vs[m.base+i*a0A t+j]? = some v:=fun {j v} hj=>by
  rw [Bt] at hj
  split at hj
  ·rw [Bl,Dr,←Dj] at hj; exact hj
  ·cases hj
 by_cases e:g=i
 ·subst e
  exact ⟨us,by rw [List.getElem_set_self]; exact hx,fun j v hj=>back (huj j v hj)⟩
 ·obtain ⟨us,r1,r2⟩:=hel i hi (Ne.symm e)
  exact ⟨us,by rw [List.getElem_set_ne e]; exact a2A.later hL r1,fun j v hj=>back (r2 j v hj)⟩
theorem b8F {S S':St} {z s q:Nat} {a:Act} (hf:j7C S s q=some (true,S')) (h:Rel keep z S a E):Rel keep z S' a E:=by
 unfold j7C at hf
 cases hi:r4A S s with
 | none=>rw [hi] at hf; cases hf
 | some id =>
  rw [hi] at hf
  dsimp only at hf
  split at hf
  ·rename_i t l hl
   rcases c2A hf with ⟨_,hf⟩ | ⟨_,hf⟩
   ·have h1:=Cp Prod.fst (Bp hf)
    have h2:=Cp Prod.snd (Bp hf)
    dsimp only at h1 h2
    subst h2
    have hg:m7B (b1A S.tmps q)<l.length:=Bx h1
    exact ⟨h.size,h.slots,e7D h.mems hl (b7F hg (h.mems.rep _ _ hl).2),h.next,h.defers⟩
   ·cases hf
  ·cases hf
theorem b9F {S S':St} {z s:Nat} {b:Bool} {a:Act} (hf:j8C S s b=some S') (h:Rel keep z S a E):Rel keep z S' a E:=by
 unfold j8C at hf
 cases hi:r4A S s with
 | none=>rw [hi] at hf; cases hf
 | some id =>
  rw [hi] at hf
  dsimp only at hf
  split at hf
  ·rename_i t l g cs _ hl
   cases hf
   exact ⟨h.size,h.slots,e7D h.mems hl (h.mems.rep _ _ hl).2,h.next,h.defers⟩
  ·cases hf
theorem c0F {S S':St} {z s:Nat} {a:Act} (hf:j9C S s=some S') (h:Rel keep z S a E):∃ E',E'.w=E.w∧Later keep E E'∧Rel keep z S' a E':=by
 unfold j9C at hf
 cases hi:r4A S s with
 | none=>rw [hi] at hf; cases hf
 | some id =>
  rw [hi] at hf
  dsimp only at hf
  split at hf
  ·rename_i t l g cs far hl
   split at hf
   ·rename_i x objs hto
    split at hf
    ·rename_i oc hl2
     rcases c2A hf with ⟨hp,hf⟩ | ⟨_,hf⟩
     ·cases hf
      have ho:=(h.mems.rep _ _ hl).2
      obtain ⟨us,hus,hk⟩:=v2D (keep:=keep) x ho
      obtain ⟨E',u,v,g,m,e,t1,c1,_⟩:=v1A t hp hus h.mems hto
      rw [show v=[] from c1,Bc] at e
      subst e
      refine ⟨E',g.w,g.later,h.size,h.slots.later g.later,e7D m hl2 ?_,by rw [g.N]; exact h.next,h.defers.later g.later⟩
      rw [g.M]
      exact hk E' g.later g.w t1
     ·cases hf
    ·cases hf
   ·cases hf
  ·cases hf
theorem v3D {z:Nat} {a:Act}:∀ {an:Ann} {S:St} {q:Bool×(St×Ann)} {E:Env},t0A S an=some q→q.1=true→Rel keep z S a E→∃ E',E'.w=E.w∧Later keep E E'∧Rel keep z q.2.1 a E':=by
 intro an
 induction an with
 | frz s b ih =>
  intro S q E h hq hR
  unfold t0A at h
  cases hf:j6C S s with
  | none=>rw [hf] at h; cases h
  | some S1 =>
   rw [hf] at h
   obtain ⟨E1,h1,h2,h3⟩:=b5F hf hR
   obtain ⟨E2,h4,h5,h6⟩:=ih h hq h3
   exact ⟨E2,h4.trans h1,h2.trans h5,h6⟩
 | opn s p b ih =>
  intro S q E h hq hR
  unfold t0A at h
  cases hf:j7C S s p with
  | none=>rw [hf] at h; cases h
  | some r1 =>
   rw [hf] at h
   obtain ⟨r2,hr2,rfl⟩:=b4A h
   simp only [Ac] at hq
   obtain ⟨c,S1⟩:=r1
   obtain ⟨rfl,hq⟩:=hq
   exact ih hr2 hq (b8F hf hR)
 | far s c b ih =>
  intro S q E h hq hR
  unfold t0A at h
  cases hf:j8C S s c with
  | none=>rw [hf] at h; cases h
  | some S1 =>
   rw [hf] at h
   exact ih h hq (b9F hf hR)
 | cls s b ih =>
  intro S q E h hq hR
  unfold t0A at h
  cases hf:j9C S s with
  | none=>rw [hf] at h; cases h
  | some S1 =>
   rw [hf] at h
   obtain ⟨E1,h1,h2,h3⟩:=c0F hf hR
   obtain ⟨E2,h4,h5,h6⟩:=ih h hq h3
   exact ⟨E2,h4.trans h1,h2.trans h5,h6⟩
 | _ =>
  intro S q E h hq hR
  cases h
  exact ⟨E,rfl,Later.refl _ _,hR⟩
end
end Go.Rx
namespace Go.Rx
variable [Inhabited GW]
theorem v4D {t:Ty} {objs objs':Objs} {id:Nat} {rg:Option (Nat×Nat)} {x:List (den t)} (h:p9A t objs id rg=some (x,objs')) {j:Nat} (hj:j≠id):a1A j objs'=a1A j objs:=by
 unfold p9A at h
 split at h
 ·obtain ⟨l',hc,h⟩:=b4A h
  cases h
  rw [i3A,Ae hj]
 ·cases h
def b2B (cs rest:List AV) (objs objs':Objs):Prop:=(∀ j,j ∉ e4A.idsVs cs→a1A j objs'=a1A j objs)∧∀ j,j∈e4A.idsVs rest→j∈e4A.idsVs cs
theorem b2B.tail {c:AV} {r:List AV} {objs:Objs}:b2B (c::r) r objs objs:=⟨fun _ _=>rfl,fun j hj=>by simp only [e4A.idsVs,Ck]; exact .inr hj⟩
theorem b2B.trans {a b c:List AV} {o o' o'':Objs} (h:b2B a b o o') (h':b2B b c o' o''):b2B a c o o'' :=
 ⟨fun j hj=>(h'.1 j fun hb=>hj (h.2 j hb)).trans (h.1 j hj),fun j hj=>h.2 j (h'.2 j hj)⟩
theorem o5C:∀ (t:Ty) {cs rest:List AV} {objs objs':Objs} {x:den t},b2A t cs objs=some (x,rest,objs')→b2B cs rest objs objs'
 | .int k,cs,rest,objs,objs',x,h=>by
  simp only [b2A] at h
  split at h
  ·split at h
   ·cases h; exact .tail
   ·cases h
  ·cases h
 | .bool,cs,rest,objs,objs',x,h=>by
  simp only [b2A] at h
  split at h
  ·cases h; exact .tail
  ·cases h
 | .str,cs,rest,objs,objs',x,h=>by
  simp only [b2A] at h
  split at h
  ·cases h; exact .tail
  ·cases h
 | .sl t,cs,rest,objs,objs',x,h=>by
  simp only [b2A] at h
  split at h
  ·obtain ⟨_,_,h⟩:=b4A h; cases h; exact .tail
  ·cases h; exact .tail
  ·obtain ⟨⟨_,_⟩,hl,h⟩:=b4A h
   cases h
   exact ⟨fun j hj=>v4D hl fun e=>hj (by subst e; simp [e4A.idsVs,e4A]),b2B.tail (objs:=objs).2⟩
  ·cases h
 | .own t,cs,rest,objs,objs',x,h=>by
  simp only [b2A] at h
  split at h
  ·cases h; exact .tail
  ·obtain ⟨⟨_,_⟩,hl,h⟩:=b4A h
   cases h
   exact ⟨fun j hj=>v4D hl fun e=>hj (by subst e; simp [e4A.idsVs,e4A]),b2B.tail (objs:=objs).2⟩
  ·cases h
 | .unit,cs,rest,objs,objs',x,h=>by
  simp only [b2A] at h; cases h; exact ⟨fun _ _=>rfl,fun _ h=>h⟩
 | .pair a b,cs,rest,objs,objs',x,h=>by
  simp only [b2A] at h
  split at h
  ·rename_i h1
   split at h
   ·rename_i h2
    cases h
    exact (o5C a h1).trans (o5C b h2)
   ·cases h
  ·cases h
 | .arr n t,cs,rest,objs,objs',x,h=>by
  simp only [b2A] at h
  split at h
  ·split at h
   ·obtain ⟨_,_,h⟩:=b4A h; cases h; exact .tail
   ·cases h
  ·have key:∀ (n:Nat) {cs rest:List AV} {objs objs':Objs} {xs:List (den t)},m8A (b2A t) n cs objs=some (xs,rest,objs')→b2B cs rest objs objs':=by
    intro n
    induction n with
    | zero=>intro cs rest objs objs' xs h; simp only [m8A] at h; cases h; exact ⟨fun _ _=>rfl,fun _ h=>h⟩
    | succ n ih =>
     intro cs rest objs objs' xs h
     simp only [m8A] at h
     split at h
     ·rename_i h1
      split at h
      ·rename_i h2
       cases h
       exact (o5C t h1).trans (ih h2)
      ·cases h
     ·cases h
   exact key n h
theorem c1F {v:AV} {cs:List AV} (h:k3A v=some cs):e4A.idsVs cs=e4A v:=by
 cases v <;> simp only [k3A] at h <;> first
  | (cases h; done)
  | (cases h; simp [e4A.idsVs,e4A])
theorem v5D {t:Ty} {v:AV} {objs objs':Objs} {x:den t} (h:j6A t v objs=some (x,objs')) {j:Nat} (hj:j ∉ e4A v):a1A j objs'=a1A j objs:=by
 unfold j6A at h
 split at h
 ·rename_i cs hc
  split at h
  ·rename_i h1
   cases h
   exact (o5C _ h1).1 j (by rw [c1F hc]; exact hj)
  ·cases h
 ·cases h
theorem v6D {t:Bool×Ty} {v:AV} {objs objs':Objs} {x:den t.2} (h:k8A t v objs=some (x,objs')) {j:Nat} (hj:j ∉ e4A v):a1A j objs'=a1A j objs:=by
 rcases c2A h with ⟨_,h⟩ | ⟨_,h⟩
 ·exact v5D h hj
 ·cases h
theorem v7D {j:Nat}:∀ (l:List (Bool×Ty)) {vs:List AV} {objs objs':Objs} {x:c8A l},f9A l vs objs=some (x,objs')→j ∉ e4A.idsVs vs→a1A j objs'=a1A j objs
 | [],vs,objs,objs',x,h,hj=>by
  cases vs with
  | nil=>cases h; rfl
  | cons=>cases h
 | [t],vs,objs,objs',x,h,hj=>by
  match vs,h,hj with
  | [v],h,hj=>exact v6D h (by simpa [e4A.idsVs] using hj)
 | t::t'::l,vs,objs,objs',x,h,hj=>by
  match vs,h,hj with
  | v::vs,h,hj =>
   simp only [e4A.idsVs,Ck,not_or] at hj
   simp only [f9A] at h
   split at h
   ·rename_i h1
    split at h
    ·rename_i h2
     cases h
     exact (v7D (t'::l) h2 hj.2).trans (v6D h1 hj.1)
    ·cases h
   ·cases h
theorem v8D {t:Ty} {j:Nat}:∀ {vs:List AV} {objs objs':Objs} {xs:List (den t)},u2A t vs objs=some (xs,objs')→j ∉ e4A.idsVs vs→a1A j objs'=a1A j objs
 | [],objs,objs',xs,h,_=>by simp only [u2A] at h; cases h; rfl
 | v::vs,objs,objs',xs,h,hj=>by
  simp only [e4A.idsVs,Ck,not_or] at hj
  simp only [u2A] at h
  split at h
  ·rename_i h1
   split at h
   ·rename_i h2
    cases h
    exact (v8D h2 hj.2).trans (v5D h1 hj.1)
   ·cases h
  ·cases h
theorem o6C {j:Nat}:∀ (t:Ty) (x:den t) (m:Mem),m.next≤(a8A t x m).2.next∧(j<m.next→a1A j (a8A t x m).2.objs=a1A j m.objs)
 | .int k,x,m=>⟨Ay _,fun _=>rfl⟩
 | .bool,x,m=>⟨Ay _,fun _=>rfl⟩
 | .str,x,m=>⟨Ay _,fun _=>rfl⟩
 | .sl t,x,m=>⟨Ay _,fun _=>rfl⟩
 | .own t,x,m=>⟨Ej _,fun h=>by simp only [a8A]; rw [d4A,Ae (El h)]⟩
 | .unit,x,m=>⟨Ay _,fun _=>rfl⟩
 | .pair a b,x,m=>by
  obtain ⟨h1,h2⟩:=o6C a x.1 m
  obtain ⟨h3,h4⟩:=o6C b x.2 (a8A a x.1 m).2
  simp only [a8A]
  exact ⟨Dz h1 h3,fun h=>(h4 (Bi h h1)).trans (h2 h)⟩
 | .arr n t,x,m=>⟨Ay _,fun _=>rfl⟩
theorem e8D {j:Nat}:∀ (l:List (Bool×Ty)) (x:c8A l) (m:Mem),m.next≤(f4A l x m).2.next∧(j<m.next→a1A j (f4A l x m).2.objs=a1A j m.objs)
 | [],x,m=>⟨Ay _,fun _=>rfl⟩
 | [t],x,m=>by simp only [f4A,i4A]; exact o6C t.2 x m
 | t::t'::l,x,m=>by
  obtain ⟨h1,h2⟩:=o6C (j:=j) t.2 x.1 m
  obtain ⟨h3,h4⟩:=e8D (j:=j) (t'::l) x.2 (a8A t.2 x.1 m).2
  simp only [f4A,i4A]
  exact ⟨Dz h1 h3,fun h=>(h4 (Bi h h1)).trans (h2 h)⟩
theorem v9D:∀ (l:List (Nat×AV)),k0C l=e4A.idsVs (d5A (·.2) l)
 | []=>rfl
 | p::l=>by simp only [k0C,d5A,e4A.idsVs,v9D l]
end Go.Rx
namespace Go.Rx
variable [Inhabited GW]
structure Two (n:Nat) (keep:Nat→Prop) (A B:Env) (oa ob:Objs):Prop where
 w:B.w=A.w
 ro:B.ro=A.ro
 M:∀ id,id<n→B.M id=A.M id
 n:n≤B.N
 ma:a4A A keep oa
 mb:a4A B keep ob
 ap:∀ b,d8A A oa b→¬ d8A B ob b
theorem a2A.same {A B:Env} (hw:B.w=A.w) (hr:B.ro=A.ro):∀ {t:Ty} {x:den t} {vs:List Value},a2A A t x vs→a2A B t x vs
 | .int _,_,_,r=>r
 | .bool,_,_,r=>r
 | .str,_,_,r=>r
 | .sl t,l,vs,r=>by
  obtain ⟨a,cap,e,hc,r⟩:=r
  refine ⟨a,cap,e,hc,r.imp id ?_⟩
  rintro ⟨b,o,e,hb,r⟩
  refine ⟨b,o,e,by rw [hr]; exact hb,fun i hi => ?_⟩
  obtain ⟨cs,r1,r2⟩:=r i hi
  exact ⟨cs,a2A.same hw hr r1,fun j v hj=>by rw [hw]; exact r2 j v hj⟩
 | .own _,_,_,r=>r
 | .unit,_,_,r=>r
 | .pair a b,x,vs,r=>by
  obtain ⟨u,v,e,r1,r2⟩:=r
  exact ⟨u,v,e,a2A.same hw hr r1,a2A.same hw hr r2⟩
 | .arr n t,l,vs,r=>by
  obtain ⟨e1,e2,r⟩:=r
  refine ⟨e1,e2,fun i hi => ?_⟩
  obtain ⟨cs,r1,r2⟩:=r i hi
  exact ⟨cs,a2A.same hw hr r1,r2⟩
theorem b5A.same {A B:Env} (hw:B.w=A.w) (hr:B.ro=A.ro) {kt vt:Bool×Ty}:∀ {es:List (Nat×(den kt.2×den vt.2))} {ms:List MapEntry},b5A A kt vt es ms→b5A B kt vt es ms
 | [],_,r=>r
 | p::es,_,r=>by
  obtain ⟨e,s,h0,h1,⟨c1,h2,h3⟩,⟨c2,h4,h5⟩,h6⟩:=r
  exact ⟨e,s,h0,h1,⟨c1,a2A.same hw hr h2,h3⟩,⟨c2,a2A.same hw hr h4,h5⟩,b5A.same hw hr h6⟩
theorem h9B:∀ (t:Ty) (x:den t) (m:Mem),t.pure=true→a8A t x m=(enc t x,m)
 | .int _,_,_,_=>rfl
 | .bool,_,_,_=>rfl
 | .str,_,_,_=>rfl
 | .sl _,_,_,_=>rfl
 | .own _,_,_,h=>by cases h
 | .unit,_,_,_=>rfl
 | .pair a b,x,m,h=>by
  simp only [Ty.pure,Ac] at h
  simp only [a8A,h9B a x.1 m h.1,h9B b x.2 m h.2,enc]
 | .arr _ _,_,_,_=>rfl
section
variable {n:Nat} {keep:Nat→Prop} {A B:Env} {oa ob:Objs}
theorem Two.give {A':Env} {oa':Objs} (h:Two n keep A B oa ob) (g:g7A keep A A') (ma:a4A A' keep oa') (hl:∀ b,A'.ro b→A.ro b∨d8A A oa b) (hs:∀ j oc,a1A j oa'=some oc→a1A j oa=some oc) :
  Two n keep A' { B with ro:=A'.ro } oa' ob∧Later keep B { B with ro:=A'.ro }:=by
 have hL:Later keep B { B with ro:=A'.ro }:=
  ⟨fun b hb=>g.later.ro b (by rw [←h.ro]; exact hb),fun b hb=>by rw [h.ro]; exact g.later.roN b hb,fun _ _=>rfl,Ay _,Ay _,fun _ _=>rfl,fun _ _=>rfl,e1A.refl _⟩
 refine ⟨⟨by rw [g.w]; exact h.w,rfl,fun id hi=>by rw [g.M]; exact h.M id hi,h.n,ma,⟨fun id oc hx=>⟨(h.mb.rep id oc hx).1,c5A.later hL (fun _ _=>rfl) (h.mb.rep id oc hx).2⟩,
  fun id oc b hx hb=>⟨fun hc => ?_,(h.mb.sep id oc b hx hb).2⟩,h.mb.inj,fun b hb => ?_,h.mb.kb,h.mb.gl.later hL⟩,fun b hb hx => ?_⟩,hL⟩
 ·rcases hl b hc with hc | hc
  ·exact (h.mb.sep id oc b hx hb).1 (by rw [h.ro]; exact hc)
  ·exact h.ap b hc ⟨id,oc,hx,hb⟩
 ·show b<B.w.heap.size
  rw [h.w,←g.w]; exact ma.rob b hb
 ·obtain ⟨id,oc,h1,h2⟩:=hb
  exact h.ap b ⟨id,oc,hs _ _ h1,by rw [←g.M]; exact h2⟩ hx
theorem w0D {E:Env} {objs:Objs} {ty:Ty} (hm:a4A E keep objs) {m:MI} (hb:m.blk=none) (hl:m.len=0) (hwd:m.wd=a0A ty) :
  Later keep E (E.new E.w m)∧a4A (E.new E.w m) keep (a9A E.N (.arr ty []) objs):=by
 have hM:∀ id,(E.new E.w m).M id=if id=E.N then m else E.M id:=fun _=>rfl
 have hL:Later keep E (E.new E.w m):=⟨fun _ h=>h,fun _ h=>.inl h,fun id hi=>by simp [Env.new,El hi],Ej _,Ay _,fun _ _=>rfl,fun _ _=>rfl,e1A.refl _⟩
 refine ⟨hL,fun id oc h => ?_,fun id oc b h hb' => ?_,fun id id' o o' b h h' hb1 hb2 => ?_,hm.rob,hm.kb,hm.gl.later hL⟩
 ·rw [d4A] at h
  rw [hM]
  by_cases hi:id=E.N
  ·rw [Aj hi] at h ⊢
   cases h
   exact ⟨by rw [hi]; exact Cg _,hl,hwd,by rw [hb]⟩
  ·rw [Ae hi] at h ⊢
   obtain ⟨h1,h2⟩:=hm.rep _ _ h
   exact ⟨Eh h1,c5A.later hL (fun _ _=>rfl) h2⟩
 ·rw [d4A] at h
  rw [hM] at hb'
  by_cases hi:id=E.N
  ·rw [Aj hi,hb] at hb'; cases hb'
  ·rw [Ae hi] at h hb'
   exact hm.sep _ _ _ h hb'
 ·rw [d4A] at h h'
  rw [hM] at hb1 hb2
  by_cases hi:id=E.N
  ·rw [Aj hi,hb] at hb1; cases hb1
  ·by_cases hi':id'=E.N
   ·rw [Aj hi',hb] at hb2; cases hb2
   ·rw [Ae hi] at h hb1
    rw [Ae hi'] at h' hb2
    exact hm.inj _ _ _ _ _ h h' hb1 hb2
theorem c2F {E:Env} {objs:Objs} {oc:OC} {b:Nat} (hm:a4A E keep objs) {m:MI} (hb:m.blk=some b) (hro:¬ E.ro b) (hk:¬ keep b) (hn:¬ d8A E objs b)
  (hr:Later keep E (E.new E.w m)→c5A (E.new E.w m) m oc):Later keep E (E.new E.w m)∧a4A (E.new E.w m) keep (a9A E.N oc objs):=by
 have hM:∀ id,(E.new E.w m).M id=if id=E.N then m else E.M id:=fun _=>rfl
 have hL:Later keep E (E.new E.w m):=⟨fun _ h=>h,fun _ h=>.inl h,fun id hi=>by simp [Env.new,El hi],Ej _,Ay _,fun _ _=>rfl,fun _ _=>rfl,e1A.refl _⟩
 refine ⟨hL,fun id oc' h => ?_,fun id oc' b' h hb' => ?_,fun id id' o o' b' h h' hb1 hb2 => ?_,hm.rob,hm.kb,hm.gl.later hL⟩
 ·rw [d4A] at h
  rw [hM]
  by_cases hi:id=E.N
  ·rw [Aj hi] at h ⊢
   cases h
   exact ⟨by rw [hi]; exact Cg _,hr hL⟩
  ·rw [Ae hi] at h ⊢
   obtain ⟨h1,h2⟩:=hm.rep _ _ h
   exact ⟨Eh h1,c5A.later hL (fun _ _=>rfl) h2⟩
 ·rw [d4A] at h
  rw [hM] at hb'
  by_cases hi:id=E.N
  ·rw [Aj hi,hb] at hb'
   cases hb'
   exact ⟨hro,hk⟩
  ·rw [Ae hi] at h hb'
   exact hm.sep _ _ _ h hb'
 ·rw [d4A] at h h'
  rw [hM] at hb1 hb2
  by_cases hi:id=E.N <;> by_cases hi':id'=E.N
  ·rw [hi,hi']
  ·rw [Aj hi,hb] at hb1
   cases hb1
   rw [Ae hi'] at h' hb2
   exact absurd ⟨id',o',h',hb2⟩ hn
  ·rw [Aj hi',hb] at hb2
   cases hb2
   rw [Ae hi] at h hb1
   exact absurd ⟨id,o,h,hb1⟩ hn
  ·rw [Ae hi] at h hb1
   rw [Ae hi'] at h' hb2
   exact hm.inj _ _ _ _ _ h h' hb1 hb2
theorem e9D {E:Env} {w:World} {m:MI} {objs:Objs} {oc:OC} {b:Nat} (hm:a4A E keep objs) (h:d8A (E.new w m) (a9A E.N oc objs) b):m.blk=some b∨d8A E objs b:=by
 obtain ⟨id,o,h1,h2⟩:=h
 rw [d4A] at h1
 have hM:(E.new w m).M id=if id=E.N then m else E.M id:=rfl
 rw [hM] at h2
 by_cases hi:id=E.N
 ·rw [Aj hi] at h2; exact .inl h2
 ·rw [Ae hi] at h1 h2
  exact .inr ⟨id,o,h1,h2⟩
theorem o7C:∀ (t:Ty) {A B:Env} {oa ob oa':Objs} {cs rest:List AV} {x:den t} {vs:List Value},t.okp=true→Two n keep A B oa ob→b0A A cs vs→b2A t cs oa=some (x,rest,oa') →
  ∃ A' B' u v,g7A keep A A'∧Later keep B B'∧Two n keep A' B' oa' (a8A t x ⟨ob,B.N⟩).2.objs∧B'.N=(a8A t x ⟨ob,B.N⟩).2.next∧vs=u++v∧b0A B' (a8A t x ⟨ob,B.N⟩).1 u∧b0A A' rest v:=by
 have pure_case:∀ (t:Ty) {A B:Env} {oa ob oa':Objs} {cs rest:List AV} {x:den t} {vs:List Value},t.pure=true→Two n keep A B oa ob→b0A A cs vs→b2A t cs oa=some (x,rest,oa') →
  ∃ A' B' u v,g7A keep A A'∧Later keep B B'∧Two n keep A' B' oa' (a8A t x ⟨ob,B.N⟩).2.objs∧B'.N=(a8A t x ⟨ob,B.N⟩).2.next∧vs=u++v∧b0A B' (a8A t x ⟨ob,B.N⟩).1 u∧b0A A' rest v:=by
  intro t A B oa ob oa' cs rest x vs hp h2 hc ht
  obtain ⟨A',u,v,g,m,e,t1,c1,l1,s1⟩:=v1A t hp hc h2.ma ht
  obtain ⟨h3,hL⟩:=h2.give g m l1 s1
  rw [h9B t x _ hp]
  exact ⟨A',_,u,v,g,hL,h3,rfl,e,o3A (a2A.same (A:=A') (B:={ B with ro:=A'.ro }) (by show B.w=A'.w; rw [g.w]; exact h2.w) rfl t1),c1⟩
 intro t
 induction t with
 | own t _ =>
  intro A B oa ob oa' cs rest x vs hp h2 hc ht
  simp only [b2A] at ht
  split at ht
  ·cases ht
   obtain ⟨u,v,e,r1,r2⟩:=hc
   obtain ⟨hL,hM⟩:=w0D (ty:=t) (m:=⟨none,0,0,0,a0A t⟩) h2.mb rfl rfl rfl
   refine ⟨A,B.new B.w ⟨none,0,0,0,a0A t⟩,u,v,g7A.refl _ _,hL,⟨h2.w,h2.ro,fun id hi => ?_,Nat.le_succ_of_le h2.n,h2.ma,hM,fun b hb hx => ?_⟩,rfl,e,⟨u,[],by simp,?_,rfl⟩,r2⟩
   ·have:id≠B.N:=by have:=h2.n; omega
    simp only [Env.new,Ae this]; exact h2.M id hi
   ·rcases e9D h2.mb hx with h | h
    ·cases h
    ·exact h2.ap b hb h
   ·have r1:u=[.slice none 0 0]:=r1
    subst r1
    exact (show a6A _ _ [Value.slice none 0 0] from e1D rfl rfl)
  ·rename_i id rg r
   obtain ⟨⟨l',o'⟩,hl,ht⟩:=b4A ht
   cases ht
   obtain ⟨u,v,e2,r1,r2⟩:=hc
   have hu:∃ y,u=[y]:=by
    have:=a6A.length r1
    match u,this with
    | [y],_=>exact ⟨y,rfl⟩
   obtain ⟨y,rfl⟩:=hu
   unfold p9A at hl
   split at hl
   ·rename_i t' l hlook
    obtain ⟨l2,hcl,hl⟩:=b4A hl
    obtain ⟨rfl,e⟩:=n2A hcl
    have e:l=l2:=e
    subst e
    cases hl
    have ho:=(h2.ma.rep _ _ hlook).2
    have hlen:(A.M id).len=l.length:=ho.1
    have hwd:(A.M id).wd=a0A t':=ho.2.1
    obtain ⟨_,rr⟩:=d5B (show a3A A (.oref id rg) y from r1)
    rw [hlen] at rr
    have hrl:(h3A l rg).length=e9A l.length rg∨(A.M id).blk=none:=by
     cases hblk:(A.M id).blk with
     | none=>exact .inr rfl
     | some b =>
      rw [hblk] at rr
      obtain ⟨o,cap,_,_,h3,_⟩:=rr
      left
      rw [b8C,Ap,Ar]; omega
    cases hblk:(A.M id).blk with
    | none =>
     rw [hblk] at rr
     obtain ⟨rfl,ho0,hl0⟩:=rr
     have hx0:h3A l rg=[]:=by rw [b8C,hl0,List.take_zero]
     obtain ⟨hL,hM⟩:=w0D (ty:=t') (m:=⟨none,0,0,0,a0A t'⟩) h2.mb rfl rfl rfl
     refine ⟨A,B.new B.w ⟨none,0,0,0,a0A t'⟩,[.slice none 0 0],v,g7A.refl _ _,hL,⟨h2.w,h2.ro,fun id hi => ?_,Nat.le_succ_of_le h2.n,s0A h2.ma,?_,fun b hb hx => ?_⟩,rfl,e2,⟨_,[],(Bc _).symm,?_,rfl⟩,r2⟩
     ·have:id≠B.N:=by have:=h2.n; omega
      simp only [Env.new,Ae this]; exact h2.M id hi
     ·show a4A _ keep (a9A B.N (.arr t' (h3A l rg)) ob)
      rw [hx0]; exact hM
     ·have hx:d8A (B.new B.w ⟨none,0,0,0,a0A t'⟩) (a9A B.N (.arr t' (h3A l rg)) ob) b:=hx
      rcases e9D h2.mb hx with h | h
      ·cases h
      ·obtain ⟨j,oc,h3,h4⟩:=hb
       rw [i3A] at h3
       split at h3
       ·cases h3
       ·exact h2.ap b ⟨j,oc,h3,h4⟩ h
     ·exact (show a6A _ _ [Value.slice none 0 0] from e1D rfl rfl)
    | some b =>
     rw [hblk] at rr
     obtain ⟨o,cap,rfl,hcap1,hl3,hcap⟩:=rr
     have hll:(h3A l rg).length=e9A l.length rg:=hrl.resolve_right (by rw [hblk]; nofun)
     have hsep:=h2.ma.sep _ _ _ hlook hblk
     have hnl:¬ d8A B ob b:=h2.ap b ⟨id,_,hlook,hblk⟩
     obtain ⟨cur,ee,h5,h6,h7,h8⟩:=b0B ho hblk
     have key:∃ m:MI,m.blk=some b∧m.len=(h3A l rg).length∧m.wd=a0A t'∧(Later keep B (B.new B.w m)→c5A (B.new B.w m) m (.arr t' (h3A l rg))) ∧
       (cap=0∨o=m.base∧cap≤m.cap):=by
      rcases Nat.eq_zero_or_pos cap with hc0 | hc0
      ·subst hc0
       have hx0:h3A l rg=[]:=Br.1 (by omega)
       refine ⟨⟨some b,0,0,0,a0A t'⟩,rfl,by rw [hx0]; rfl,rfl,fun _ => ?_,.inl rfl⟩
       rw [hx0]
       exact ⟨rfl,rfl,cur,ee,by show B.w.heap[b]? = _; rw [h2.w]; exact h5,Ay _,by simp,fun i hi=>absurd hi (Ch i)⟩
      ·have hcap:=hcap.resolve_left (by omega)
       refine ⟨⟨some b,o,e9A l.length rg,cap,a0A t'⟩,rfl,hll.symm,rfl,fun hL => ?_,.inr ⟨rfl,Ay _⟩⟩
       refine ⟨hll.symm,rfl,cur,ee,by show B.w.heap[b]? = _; rw [h2.w]; exact h5,by rw [hll]; exact hcap1,?_,fun i hi => ?_⟩
       ·show o+cap*a0A t'≤cur.size
        have hcw:(d1A rg+cap)*a0A t'≤(A.M id).cap*a0A t':=Aw _ hcap.2
        rw [Ca] at hcw
        rw [hcap.1,hwd]; omega
       ·obtain ⟨_,_,ho2⟩:=ho
        rw [hblk] at ho2
        obtain ⟨vs',e',h9,_,_,h10⟩:=ho2
        rw [h5] at h9
        cases h9
        obtain ⟨cs',r3,r4⟩:=h10 (d1A rg+i) (by omega)
        refine ⟨cs',?_,fun j v hj => ?_⟩
        ·have e9:(h3A l rg)[i]=l[d1A rg+i]'(by omega):=by
          simp only [b8C,List.getElem_take,List.getElem_drop]
         rw [e9]
         exact a2A.later hL (a2A.same h2.w h2.ro r3)
        ·have:=r4 j v hj
         rw [Ca] at this
         show cur[o+i*a0A t'+j]? = some v
         rw [hcap.1,hwd,show (A.M id).base+d1A rg*a0A t'+i*a0A t'+j=(A.M id).base+(d1A rg*a0A t'+i*a0A t')+j by omega]
         exact this
     obtain ⟨m,hmb,hml,hmw,hmo,hmc⟩:=key
     obtain ⟨hL,hM⟩:=c2F h2.mb hmb (by rw [h2.ro]; exact hsep.1) hsep.2 hnl hmo
     refine ⟨A,B.new B.w m,_,v,g7A.refl _ _,hL,⟨h2.w,h2.ro,fun id hi => ?_,Nat.le_succ_of_le h2.n,s0A h2.ma,hM,fun b' hb' hx => ?_⟩,rfl,e2,⟨_,[],(Bc _).symm,?_,rfl⟩,r2⟩
     ·have:id≠B.N:=by have:=h2.n; omega
      simp only [Env.new,Ae this]; exact h2.M id hi
     ·obtain ⟨j,oc,h3,h4⟩:=hb'
      rw [i3A] at h3
      split at h3
      ·cases h3
      ·rename_i hj
       rcases e9D h2.mb hx with h | h
       ·rw [hmb] at h
        cases h
        exact hj (h2.ma.inj _ _ _ _ _ h3 hlook h4 hblk)
       ·exact h2.ap b' ⟨j,oc,h3,h4⟩ h
     ·refine ⟨Cg _,?_⟩
      have hMN:(B.new B.w m).M B.N=m:=by simp [Env.new]
      rw [hMN,hmb]
      refine ⟨o,cap,by rw [e9A,hml,hll],by rw [e9A,hml,hll]; exact hcap1,by simp [d1A,e9A],?_⟩
      rcases hmc with h | ⟨h,h'⟩
      ·exact .inl h
      ·exact .inr ⟨by simp [d1A,h],by simp [d1A]; exact h'⟩
   ·cases hl
  ·cases ht
 | pair a b iha ihb =>
  intro A B oa ob oa' cs rest x vs hp h2 hc ht
  simp only [Ty.okp,Ac] at hp
  simp only [b2A] at ht
  split at ht
  ·rename_i y cs1 oa1 ht1
   split at ht
   ·rename_i z cs2 oa2 ht2
    cases ht
    obtain ⟨A1,B1,u,v,g1,L1,T1,N1,rfl,c1,d1⟩:=iha hp.1 h2 hc ht1
    obtain ⟨A2,B2,u',v',g2,L2,T2,N2,rfl,c2,d2⟩:=ihb hp.2 T1 d1 (by rw [N1] at *; exact ht2)
    rw [N1] at T2 N2 c2
    exact ⟨A2,B2,u++u',v',g1.trans g2,L1.trans L2,T2,N2,by rw [Bz],b0A.app (b0A.later L2 c1) c2,d2⟩
   ·cases ht
  ·cases ht
 | _=>exact pure_case _
end
end Go.Rx
namespace Go.Rx
variable [Inhabited GW]
section
variable {n:Nat} {keep keep':Nat→Prop} {A B E:Env} {oa ob objs:Objs}
theorem a4A.weaker (h:a4A E keep' objs) (hk:∀ b,keep b→keep' b):a4A E keep objs:=
 ⟨h.rep,fun id oc b h1 h2=>⟨(h.sep id oc b h1 h2).1,fun hc=>(h.sep id oc b h1 h2).2 (hk b hc)⟩,h.inj,h.rob,fun b hb=>h.kb b (hk b hb),h.gl⟩
theorem Later.weaker {E':Env} (h:Later keep' E E') (hk:∀ b,keep b→keep' b):Later keep E E' :=
 ⟨h.ro,fun b hb=>(h.roN b hb).imp id fun x hc=>x (hk b hc),h.M,h.N,h.size,h.heapRo,fun b hb=>h.heapKeep b (hk b hb),h.out⟩
theorem f0D:∀ (l:List AV) (d i:Nat) (v:AV),b1A (g2A l d v) i=if i=d∧d<l.length then v else b1A l i:=by
 intro l
 induction l with
 | nil=>intro d i v; simp [g2A]
 | cons a l ih =>
  intro d i v
  cases d with
  | zero =>
   cases i with
   | zero=>simp [g2A,b1A]
   | succ i=>simp [g2A,b1A]
  | succ d =>
   cases i with
   | zero=>simp [g2A,b1A]
   | succ i =>
    simp only [g2A,b1A,ih]
    by_cases h:i=d
    ·subst h; simp
    ·rw [Ae (fun hh=>h hh.1),Ae (fun hh=>h (Nat.succ.inj hh.1))]
theorem w1D:∀ (l:List AV) (d:Nat) (v:AV),(g2A l d v).length=l.length:=by
 intro l
 induction l with
 | nil=>intro d v; cases d <;> rfl
 | cons a l ih=>intro d v; cases d with
  | zero=>rfl
  | succ d=>simp only [g2A,Be,ih]
theorem c3C {tmps:List AV} {vals:Array Value} {s:Nat} {v:AV} {x:Value} (hs:e0A E tmps vals) (hx:vals[s]? = some x) (hv:a3A E v x):e0A E (g2A tmps s v) vals:=by
 refine ⟨by rw [w1D]; exact hs.1,fun i u hu => ?_⟩
 rw [f0D]
 by_cases hi:i=s∧s<tmps.length
 ·rw [Aj hi]
  rw [hi.1,hx] at hu
  cases hu
  exact hv
 ·rw [Ae hi]; exact hs.2 i u hu
theorem d9B {tmps:List AV} {vals:Array Value} {s:Nat} (hs:e0A E tmps vals) (ht:b1A tmps s≠.top):∃ x,vals[s]? = some x∧a3A E (b1A tmps s) x:=by
 have:∀ (l:List AV) (t:Nat),l.length≤t→b1A l t=.top:=by
  intro l
  induction l with
  | nil=>intro t _; cases t <;> rfl
  | cons a l ih =>
   intro t ht
   cases t with
   | zero=>simp at ht
   | succ t=>exact ih t (by simpa using ht)
 have hlt:s<vals.size:=by
  rw [←hs.1]
  rcases Dh s tmps.length with h | h
  ·exact h
  ·exact absurd (this tmps s h) ht
 exact ⟨vals[s],Array.getElem?_eq_getElem hlt,hs.2 s _ (Array.getElem?_eq_getElem hlt)⟩
theorem w2D {id:Nat} {oc:OC} (hm:a4A E keep objs) (hid:id<E.N) (hb:(E.M id).blk=none) (hr:c5A E (E.M id) oc):a4A E keep (a9A id oc objs):=by
 refine ⟨fun j o h => ?_,fun j o b' h hb' => ?_,fun j j' o o' b' h h' h1 h2 => ?_,hm.rob,hm.kb,hm.gl⟩
 ·rw [d4A] at h
  by_cases hj:j=id
  ·rw [Aj hj] at h; cases h; rw [hj]; exact ⟨hid,hr⟩
  ·rw [Ae hj] at h; exact hm.rep _ _ h
 ·rw [d4A] at h
  by_cases hj:j=id
  ·rw [hj,hb] at hb'; cases hb'
  ·rw [Ae hj] at h; exact hm.sep _ _ _ h hb'
 ·rw [d4A] at h h'
  by_cases hj:j=id
  ·rw [hj,hb] at h1; cases h1
  ·by_cases hj':j'=id
   ·rw [hj',hb] at h2; cases h2
   ·rw [Ae hj] at h
    rw [Ae hj'] at h'
    exact hm.inj _ _ _ _ _ h h' h1 h2
def Lk (n:Nat) (A B:Env):Prop:=n≤B.N∧B.w.heap=A.w.heap∧∀ b,A.ro b→B.ro b
mutual
theorem c4C:∀ {a b:AV},f6A n a b=true→a=b∧∀ {A B:Env} {vs:List Value},(∀ id,id<n→B.M id=A.M id)→Lk n A B→a6A A b vs→a6A B a vs
 | .ptr i o,b,h=>by
  cases b <;> first
   | (simp [f6A] at h; done)
   | skip
  rename_i j p
  simp only [f6A,Ac] at h
  have h1:i=j:=Ag h.1.1
  have h2:o=p:=Ag h.1.2
  have h3:i<n:=Bx h.2
  subst h1 h2
  refine ⟨rfl,fun hM hn r => ?_⟩
  obtain ⟨_,b,r1,r2⟩:=r
  exact ⟨Bi h3 hn.1,b,by rw [hM i h3]; exact r1,r2⟩
 | .oref i r1,b,h=>by
  cases b <;> first
   | (simp [f6A] at h; done)
   | skip
  rename_i j r2
  simp only [f6A,Ac,Option.isNone_iff_eq_none] at h
  obtain ⟨⟨⟨rfl,rfl⟩,h1⟩,h3⟩:=h
  have h1:i=j:=Ag h1
  have h3:i<n:=Bx h3
  subst h1
  refine ⟨rfl,fun hM hn r => ?_⟩
  obtain ⟨_,r⟩:=r
  exact ⟨Bi h3 hn.1,by rw [hM i h3]; exact r⟩
 | .func f l m,b,h=>by
  cases b <;> first
   | (simp [f6A] at h; done)
   | skip
  rename_i f' l' m'
  simp only [f6A,Ac] at h
  have h1:f=f':=Ag h.1.1
  obtain ⟨h2,r2⟩:=o8C h.1.2
  obtain ⟨h3,r3⟩:=o8C h.2
  subst h1 h2 h3
  refine ⟨rfl,fun hM hn r => ?_⟩
  obtain ⟨X,Y,e,r4,r5⟩:=r
  exact ⟨X,Y,e,r2 hM hn r4,r3 hM hn r5⟩
 | .nilp,b,h=>by cases b <;> first | (simp [f6A] at h; done) | exact ⟨rfl,fun _ _ r=>r⟩
 | .nilf,b,h=>by cases b <;> first | (simp [f6A] at h; done) | exact ⟨rfl,fun _ _ r=>r⟩
 | .nilsl,b,h=>by cases b <;> first | (simp [f6A] at h; done) | exact ⟨rfl,fun _ _ r=>r⟩
 | .nilm,b,h=>by cases b <;> first | (simp [f6A] at h; done) | exact ⟨rfl,fun _ _ r=>r⟩
 | .nili,b,h=>by cases b <;> first | (simp [f6A] at h; done) | exact ⟨rfl,fun _ _ r=>r⟩
 | .top,b,h=>by cases b <;> simp [f6A] at h
 | .int k x,b,h=>by
  cases b <;> first
   | (simp [f6A] at h; done)
   | skip
  simp only [f6A,Ac,Au,Cw] at h
  obtain ⟨rfl,rfl⟩:=h
  exact ⟨rfl,fun _ _ r=>r⟩
 | .bool _,b,h=>by cases b <;> simp [f6A] at h
 | .str _,b,h=>by cases b <;> simp [f6A] at h
 | .sl ..,b,h=>by cases b <;> simp [f6A] at h
 | .arr ..,b,h=>by cases b <;> simp [f6A] at h
 | .ptrA ..,b,h=>by cases b <;> simp [f6A] at h
 | .ptrO ..,b,h=>by cases b <;> simp [f6A] at h
 | .ptrR ..,b,h=>by cases b <;> simp [f6A] at h
 | .mapr i,b,h=>by
  cases b <;> first
   | (simp [f6A] at h; done)
   | skip
  rename_i j
  simp only [f6A,Ac] at h
  have h1:i=j:=Ag h.1
  have h3:i<n:=Bx h.2
  subst h1
  refine ⟨rfl,fun hM hn r => ?_⟩
  obtain ⟨_,b,r1,r2⟩:=r
  exact ⟨Bi h3 hn.1,b,by rw [hM i h3]; exact r1,r2⟩
 | .cbox c,b,h=>by
  cases b <;> first
   | (simp [f6A] at h; done)
   | skip
  simp only [f6A] at h
  obtain ⟨rfl,r1⟩:=c4C h
  refine ⟨rfl,fun hM hn r => ?_⟩
  obtain ⟨b,v,e,h1,h2,h3,h4,h5⟩:=r
  exact ⟨b,v,e,h1,hn.2.2 b h2,by rw [hn.2.1]; exact h3,h4,r1 hM hn h5⟩
 | .iface ..,b,h=>by cases b <;> simp [f6A] at h
 | .agg l,b,h=>by
  cases b <;> first
   | (simp [f6A] at h; done)
   | skip
  simp only [f6A] at h
  obtain ⟨h2,_⟩:=o8C h
  subst h2
  exact ⟨rfl,fun _ _ r=>r.elim⟩
 | .tup _,b,h=>by cases b <;> simp [f6A] at h
theorem o8C:∀ {a b:List AV},u5A n a b=true→a=b∧∀ {A B:Env} {vs:List Value},(∀ id,id<n→B.M id=A.M id)→Lk n A B→e5A A b vs→e5A B a vs
 | [],b,h=>by
  cases b with
  | nil=>exact ⟨rfl,fun _ _ r=>r⟩
  | cons=>simp [u5A] at h
 | x::l,b,h=>by
  cases b with
  | nil=>simp [u5A] at h
  | cons y m =>
   simp only [u5A,Ac] at h
   obtain ⟨h1,r1⟩:=c4C h.1
   obtain ⟨h2,r2⟩:=o8C h.2
   subst h1 h2
   refine ⟨rfl,fun hM hn r => ?_⟩
   obtain ⟨v,s,e,hc,r3,r4⟩:=r
   exact ⟨v,s,e,hc,r1 hM hn r3,r2 hM hn r4⟩
end
theorem w3D:∀ {l m:List AV},u5A n l m=true→∀ {A B:Env} {vs:List Value},(∀ id,id<n→B.M id=A.M id)→Lk n A B→b0A A m vs→b0A B l vs
 | [],[],_,_,_,_,_,_,r=>r
 | a::l,b::m,h,A,B,vs,hM,hn,r=>by
  simp only [u5A,Ac] at h
  obtain ⟨h1,r1⟩:=c4C h.1
  subst h1
  obtain ⟨u,s,e,r3,r4⟩:=r
  exact ⟨u,s,e,r1 hM hn r3,w3D h.2 hM hn r4⟩
 | [],_::_,h,_,_,_,_,_,_=>by simp [u5A] at h
 | _::_,[],h,_,_,_,_,_,_=>by simp [u5A] at h
theorem c3F {a b:AV} (h:f6A n a b=true):∀ {A B:Env} {x:Value},(∀ id,id<n→B.M id=A.M id)→Lk n A B→a3A A b x→a3A B a x:=by
 intro A B x hM hn r
 obtain ⟨e,r1⟩:=c4C h
 subst e
 cases a <;> first
  | (simp [f6A] at h; done)
  | exact r1 hM hn r
  | (obtain ⟨vs,e,r⟩:=r; exact ⟨vs,e,w3D (by simpa only [f6A] using h) hM hn r⟩)
theorem o9C {nx:Nat}:∀ {bs cs:List AV} {n:Nat} {x:m6B n},hp nx bs cs n=some x→∀ {A B:Env} {vs:List Value},(∀ id,id<nx→B.M id=A.M id)→Lk nx A B→b0A A cs vs→b0A B (hu bs n x) vs
 | [],[],0,_,_,_,_,_,_,_,r=>r
 | [],[],_+1,_,h,_,_,_,_,_,_=>nomatch h
 | [],_::_,_,_,h,_,_,_,_,_,_=>nomatch h
 | _::_,[],_,_,h,_,_,_,_,_,_=>nomatch h
 | b::bs,c::cs,n,x,h,A,B,vs,hM,hn,r=>by
  obtain ⟨u,s,rfl,r1,r2⟩:=r
  unfold hp at h
  unfold hu
  cases hk:a8D b with
  | true =>
   rw [hk] at h
   dsimp only at h
   rcases c2A h with ⟨hc,h2⟩ | ⟨_,h2⟩
   ·obtain ⟨e,q⟩:=c4C hc
    exact ⟨u,s,rfl,q hM hn r1,o9C h2 hM hn r2⟩
   ·cases h2
  | false =>
   rw [hk] at h
   dsimp only at h
   split at h
   ·obtain ⟨y,h1,rfl⟩:=b4A h
    exact ⟨u,s,rfl,r1,o9C h1 hM hn r2⟩
   ·cases h
theorem i0B {id b:Nat} {oc:OC} (hm:a4A E (fun k=>keep k∨k=b) objs) (hid:id<E.N) (hb:(E.M id).blk=some b) (hk:¬ keep b) (hro:¬ E.ro b) (hr:c5A E (E.M id) oc) :
  a4A E keep (a9A id oc objs):=by
 refine ⟨fun j o h => ?_,fun j o b' h hb' => ?_,fun j j' o o' b' h h' h1 h2 => ?_,hm.rob,fun b' hb'=>hm.kb b' (.inl hb'),hm.gl⟩
 ·rw [d4A] at h
  by_cases hj:j=id
  ·rw [Aj hj] at h; cases h; rw [hj]; exact ⟨hid,hr⟩
  ·rw [Ae hj] at h; exact hm.rep _ _ h
 ·rw [d4A] at h
  by_cases hj:j=id
  ·rw [hj,hb] at hb'; cases hb'; exact ⟨hro,hk⟩
  ·rw [Ae hj] at h
   exact ⟨(hm.sep _ _ _ h hb').1,fun hc=>(hm.sep _ _ _ h hb').2 (.inl hc)⟩
 ·rw [d4A] at h h'
  by_cases hj:j=id <;> by_cases hj':j'=id
  ·rw [hj,hj']
  ·rw [hj,hb] at h1
   cases h1
   rw [Ae hj'] at h'
   exact absurd (.inr rfl) (hm.sep _ _ _ h' h2).2
  ·rw [hj',hb] at h2
   cases h2
   rw [Ae hj] at h
   exact absurd (.inr rfl) (hm.sep _ _ _ h h1).2
  ·rw [Ae hj] at h
   rw [Ae hj'] at h'
   exact hm.inj _ _ _ _ _ h h' h1 h2
theorem c5C {t:Ty} {x:den t} {m:Mem} (h:t.scalar=true):∃ c,(a8A t x m).1=[c]∧i6A c=true:=by
 cases t <;> first
  | (simp [Ty.scalar] at h; done)
  | exact ⟨_,rfl,rfl⟩
theorem f1D {t:Bool×Ty} {v:AV} {xv:Value} {x:den t.2} {oa1:Objs} (h:Two n keep A B oa ob) (hrep:a3A A v xv) (hx:k8A t v oa=some (x,oa1)) :
  ∃ A' B',g7A keep A A'∧Later keep B B'∧Two n keep A' B' oa1 (i4A t x ⟨ob,B.N⟩).2.objs∧B'.N=(i4A t x ⟨ob,B.N⟩).2.next∧d6A B' (i4A t x ⟨ob,B.N⟩).1 xv:=by
 obtain ⟨agg,t⟩:=t
 rcases c2A hx with ⟨hc,hx⟩ | ⟨_,hx⟩
 ·simp only [Ac] at hc
  obtain ⟨⟨hokp,hfit⟩,hag⟩:=hc
  unfold j6A at hx
  split at hx
  ·rename_i cs hcs
   split at hx
   ·rename_i x' oa2 hto
    cases hx
    obtain ⟨A1,B1,u,w,g,L,T1,N1,e,c1,c2⟩:=o7C t hokp h (y6A hrep hcs) hto
    rw [show w=[] from c2,Bc] at e
    subst e
    refine ⟨A1,B1,g,L,T1,N1,?_⟩
    show d6A B1 (if agg then .agg (a8A t x ⟨ob,B.N⟩).1 else o7A (a8A t x ⟨ob,B.N⟩).1) xv
    cases agg with
    | true =>
     cases v <;> first
      | (simp [o1A] at hfit; done)
      | skip
     obtain ⟨vs,rfl,_⟩:=hrep
     exact ⟨vs,rfl,by simpa [Value.cells] using c1⟩
    | false =>
     have hsc:t.scalar=true:=by simpa using hag
     obtain ⟨c,ec,hcell⟩:=c5C (x:=x) (m:=⟨ob,B.N⟩) hsc
     rw [ec] at c1 ⊢
     have hone:xv.cells = #[xv]:=by
      cases v <;> first
       | (simp [o1A] at hfit; done)
       | (simp [k3A] at hcs; done)
       | exact d9D (a6A.one (E:=A) (show a6A A _ [xv] from hrep) xv (by simp))
     rw [hone] at c1
     obtain ⟨u,r,e,c3,c4⟩:=c1
     rw [show r=[] from c4,Bc] at e
     have e:u=[xv]:=e.symm
     rw [e] at c3
     show d6A B1 c xv
     cases c <;> first
      | (simp [i6A] at hcell; done)
      | exact c3
   ·cases hx
  ·cases hx
 ·cases hx
theorem c4F {t:Bool×Ty} {oa oa1:Objs} {x:den t.2} (h:k8A t .top oa=some (x,oa1)):False:=by
 rcases c2A h with ⟨_,h⟩ | ⟨_,h⟩ <;> cases h
theorem Two.swap {n:Nat} {A B:Env} {oa ob:Objs} {id b:Nat} {oc oc':OC} (h:Two n keep A B oa ob) (hid:id<n) (hl:a1A id oa=some oc) (hb:(A.M id).blk=some b) (hr:(B.M id).blk=some b→c5A B (B.M id) oc') :
  Nonempty (PLift (Two n keep A B (b9A id oa) (a9A id oc' ob))):=by
 have hsep:=h.ma.sep _ _ _ hl hb
 have hnl:¬ d8A B ob b:=h.ap b ⟨id,_,hl,hb⟩
 have hdrop:∀ {j oc},a1A j (b9A id oa)=some oc→a1A j oa=some oc∧j≠id:=by
  intro j oc hj
  rw [i3A] at hj
  by_cases e:j=id
  ·rw [Aj e] at hj; cases hj
  ·rw [Ae e] at hj; exact ⟨hj,e⟩
 have hblt:b<A.w.heap.size:=j8A (h.ma.rep _ _ hl).2 hb
 have hB1:(B.M id).blk=some b:=by rw [h.M id hid]; exact hb
 have hro1:¬ B.ro b:=by rw [h.ro]; exact hsep.1
 have hMB:a4A B (fun k=>keep k∨k=b) ob:=
  ⟨h.mb.rep,fun j oc b' hj hb'=>⟨(h.mb.sep _ _ _ hj hb').1,fun hc=>hc.elim (h.mb.sep _ _ _ hj hb').2 fun e=>hnl ⟨j,oc,hj,e▸hb'⟩⟩,h.mb.inj,h.mb.rob,
   fun b' hb'=>hb'.elim (h.mb.kb b') fun e=>by rw [e,h.w]; exact hblt,h.mb.gl⟩
 have hput:=i0B hMB (Bi hid h.n) hB1 hsep.2 hro1 (hr hB1)
 exact ⟨⟨⟨h.w,h.ro,h.M,h.n,s0A h.ma,hput,fun b' hb' hx'=>by
  obtain ⟨j,oc,h1,h2⟩:=hx'
  obtain ⟨j',oc',h3,h4⟩:=hb'
  rw [d4A] at h1
  by_cases e:j=id
  ·rw [e,hB1] at h2
   cases h2
   exact (hdrop h3).2 (h.ma.inj _ _ _ _ b (hdrop h3).1 hl h4 hb)
  ·rw [Ae e] at h1
   exact h.ap b' ⟨j',oc',(hdrop h3).1,h4⟩ ⟨j,oc,h1,h2⟩⟩⟩⟩
theorem Two.swap0 {n:Nat} {A B:Env} {oa ob:Objs} {id:Nat} {oc oc':OC} (h:Two n keep A B oa ob) (hid:id<n) (hl:a1A id oa=some oc) (hr:c5A B (B.M id) oc'):Nonempty (PLift (Two n keep A B (b9A id oa) (a9A id oc' ob))):=by
 cases hb:(A.M id).blk with
 | some b=>exact h.swap hid hl hb fun _=>hr
 | none =>
  have hdrop:∀ {j oc},a1A j (b9A id oa)=some oc→a1A j oa=some oc∧j≠id:=by
   intro j oc hj
   rw [i3A] at hj
   by_cases e:j=id
   ·rw [Aj e] at hj; cases hj
   ·rw [Ae e] at hj; exact ⟨hj,e⟩
  have hB1:(B.M id).blk=none:=by rw [h.M id hid]; exact hb
  refine ⟨⟨⟨h.w,h.ro,h.M,h.n,s0A h.ma,w2D h.mb (Bi hid h.n) hB1 hr,fun b' hb' hx' => ?_⟩⟩⟩
  obtain ⟨j,oc,h1,h2⟩:=hx'
  obtain ⟨j',oc',h3,h4⟩:=hb'
  rw [d4A] at h1
  by_cases e:j=id
  ·rw [e,hB1] at h2; cases h2
  ·rw [Ae e] at h1
   exact h.ap b' ⟨j',oc',(hdrop h3).1,h4⟩ ⟨j,oc,h1,h2⟩
theorem v2A {base:St} {tmps:List AV} {a:Act}:∀ (sp:u4A) {A B:Env} {oa:Objs} {S:St} {p:PT sp},Two base.next keep A B oa S.objs→B.N=S.next→e0A A tmps a.tmps→e0A B S.tmps a.tmps →
  d0A base tmps sp oa=some p→∃ B',B'.w=B.w∧Later keep B B'∧a4A B' keep (c0A base sp p S).objs∧e0A B' (c0A base sp p S).tmps a.tmps∧B'.N=(c0A base sp p S).next
 | [],A,B,oa,S,p,h,hN,hA,hB,hp=>⟨B,rfl,Later.refl _ _,h.mb,hB,hN⟩
 | .slot s agg t::sp,A,B,oa,S,p,h,hN,hA,hB,hp=>by
  simp only [d0A] at hp
  split at hp
  ·rename_i x oa1 hx
   have hnt:b1A tmps s≠.top:=fun e=>by rw [e] at hx; exact c4F hx
   obtain ⟨xv,hxv,hrep⟩:=d9B hA hnt
   obtain ⟨A1,B1,g,L,T1,N1,hnew⟩:=f1D h hrep hx
   rw [hN] at T1 N1 hnew
   cases hpk:d0A base tmps sp oa1 with
   | none=>rw [hpk] at hp; cases hp
   | some y =>
    rw [hpk] at hp
    cases hp
    obtain ⟨B2,w2,L2,M2,S2,N2⟩:=v2A sp (S:={ tmps:=g2A S.tmps s (if agg then .agg (a8A t x ⟨S.objs,S.next⟩).1 else o7A (a8A t x ⟨S.objs,S.next⟩).1),objs:=(a8A t x ⟨S.objs,S.next⟩).2.objs,next:=(a8A t x ⟨S.objs,S.next⟩).2.next })
     T1 N1 (⟨hA.1,fun i v hv=>a3A.later g.later (hA.2 i v hv)⟩) (c3C ⟨hB.1,fun i v hv=>a3A.later L (hB.2 i v hv)⟩ hxv hnew.toS) hpk
    exact ⟨B2,w2.trans (by rw [T1.w,g.w]; exact h.w.symm),L.trans L2,M2,S2,N2⟩
  ·cases hp
 | .keep s s0::sp,A,B,oa,S,p,h,hN,hA,hB,hp=>by
  simp only [d0A] at hp
  rcases c2A hp with ⟨hs,hp⟩ | ⟨_,hp⟩
  ·have hnt:b1A tmps s≠.top:=fun e=>by rw [e] at hs; cases b1A base.tmps s0 <;> simp [f6A] at hs
   obtain ⟨xv,hxv,hrep⟩:=d9B hA hnt
   have hnew:=c3F hs h.M ⟨h.n,by rw [h.w],fun b hb=>by rw [h.ro]; exact hb⟩ hrep
   exact v2A sp (S:={ S with tmps:=g2A S.tmps s (b1A base.tmps s0) }) h hN hA (c3C hB hxv hnew) hp
  ·cases hp
 | .nbox s t::sp,A,B,oa,S,p,h,hN,hA,hB,hp=>by
  simp only [d0A] at hp
  split at hp
  ·rename_i id hsl
   split at hp
   ·rename_i cs hl
    split at hp
    ·rename_i x oa1 hx
     rcases c2A hx with ⟨hc,hto⟩ | ⟨_,hx⟩
     ·obtain ⟨xv,hxv,hrep⟩:=d9B hA (s:=s) (by rw [hsl]; nofun)
      rw [hsl] at hrep
      obtain ⟨_,b,hbv,hxe⟩:=(show a6A A (.ptr id 0) [xv] from hrep)
      have hxe:xv=.pointer (some ⟨b,0,none⟩):=by simpa using hxe
      obtain ⟨_,b2,cur,e,hb,hg,hcr⟩:=h.ma.rep _ _ hl
      have hbe:b2=b:=by rw [hbv] at hb; exact (Bp hb).symm
      rw [hbe] at hg
      clear hb hbe
      have hsep:=h.ma.sep _ _ _ hl hbv
      have hnl:¬ d8A B S.objs b:=h.ap b ⟨id,_,hl,hbv⟩
      have hdrop:∀ {j oc},a1A j (b9A id oa)=some oc→a1A j oa=some oc∧j≠id:=by
       intro j oc hj
       rw [i3A] at hj
       by_cases e:j=id
       ·rw [Aj e] at hj; cases hj
       ·rw [Ae e] at hj; exact ⟨hj,e⟩
      have hblt:b<A.w.heap.size:=j8A (h.ma.rep _ _ hl).2 hbv
      have T0:Two base.next (fun k=>keep k∨k=b) A B (b9A id oa) S.objs:=
       ⟨h.w,h.ro,h.M,h.n,
        ⟨fun j oc hj=>h.ma.rep _ _ (hdrop hj).1,fun j oc b' hj hb'=>⟨(h.ma.sep _ _ _ (hdrop hj).1 hb').1,fun hc=>hc.elim (h.ma.sep _ _ _ (hdrop hj).1 hb').2 fun e=>(hdrop hj).2 (h.ma.inj _ _ _ _ b (hdrop hj).1 hl (e▸hb') hbv)⟩,
         fun j j' o o' b' hj hj'=>h.ma.inj _ _ _ _ _ (hdrop hj).1 (hdrop hj').1,h.ma.rob,fun b' hb'=>hb'.elim (h.ma.kb b') fun e=>e▸hblt,h.ma.gl⟩,
        ⟨h.mb.rep,fun j oc b' hj hb'=>⟨(h.mb.sep _ _ _ hj hb').1,fun hc=>hc.elim (h.mb.sep _ _ _ hj hb').2 fun e=>hnl ⟨j,oc,hj,e▸hb'⟩⟩,h.mb.inj,h.mb.rob,
         fun b' hb'=>hb'.elim (h.mb.kb b') fun e=>by rw [e,h.w]; exact hblt,h.mb.gl⟩,
        fun b' hb'=>h.ap b' (by obtain ⟨j,oc,h1,h2⟩:=hb'; exact ⟨j,oc,(hdrop h1).1,h2⟩)⟩
      obtain ⟨A1,B1,u,v,g,L,T1,N1,e',c1,c2⟩:=o7C t hc T0 hcr hto
      rw [show v=[] from c2,Bc] at e'
      rw [hN] at T1 N1 c1
      have hw1:B1.w=A.w:=by rw [T1.w]; exact g.w
      have hro1:¬ B1.ro b:=fun hc=>(L.roN b hc).elim (fun hc=>hsep.1 (by rw [←h.ro]; exact hc)) fun hc=>hc (.inr rfl)
      let B2:Env:=B1.new B1.w ⟨some b,0,0,0,0⟩
      have L2:Later (fun k=>keep k∨k=b) B1 B2:=⟨fun _ h=>h,fun _ h=>.inl h,fun id hi=>by simp [B2,Env.new,El hi],Ej _,Ay _,fun _ _=>rfl,fun _ _=>rfl,e1A.refl _⟩
      have hM2:∀ j oc,a1A j (a8A t x ⟨S.objs,S.next⟩).2.objs=some oc→B2.M j=B1.M j:=fun j oc hj=>L2.M j (T1.mb.rep _ _ hj).1
      have hMB:a4A B2 (fun k=>keep k∨k=b) (a8A t x ⟨S.objs,S.next⟩).2.objs:=
       ⟨fun j oc hj=>⟨Eh (T1.mb.rep _ _ hj).1,by rw [hM2 j oc hj]; exact c5A.later L2 (fun _ _=>rfl) (T1.mb.rep _ _ hj).2⟩,
        fun j oc b' hj hb'=>T1.mb.sep j oc b' hj (by rw [←hM2 j oc hj]; exact hb'),fun j j' o o' b' hj hj' h1 h2=>T1.mb.inj j j' o o' b' hj hj' (by rw [←hM2 j o hj]; exact h1) (by rw [←hM2 j' o' hj']; exact h2),T1.mb.rob,T1.mb.kb,T1.mb.gl.later L2⟩
      have hMN:B2.M B1.N=⟨some b,0,0,0,0⟩:=by simp [B2,Env.new]
      have hput:=i0B (oc:=.box (a8A t x ⟨S.objs,S.next⟩).1) hMB (Cg B1.N) (by rw [hMN]) hsep.2 hro1
       ⟨b,cur,e,by rw [hMN],by show B1.w.heap[b]? = _; rw [hw1]; exact hg,by rw [e']; exact b0A.later L2 c1⟩
      have Lk:=(L.trans L2).weaker (keep:=keep) fun _ h=>.inl h
      cases hpk:d0A base tmps sp oa1 with
      | none=>rw [hpk] at hp; cases hp
      | some y =>
       rw [hpk] at hp
       cases hp
       have T2:Two base.next keep A1 B2 oa1 (a9A B1.N (.box (a8A t x ⟨S.objs,S.next⟩).1) (a8A t x ⟨S.objs,S.next⟩).2.objs):=
        ⟨T1.w,T1.ro,fun j hj=>(L2.M j (Bi hj T1.n)).trans (T1.M j hj),Nat.le_succ_of_le T1.n,T1.ma.weaker fun _ h=>.inl h,hput,fun b' hb' hx'=>by
         obtain ⟨j,oc,h1,h2⟩:=hx'
         rw [d4A] at h1
         by_cases e:j=B1.N
         ·rw [e,hMN] at h2
          cases h2
          obtain ⟨j',oc',h3,h4⟩:=hb'
          exact (T1.ma.sep _ _ _ h3 h4).2 (.inr rfl)
         ·rw [Ae e] at h1
          exact T1.ap b' hb' ⟨j,oc,h1,by rw [←hM2 j oc h1]; exact h2⟩⟩
       have gk:=g.later.weaker (keep:=keep) fun _ h=>.inl h
       have hnew:a3A B2 (.ptr B1.N 0) xv:=by
        rw [hxe]
        exact ⟨Cg _,b,by rw [hMN],rfl⟩
       rw [N1] at T2 hnew
       obtain ⟨B3,w3,L3,M3,S3,N3⟩:=v2A sp (S:={ tmps:=g2A S.tmps s (.ptr (a8A t x ⟨S.objs,S.next⟩).2.next 0),objs:=a9A (a8A t x ⟨S.objs,S.next⟩).2.next (.box (a8A t x ⟨S.objs,S.next⟩).1) (a8A t x ⟨S.objs,S.next⟩).2.objs,next:=(a8A t x ⟨S.objs,S.next⟩).2.next+1 })
        T2 (by show B1.N+1=_; rw [N1]) (⟨hA.1,fun i v hv=>a3A.later gk (hA.2 i v hv)⟩) (c3C ⟨hB.1,fun i v hv=>a3A.later Lk (hB.2 i v hv)⟩ hxv hnew) hpk
       exact ⟨B3,w3.trans ((show B2.w=B1.w from rfl).trans (hw1.trans h.w.symm)),Lk.trans L3,M3,S3,N3⟩
     ·cases hx
    ·cases hp
   ·cases hp
  ·cases hp
 | .iter s::sp,A,B,oa,S,p,h,hN,hA,hB,hp=>by
  simp only [d0A] at hp
  cases hbx:x8A base s with
  | none=>rw [hbx] at hp; cases hp
  | some id =>
  rw [hbx] at hp
  dsimp only at hp
  split at hp
  ·rename_i str q hl
   rcases c2A hp with ⟨hc,hp⟩ | ⟨_,hp⟩
   ·have hid:id<base.next:=Bx hc
    obtain ⟨y,hpk,rfl⟩:=b4A hp
    obtain ⟨_,b,hb,hg⟩:=h.ma.rep _ _ hl
    have hsep:=h.ma.sep _ _ _ hl hb
    have hnl:¬ d8A B S.objs b:=h.ap b ⟨id,_,hl,hb⟩
    have hdrop:∀ {j oc},a1A j (b9A id oa)=some oc→a1A j oa=some oc∧j≠id:=by
     intro j oc hj
     rw [i3A] at hj
     by_cases e:j=id
     ·rw [Aj e] at hj; cases hj
     ·rw [Ae e] at hj; exact ⟨hj,e⟩
    have hblt:b<A.w.heap.size:=j8A (h.ma.rep _ _ hl).2 hb
    have hB1:(B.M id).blk=some b:=by rw [h.M id hid]; exact hb
    have hro1:¬ B.ro b:=by rw [h.ro]; exact hsep.1
    have hMB:a4A B (fun k=>keep k∨k=b) S.objs:=
     ⟨h.mb.rep,fun j oc b' hj hb'=>⟨(h.mb.sep _ _ _ hj hb').1,fun hc=>hc.elim (h.mb.sep _ _ _ hj hb').2 fun e=>hnl ⟨j,oc,hj,e▸hb'⟩⟩,h.mb.inj,h.mb.rob,
      fun b' hb'=>hb'.elim (h.mb.kb b') fun e=>by rw [e,h.w]; exact hblt,h.mb.gl⟩
    have hput:=i0B (oc:=.iter str q) hMB (Bi hid h.n) hB1 hsep.2 hro1 ⟨b,hB1,by rw [h.w]; exact hg⟩
    have T2:Two base.next keep A B (b9A id oa) (a9A id (.iter str q) S.objs):=
     ⟨h.w,h.ro,h.M,h.n,s0A h.ma,hput,fun b' hb' hx'=>by
      obtain ⟨j,oc,h1,h2⟩:=hx'
      obtain ⟨j',oc',h3,h4⟩:=hb'
      rw [d4A] at h1
      by_cases e:j=id
      ·rw [e,hB1] at h2
       cases h2
       exact (hdrop h3).2 (h.ma.inj _ _ _ _ b (hdrop h3).1 hl h4 hb)
      ·rw [Ae e] at h1
       exact h.ap b' ⟨j',oc',(hdrop h3).1,h4⟩ ⟨j,oc,h1,h2⟩⟩
    obtain ⟨B2,w2,L2,M2,S2,N2⟩:=v2A sp (S:={ S with objs:=a9A id (.iter str q) S.objs }) T2 hN hA hB hpk
    simp only [c0A,hbx]
    exact ⟨B2,w2,L2,M2,S2,N2⟩
   ·cases hp
  ·cases hp
 | .mp s k v::sp,A,B,oa,S,p,h,hN,hA,hB,hp=>by
  simp only [d0A] at hp
  cases hbx:a6D base s with
  | none=>rw [hbx] at hp; cases hp
  | some id =>
  rw [hbx] at hp
  dsimp only at hp
  split at hp
  ·rename_i k' v' es ck hl
   split at hp
   ·rename_i es' hes
    unfold mpC at hes
    split at hes
    ·rename_i hkv
     obtain ⟨rfl,rfl⟩:=hkv
     cases hes
     rcases c2A hp with ⟨hc,hp⟩ | ⟨_,hp⟩
     ·rw [Ac] at hc
      have hid:id<base.next:=Bx hc.1
      obtain ⟨y,hpk,rfl⟩:=b4A hp
      obtain ⟨_,b,ms,hb,hg,hms⟩:=h.ma.rep _ _ hl
      obtain ⟨⟨T2⟩⟩:=h.swap (oc':=.mp k' v' es ck) hid hl hb (fun hB1=>⟨b,ms,hB1,by rw [h.w]; exact hg,hms.same h.w h.ro⟩)
      obtain ⟨B2,w2,L2,M2,S2,N2⟩:=v2A sp (S:={ S with objs:=a9A id (.mp k' v' es ck) S.objs }) T2 hN hA hB hpk
      simp only [c0A,hbx]
      exact ⟨B2,w2,L2,M2,S2,N2⟩
     ·cases hp
    ·cases hes
   ·cases hp
  ·cases hp
 | .hob s t u n::sp,A,B,oa,S,p,h,hN,hA,hB,hp=>by
  simp only [d0A] at hp
  cases hbx:r4A base s with
  | none=>rw [hbx] at hp; cases hp
  | some id =>
  rw [hbx] at hp
  dsimp only at hp
  split at hp
  ·rename_i t0 l0 g0 bs far0 t' l g cs far hbs hl
   split at hp
   ·cases hp
   ·rename_i j hj
    split at hp
    ·rename_i u' m hlj
     split at hp
     ·rename_i l1 m1 x hcl hcm hx
      obtain ⟨rfl,e1⟩:=n2A hcl
      obtain ⟨rfl,e2⟩:=n2A hcm
      have e1:l=l1:=e1
      have e2:m=m1:=e2
      subst e1 e2
      rcases c2A hp with ⟨hc,hp2⟩ | ⟨_,hp2⟩
      ·simp only [Ac,Ew] at hc
       obtain ⟨⟨⟨hid,hjd⟩,_⟩,hne⟩:=hc
       have hid:id<base.next:=Bx hid
       have hjd:j<base.next:=Bx hjd
       have hne:j≠id:=fun e=>by rw [e,Cn] at hne; cases hne
       have hp':oM (d0A base tmps sp (b9A j (b9A id oa))) (fun y=>(((l,(g,(x,m))),y):(List (den t')×(Nat×(m6B n×List (den u'))))×PT sp))=some p:=hp2
       obtain ⟨y,hpk,rfl⟩:=b4A hp'
       obtain ⟨o1,o2,b,vs,e,hb,hg,o3,o4,o5,o6,o7,us,o8,o9⟩:=(h.ma.rep _ _ hl).2
       obtain ⟨⟨T2⟩⟩:=h.swap (oc':=.hol t' l g (hu bs n x) far0) hid hl hb (fun hB1=>by
        have hM:B.M id=A.M id:=h.M id hid
        rw [hM]
        refine ⟨o1,o2,b,vs,e,hb,by rw [h.w]; exact hg,o3,o4,o5,o6,fun i hi hig => ?_,us,o9C hx h.M ⟨h.n,by rw [h.w],fun b hb=>by rw [h.ro]; exact hb⟩ o8,o9⟩
        obtain ⟨us2,r1,r2⟩:=o7 i hi hig
        exact ⟨us2,a2A.same h.w h.ro r1,r2⟩)
       have hlj2:a1A j (b9A id oa)=some (.arr u' m):=by rw [i3A,Ae hne]; exact hlj
       have hMj:=T2.M j hjd
       have hoB:c5A B (B.M j) (.arr u' m):=by
        obtain ⟨q1,q2,q3⟩:=(h.ma.rep _ _ hlj).2
        rw [hMj]
        refine ⟨q1,q2,?_⟩
        cases hbj:(A.M j).blk with
        | none=>rw [hbj] at q3; exact q3
        | some bj =>
         rw [hbj] at q3
         obtain ⟨vs2,e2,q4,q5,q6,q7⟩:=q3
         refine ⟨vs2,e2,by rw [h.w]; exact q4,q5,q6,fun i hi => ?_⟩
         obtain ⟨cs2,r1,r2⟩:=q7 i hi
         exact ⟨cs2,a2A.same h.w h.ro r1,r2⟩
       obtain ⟨⟨T3⟩⟩:=T2.swap0 (oc':=.arr u' m) hjd hlj2 hoB
       obtain ⟨B2,w2,L2,M2,S2,N2⟩:=v2A sp (S:={ S with objs:=a9A j (.arr u' m) (a9A id (.hol t' l g (hu bs n x) far0) S.objs) }) T3 hN hA hB hpk
       simp only [c0A,hbx,hbs,hj]
       exact ⟨B2,w2,L2,M2,S2,N2⟩
      ·cases hp2
     ·cases hp
    ·cases hp
  ·cases hp
 | .pto s::sp,A,B,oa,S,p,h,hN,hA,hB,hp=>by
  simp only [d0A] at hp
  split at hp
  ·rename_i id k0 sub id' k sub' h0 h1
   rcases c2A hp with ⟨hc,hp2⟩ | ⟨_,hp2⟩
   ·simp only [Ac] at hc
    obtain ⟨c1,c2,c3⟩:=hc
    have c1:=Ag c1
    have c2:=Ag c2
    have c3:id<base.next:=Bx c3
    subst c1 c2
    have hp':oM (d0A base tmps sp oa) (fun y=>((k,y):Nat×PT sp))=some p:=hp2
    obtain ⟨y,hpk,rfl⟩:=b4A hp'
    obtain ⟨xv,hxv,hxr⟩:=d9B hA (s:=s) (by rw [h1]; nofun)
    rw [h1] at hxr
    have hnew:a3A B (.ptrO id k sub) xv:=by
     obtain ⟨_,q1,b,q2,q3⟩:=n4B hxr
     have hM:=h.M id c3
     refine ⟨Bi c3 h.n,by rw [hM]; exact q1,b,by rw [hM]; exact q2,?_⟩
     rw [hM,q3]
    obtain ⟨B2,w2,L2,M2,S2,N2⟩:=v2A sp (S:={ S with tmps:=g2A S.tmps s (.ptrO id k sub) }) h hN hA (c3C hB hxv hnew) hpk
    simp only [c0A,h0]
    exact ⟨B2,w2,L2,M2,S2,N2⟩
   ·cases hp2
  ·cases hp
 | .mit s::sp,A,B,oa,S,p,h,hN,hA,hB,hp=>by
  simp only [d0A] at hp
  cases hbx:a7D base s with
  | none=>rw [hbx] at hp; cases hp
  | some q =>
  rw [hbx] at hp
  dsimp only at hp
  split at hp
  ·rename_i m since seen last hl
   rcases c2A hp with ⟨hc,hp2⟩ | ⟨_,hp⟩
   ·simp only [Ac] at hc
    have hm:m=q.2:=Ag hc.1
    have hid:q.1<base.next:=Bx hc.2.1
    have hid2:q.2<base.next:=Bx hc.2.2
    subst hm
    have hp':oM (d0A base tmps sp (b9A q.1 oa)) (fun y=>(((since,(seen,last)),y):(Nat×(List Nat×Nat))×PT sp))=some p:=hp2
    obtain ⟨y,hpk,rfl⟩:=b4A hp'
    obtain ⟨_,b,mb,hb,h1,h2,hg⟩:=h.ma.rep _ _ hl
    obtain ⟨⟨T2⟩⟩:=h.swap (oc':=.mit q.2 since seen last) hid hl hb (fun hB1=>⟨b,mb,hB1,Bi hid2 h.n,by rw [h.M _ hid2]; exact h2,by rw [h.w]; exact hg⟩)
    obtain ⟨B2,w2,L2,M2,S2,N2⟩:=v2A sp (S:={ S with objs:=a9A q.1 (.mit q.2 since seen last) S.objs }) T2 hN hA hB hpk
    simp only [c0A,hbx]
    exact ⟨B2,w2,L2,M2,S2,N2⟩
   ·cases hp
  ·cases hp
 | .hbox s n::sp,A,B,oa,S,p,h,hN,hA,hB,hp=>by
  simp only [d0A] at hp
  cases hbx:x8A base s with
  | none=>rw [hbx] at hp; cases hp
  | some id =>
  rw [hbx] at hp
  dsimp only at hp
  split at hp
  ·rename_i bs hbs
   split at hp
   ·rename_i cs hl
    split at hp
    ·rename_i x hx
     rcases c2A hp with ⟨hc,hp⟩ | ⟨_,hp⟩
     ·have hid:id<base.next:=Bx hc
      obtain ⟨y,hpk,rfl⟩:=b4A hp
      obtain ⟨_,b,cur,e,hb,hg,hcr⟩:=h.ma.rep _ _ hl
      have hsep:=h.ma.sep _ _ _ hl hb
      have hnl:¬ d8A B S.objs b:=h.ap b ⟨id,_,hl,hb⟩
      have hdrop:∀ {j oc},a1A j (b9A id oa)=some oc→a1A j oa=some oc∧j≠id:=by
       intro j oc hj
       rw [i3A] at hj
       by_cases e:j=id
       ·rw [Aj e] at hj; cases hj
       ·rw [Ae e] at hj; exact ⟨hj,e⟩
      have hblt:b<A.w.heap.size:=j8A (h.ma.rep _ _ hl).2 hb
      have hB1:(B.M id).blk=some b:=by rw [h.M id hid]; exact hb
      have hro1:¬ B.ro b:=by rw [h.ro]; exact hsep.1
      have hMB:a4A B (fun k=>keep k∨k=b) S.objs:=
       ⟨h.mb.rep,fun j oc b' hj hb'=>⟨(h.mb.sep _ _ _ hj hb').1,fun hc=>hc.elim (h.mb.sep _ _ _ hj hb').2 fun e=>hnl ⟨j,oc,hj,e▸hb'⟩⟩,h.mb.inj,h.mb.rob,
        fun b' hb'=>hb'.elim (h.mb.kb b') fun e=>by rw [e,h.w]; exact hblt,h.mb.gl⟩
      have hput:=i0B (oc:=.box (hu bs n x)) hMB (Bi hid h.n) hB1 hsep.2 hro1 ⟨b,cur,e,hB1,by rw [h.w]; exact hg,o9C hx h.M ⟨h.n,by rw [h.w],fun b hb=>by rw [h.ro]; exact hb⟩ hcr⟩
      have T2:Two base.next keep A B (b9A id oa) (a9A id (.box (hu bs n x)) S.objs):=
       ⟨h.w,h.ro,h.M,h.n,s0A h.ma,hput,fun b' hb' hx'=>by
        obtain ⟨j,oc,h1,h2⟩:=hx'
        obtain ⟨j',oc',h3,h4⟩:=hb'
        rw [d4A] at h1
        by_cases e:j=id
        ·rw [e,hB1] at h2
         cases h2
         exact (hdrop h3).2 (h.ma.inj _ _ _ _ b (hdrop h3).1 hl h4 hb)
        ·rw [Ae e] at h1
         exact h.ap b' ⟨j',oc',(hdrop h3).1,h4⟩ ⟨j,oc,h1,h2⟩⟩
      obtain ⟨B2,w2,L2,M2,S2,N2⟩:=v2A sp (S:={ S with objs:=a9A id (.box (hu bs n x)) S.objs }) T2 hN hA hB hpk
      simp only [c0A,hbx,hbs]
      exact ⟨B2,w2,L2,M2,S2,N2⟩
     ·cases hp
    ·cases hp
   ·cases hp
  ·cases hp
 | .aob s t::sp,A,B,oa,S,p,h,hN,hA,hB,hp=>by
  simp only [d0A] at hp
  cases hbx:r4A base s with
  | none=>rw [hbx] at hp; cases hp
  | some id =>
  rw [hbx] at hp
  dsimp only at hp
  split at hp
  ·rename_i t' l hl
   split at hp
   ·rename_i l' hcl
    obtain ⟨rfl,e0⟩:=n2A hcl
    have e0:l=l':=e0
    subst e0
    rcases c2A hp with ⟨hc,hp⟩ | ⟨_,hp⟩
    ·rw [Ac] at hc
     have hid:id<base.next:=Bx hc.1
     obtain ⟨y,hpk,rfl⟩:=b4A hp
     have ho:=(h.ma.rep _ _ hl).2
     have hMi:=h.M id hid
     have hdrop:∀ {j oc},a1A j (b9A id oa)=some oc→a1A j oa=some oc∧j≠id:=by
      intro j oc hj
      rw [i3A] at hj
      by_cases e:j=id
      ·rw [Aj e] at hj; cases hj
      ·rw [Ae e] at hj; exact ⟨hj,e⟩
     have hoB:c5A B (B.M id) (.arr t' l):=by
      obtain ⟨o1,o2,o3⟩:=ho
      rw [hMi]
      refine ⟨o1,o2,?_⟩
      cases hb:(A.M id).blk with
      | none=>rw [hb] at o3; exact o3
      | some b =>
       rw [hb] at o3
       obtain ⟨vs,e,o4,o5,o6,o7⟩:=o3
       refine ⟨vs,e,by rw [h.w]; exact o4,o5,o6,fun i hi => ?_⟩
       obtain ⟨cs,r1,r2⟩:=o7 i hi
       exact ⟨cs,a2A.same h.w h.ro r1,r2⟩
     have hput:a4A B keep (a9A id (.arr t' l) S.objs):=by
      cases hb:(A.M id).blk with
      | none=>exact w2D h.mb (Bi hid h.n) (by rw [hMi]; exact hb) hoB
      | some b =>
       have hsep:=h.ma.sep _ _ _ hl hb
       have hnl:¬ d8A B S.objs b:=h.ap b ⟨id,_,hl,hb⟩
       have hblt:b<A.w.heap.size:=j8A ho hb
       have hMB:a4A B (fun k=>keep k∨k=b) S.objs:=
        ⟨h.mb.rep,fun j oc b' hj hb'=>⟨(h.mb.sep _ _ _ hj hb').1,fun hc=>hc.elim (h.mb.sep _ _ _ hj hb').2 fun e=>hnl ⟨j,oc,hj,e▸hb'⟩⟩,h.mb.inj,h.mb.rob,
         fun b' hb'=>hb'.elim (h.mb.kb b') fun e=>by rw [e,h.w]; exact hblt,h.mb.gl⟩
       exact i0B hMB (Bi hid h.n) (by rw [hMi]; exact hb) hsep.2 (by rw [h.ro]; exact hsep.1) hoB
     have T2:Two base.next keep A B (b9A id oa) (a9A id (.arr t' l) S.objs):=
      ⟨h.w,h.ro,h.M,h.n,s0A h.ma,hput,fun b' hb' hx'=>by
       obtain ⟨j,oc,h1,h2⟩:=hx'
       obtain ⟨j',oc',h3,h4⟩:=hb'
       rw [d4A] at h1
       by_cases e:j=id
       ·rw [e,hMi] at h2
        exact (hdrop h3).2 (h.ma.inj _ _ _ _ b' (hdrop h3).1 hl h4 h2)
       ·rw [Ae e] at h1
        exact h.ap b' ⟨j',oc',(hdrop h3).1,h4⟩ ⟨j,oc,h1,h2⟩⟩
     obtain ⟨B2,w2,L2,M2,S2,N2⟩:=v2A sp (S:={ S with objs:=a9A id (.arr t' l) S.objs }) T2 hN hA hB hpk
     simp only [c0A,hbx]
     exact ⟨B2,w2,L2,M2,S2,N2⟩
    ·cases hp
   ·cases hp
  ·cases hp
 | .obj s t::sp,A,B,oa,S,p,h,hN,hA,hB,hp=>by
  simp only [d0A] at hp
  cases hbx:x8A base s with
  | none=>rw [hbx] at hp; cases hp
  | some id =>
  rw [hbx] at hp
  dsimp only at hp
  split at hp
  ·rename_i cs hl
   split at hp
   ·rename_i x oa1 hx
    rcases c2A hx with ⟨hc,hto⟩ | ⟨_,hx⟩
    ·rw [Ac] at hc
     have hid:id<base.next:=Bx hc.1
     obtain ⟨_,b,cur,e,hb,hg,hcr⟩:=h.ma.rep _ _ hl
     have hsep:=h.ma.sep _ _ _ hl hb
     have hnl:¬ d8A B S.objs b:=h.ap b ⟨id,_,hl,hb⟩
     have hdrop:∀ {j oc},a1A j (b9A id oa)=some oc→a1A j oa=some oc∧j≠id:=by
      intro j oc hj
      rw [i3A] at hj
      by_cases e:j=id
      ·rw [Aj e] at hj; cases hj
      ·rw [Ae e] at hj; exact ⟨hj,e⟩
     have hblt:b<A.w.heap.size:=j8A (h.ma.rep _ _ hl).2 hb
     have T0:Two base.next (fun k=>keep k∨k=b) A B (b9A id oa) S.objs:=
      ⟨h.w,h.ro,h.M,h.n,
       ⟨fun j oc hj=>h.ma.rep _ _ (hdrop hj).1,fun j oc b' hj hb'=>⟨(h.ma.sep _ _ _ (hdrop hj).1 hb').1,fun hc=>hc.elim (h.ma.sep _ _ _ (hdrop hj).1 hb').2 fun e=>(hdrop hj).2 (h.ma.inj _ _ _ _ b (hdrop hj).1 hl (e▸hb') hb)⟩,
        fun j j' o o' b' hj hj'=>h.ma.inj _ _ _ _ _ (hdrop hj).1 (hdrop hj').1,h.ma.rob,fun b' hb'=>hb'.elim (h.ma.kb b') fun e=>e▸hblt,h.ma.gl⟩,
       ⟨h.mb.rep,fun j oc b' hj hb'=>⟨(h.mb.sep _ _ _ hj hb').1,fun hc=>hc.elim (h.mb.sep _ _ _ hj hb').2 fun e=>hnl ⟨j,oc,hj,e▸hb'⟩⟩,h.mb.inj,h.mb.rob,
        fun b' hb'=>hb'.elim (h.mb.kb b') fun e=>by rw [e,h.w]; exact hblt,h.mb.gl⟩,
       fun b' hb'=>h.ap b' (by obtain ⟨j,oc,h1,h2⟩:=hb'; exact ⟨j,oc,(hdrop h1).1,h2⟩)⟩
     obtain ⟨A1,B1,u,v,g,L,T1,N1,e',c1,c2⟩:=o7C t hc.2 T0 hcr hto
     rw [show v=[] from c2,Bc] at e'
     rw [hN] at T1 N1 c1
     have hB1:(B1.M id).blk=some b:=by rw [L.M id (Bi hid h.n),h.M id hid]; exact hb
     have hw1:B1.w=A.w:=by rw [T1.w]; exact g.w
     have hro1:¬ B1.ro b:=fun hc=>(L.roN b hc).elim (fun hc=>hsep.1 (by rw [←h.ro]; exact hc)) fun hc=>hc (.inr rfl)
     have hput:=i0B (oc:=.box (a8A t x ⟨S.objs,S.next⟩).1) T1.mb (Bi hid T1.n) hB1 hsep.2 hro1 ⟨b,cur,e,hB1,by rw [hw1]; exact hg,by rw [e']; exact c1⟩
     have Lk:=L.weaker (keep:=keep) fun _ h=>.inl h
     cases hpk:d0A base tmps sp oa1 with
     | none=>rw [hpk] at hp; cases hp
     | some y =>
      rw [hpk] at hp
      cases hp
      have T2:Two base.next keep A1 B1 oa1 (a9A id (.box (a8A t x ⟨S.objs,S.next⟩).1) (a8A t x ⟨S.objs,S.next⟩).2.objs):=
       ⟨T1.w,T1.ro,T1.M,T1.n,T1.ma.weaker fun _ h=>.inl h,hput,fun b' hb' hx'=>by
        obtain ⟨j,oc,h1,h2⟩:=hx'
        rw [d4A] at h1
        by_cases e:j=id
        ·rw [e,hB1] at h2
         cases h2
         obtain ⟨j',oc',h3,h4⟩:=hb'
         exact (T1.ma.sep _ _ _ h3 h4).2 (.inr rfl)
        ·rw [Ae e] at h1
         exact T1.ap b' hb' ⟨j,oc,h1,h2⟩⟩
      have gk:=g.later.weaker (keep:=keep) fun _ h=>.inl h
      obtain ⟨B2,w2,L2,M2,S2,N2⟩:=v2A sp (S:={ S with objs:=a9A id (.box (a8A t x ⟨S.objs,S.next⟩).1) (a8A t x ⟨S.objs,S.next⟩).2.objs,next:=(a8A t x ⟨S.objs,S.next⟩).2.next })
       T2 N1 (⟨hA.1,fun i v hv=>a3A.later gk (hA.2 i v hv)⟩) (⟨hB.1,fun i v hv=>a3A.later Lk (hB.2 i v hv)⟩) hpk
      simp only [c0A,hbx]
      exact ⟨B2,w2.trans (by rw [hw1]; exact h.w.symm),Lk.trans L2,M2,S2,N2⟩
    ·cases hx
   ·cases hp
  ·cases hp
end
end Go.Rx
namespace Go.Rx
variable [Inhabited GW]
def fw (ro:Option Nat):Fence:={ Fence.wide with round:=ro }
theorem w4D {ro:Option Nat} {n:Nat} {P:Program} {f:FuncId} {args:Array Value} {w:World} {R:Ending→World→Prop}:CallsIn (fw ro) n P f args w R↔Calls P f args w R:=callsIn_wide
def f2D:Op→Bool
 | .defer _=>false
 | _=>true
theorem n9B {ro:Option Nat} {P:Program} {o:Oper} {a:Act} {w:World} {next:Act→World→Prop} {Q:Exit→Act→World→Prop} (hd:f2D o.op=true) (h:o.uponIn (fw ro) 0 P a next Q ((execOp a.eval o).run P w)) :
  o.wpIn (fw ro) 0 P a w next Q:=
 ⟨fun _ _=>trivial,by rw [Oper.semAt_eq _ _ _ (fun c e=>by rw [e] at hd; cases hd)]; exact h⟩
def Ex.toExit:Ex→Exit
 | .normal=>.normal
 | .exit id=>.exit id
 | .ret=>.ret
def c9A (E:Env):List AV→List Value→Prop
 | [],vs=>vs=[]
 | a::l,vs=>∃ v r,vs=v::r∧a3A E a v∧c9A E l r
def b3B (T:Tab):List Oper→St→Option St
  | [],S=>some S
  | o::l,S=>match o.guard with
    | some _=>none
    | none=>match m9A T S o.op with
      | .val v=>b3B T l (S.put o.dst v)
      | .gval b v=>bif b then b3B T l (S.put o.dst v) else none
      | .no=>none
def c6C (n:Nat) (l:List Int):Objs:=[(0,.box [.bsl 1 0 n (.int .i64) 0 n]),(1,.box [.arr n (.int .i64) l])]
def s1A (m y:Nat) (i:Int):List AV:=.yld y::.ptr 0 0::.top::.int .i64 i::p8A .top m
def tk (ix:List Nat) (x:Option St):Option (List AV):=oM x fun S=>d5A (b1A S.tmps) ix
structure c7C where
 (m j0 j1 j2 j3 i0 i1 c1 c3 fr ax bx d:Nat)
 (o0 o1 o2 pre post:List Oper)
 oc:Oper
 at_:Array TypeId
def c7C.body (D:c7C):Code:=
 .seq (.region D.j0 D.o0.toArray false) (.block D.i0 (.loop (.seq (.seq (.region D.j1 D.o1.toArray false) (.cond (.tmp D.c1) .skip (.exit D.i0)))
  (.seq (.block D.i1 (.seq (.region D.j3 (D.pre++D.oc::D.post).toArray false) (.cond (.tmp D.c3) .ret .skip))) (.region D.j2 D.o2.toArray false)))))
structure f3D (P:Program) (T:Tab) (f:FuncId) (n:Nat) (D:c7C):Prop where
 fn : ∃ F, P.funcs[f]? = some F ∧ (F.name == "runtime.NumGoroutine") = false ∧ F.ntmps = D.m + 4 ∧ F.results = #[] ∧ F.body = some D.body
 h0:∀ y l,tk [0,1,3] (b3B T D.o0 ⟨.yld y::.ptr 0 0::.tup []::.tup []::p8A (.tup []) D.m,c6C n l,2⟩)=some [.yld y,.ptr 0 0,.int .i64 ((n:Int) - 1)]
 h1:∀ y i,tk [0,1,3,D.c1] (b3B T D.o1 ⟨s1A D.m y i,[],2⟩)=some [.yld y,.ptr 0 0,.int .i64 i,.bool (decide (i≥0))]
 h3:∀ y l i,tk [0,1,3,D.fr,D.ax,D.bx] (b3B T D.pre ⟨s1A D.m y i,c6C n l,2⟩)=bif a7A i n then some [.yld y,.ptr 0 0,.int .i64 i,.yld y,.int .i64 i,.int .i64 (l.getD i.toNat 0)] else none
 hc:D.oc.guard=none∧D.oc.dst=some D.d∧D.oc.op=.call { callee:=.value (.tmp D.fr),args := #[.tmp D.ax,.tmp D.bx],argTypes:=D.at_ }
 hd:4≤D.d∧D.d<D.m+4
 h4:∀ y i b,tk [0,1,3,D.c3] (b3B T D.post ⟨g2A (s1A D.m y i) D.d (.bool b),[],2⟩)=some [.yld y,.ptr 0 0,.int .i64 i,.bool (!b)]
 h2:∀ y i,tk [0,1,3] (b3B T D.o2 ⟨s1A D.m y i,[],2⟩)=some [.yld y,.ptr 0 0,.int .i64 (IntKind.i64.wrap (i - 1))]
structure HOK (P:Program) (H:Handler):Prop where
 nat:∀ {R:Type} (f:FuncId) (args:List AV) (S:St) (K:AV→St→Option R),H.run f args S K=(H.run f args S fun v S'=>some (v,S')).bind fun p=>K p.1 p.2
 lend:∀ (f:FuncId) (args:List AV) (S:St) (v:AV) (S':St),H.lends f=true→(H.run f args S fun v S'=>some (v,S'))=some (v,S')→S'.objs=S.objs∧S'.next=S.next
 calm:∀ (f:FuncId) (args:List AV) (S:St) (v:AV) (S':St) (l:List Nat),H.calm f S.objs (e4A.idsVs args)=some l→(H.run f args S fun v S'=>some (v,S'))=some (v,S')→∀ j,j ∉ l→j<S.next→a1A j S'.objs=a1A j S.objs
 back:∀ f n,H.back f=some n→0<n∧n≤1000000∧∃ D T,TabOK P T∧f3D P T f n D
 fn:∀ {R:Type} (f:FuncId) (args:List AV) (S:St) (K:AV→St→Option R) (r:R),H.run f args S K=some r →
  (∃ fn, P.funcs[f]? = some fn ∧ (fn.name == "runtime.NumGoroutine") = false ∧ fn.body.isNone = false) ∨ H.ext f = true
 ext:∀ {R:Type} (f:FuncId) (args:List AV) (S:St) (K:AV→St→Option R) (r:R),H.run f args S K=some r→H.ext f=true →
  ∀ (E:Env) (vals:List Value),c9A E args vals→∃ v x,(callFunc f vals.toArray).run P E.w=.ok (.value x) E.w∧a3A E v x∧K v S=some r
 ok:∀ {R:Type} (f:FuncId) (args:List AV) (S:St) (K:AV→St→Option R) (r:R),H.run f args S K=some r→H.ext f=false →
  ∀ (keep:Nat→Prop) (E:Env) (vals:List Value),a4A E keep S.objs→E.N=S.next→c9A E args vals →
   Calls P f vals.toArray E.w fun e w'=>∃ v x S' E',e=.returned x∧E'.w=w'∧Later keep E E'∧a4A E' keep S'.objs∧E'.N=S'.next∧S'.tmps=S.tmps∧a3A E' v x∧K v S'=some r
section
variable {P:Program} {T:Tab} (hT:TabOK P T) {H:Handler} (hH:HOK P H) {keep:Nat→Prop} {z:Nat}
theorem c9A.app {E:Env}:∀ {l m:List AV} {us vs:List Value},c9A E l us→c9A E m vs→c9A E (g3A l m) (us++vs)
 | [],_,_,_,r,s=>by rw [show _=[] from r]; exact s
 | a::l,m,us,vs,r,s=>by
  obtain ⟨u,t,e,r1,r2⟩:=r
  exact ⟨u,t++vs,by rw [e]; rfl,r1,c9A.app r2 s⟩
theorem c9A.ofF {E:Env}:∀ {l:List AV} {vs:List Value},e5A E l vs→c9A E l vs
 | [],_,r=>r
 | a::l,vs,r=>by
  obtain ⟨v,s,e,hc,r1,r2⟩:=r
  refine ⟨v,s,e,?_,c9A.ofF r2⟩
  cases a <;> first
   | (cases hc; done)
   | exact r1
theorem c9A.ofOps {E:Env} {S:St} {a:Act} (hs:e0A E S.tmps a.tmps):∀ (l:List Operand),c9A E (d5A (ev S) l) (l.map a.eval)
 | []=>rfl
 | x::l=>⟨_,_,rfl,b6A hs x,c9A.ofOps hs l⟩
theorem Rel.put {S:St} {a:Act} {E E':Env} (h:Rel keep z S a E) (hL:Later keep E E') (S':St) (ht:S'.tmps=S.tmps) (hm:a4A E' keep S'.objs) (hn:E'.N=S'.next) (dst:Option Nat) {v:AV} {x:Value} (hv:a3A E' v x) :
  Rel keep z (S'.put dst v) (a.put dst x) E':=by
 have hs:e0A E' S'.tmps a.tmps:=by rw [ht]; exact h.slots.later hL
 refine ⟨?_,c2C hs dst hv,?_,?_,?_⟩
 ·cases dst with
  | none=>exact h.size
  | some d=>simp only [Act.put,Array.size_setIfInBounds]; exact h.size
 ·cases dst <;> exact hm
 ·cases dst <;> exact hn
 ·cases dst <;> exact h.defers.later hL
theorem c5F {R:Type} {op:Op} {S:St} {K:AV→Objs→Nat→Option R} {r:R} (h:opV T H op S K=some r):f2D op=true:=by
 cases op <;> first
  | rfl
  | (simp only [opV,y0A,m9A,q0A] at h; cases h)
theorem w5D {S:St} {op:Op} {v:AV} (h:(m9A T S op).gives v):f2D op=true:=by
 cases op <;> first
  | rfl
  | (simp only [m9A] at h; cases h)
include hT hH
theorem w6D {ro:Option Nat} {R:Type} {o:Oper} {S:St} {K:AV→Objs→Nat→Option R} {r:R} {a:Act} {E:Env} {next:Act→World→Prop} {Q:Exit→Act→World→Prop} (h:opV T H o.op S K=some r)
  (hs:e0A E S.tmps a.tmps) (hm:a4A E keep S.objs) (hn:E.N=S.next)
  (hK:∀ v x objs n E',Later keep E E'→a4A E' keep objs→E'.N=n→a3A E' v x→K v objs n=some r→next (a.put o.dst x) E'.w):o.wpIn (fw ro) 0 P a E.w next Q:=by
 refine n9B (c5F h) ?_
 unfold opV at h
 split at h
 ·rename_i f args hc
  have hfn:=hH.fn f args _ _ r h
  unfold y0A at hc
  split at hc
  ·rename_i g cargs targs hop
   split at hc
   ·rename_i f' first caps hev
    obtain ⟨rfl,rfl⟩:=Prod.mk.inj (Bp hc)
    have hr:=b6A hs g
    rw [hev] at hr
    obtain ⟨A,B,e,r1,r2⟩:=(show a6A E _ [a.eval g] from hr)
    have e:a.eval g=.func (.func f') A B:=by simpa using e
    have earr:(A++cargs.map a.eval)++B=(A.toList++(cargs.toList.map a.eval++B.toList)).toArray:=by
     apply Array.toList_inj.1
     simp
    cases hx:H.ext f' with
    | true =>
     obtain ⟨v,x,hcf,hv,hk⟩:=hH.ext f' _ _ _ r h hx E _ (c9A.app (c9A.ofF r1) (c9A.app (c9A.ofOps hs cargs.toList) (c9A.ofF r2)))
     have hrun:(execOp a.eval o).run P E.w=.ok (.value x) E.w:=by
      simp only [execOp,hop,resolve,e,Deferred.ofValue,Sem.run_bind,Sem.run_pure,Result.andThen_ok,invoke,earr,hcf]
     rw [hrun,Oper.uponIn_value]
     exact hK _ _ _ _ _ (Later.refl _ _) hm hn hv hk
    | false =>
    obtain ⟨fn,hf,hname,hbody⟩:=hfn.resolve_right (by rw [hx]; exact Fc)
    have hrun:(execOp a.eval o).run P E.w=.ok (.enter f' (A.toList++(cargs.toList.map a.eval++B.toList)).toArray) E.w:=by
     have hcf:(callFunc f' (A.toList++(cargs.toList.map a.eval++B.toList)).toArray).run P E.w=.ok (.enter f' (A.toList++(cargs.toList.map a.eval++B.toList)).toArray) E.w:=by
      simp only [callFunc,Sem.run_bind,run_program,Result.andThen_ok,hf,hname,hbody,Cf,Fb,Sem.run_pure]
     simp only [execOp,hop,resolve,e,Deferred.ofValue,Sem.run_bind,Sem.run_pure,Result.andThen_ok,invoke,earr,hcf]
    have hcall:=hH.ok f' _ _ _ r h hx keep E _ hm hn (c9A.app (c9A.ofF r1) (c9A.app (c9A.ofOps hs cargs.toList) (c9A.ofF r2)))
    rw [hrun,Oper.uponIn_enter]
    refine ⟨fun h=>(nomatch h),w4D.2 (hcall.mono ?_)⟩
    rintro e' w' ⟨v,x,S',E',rfl,rfl,hL,hM,hN,ht,hv,hK'⟩
    exact hK _ _ _ _ _ hL hM hN hv hK'
   ·cases hc
  ·cases hc
 ·have pureCase:∀ v,(m9A T S o.op).gives v→K v S.objs S.next=some r→o.uponIn (fw ro) 0 P a next Q ((execOp a.eval o).run P E.w):=by
   intro v hg hk
   obtain ⟨x,hrun,hv⟩:=d5D hT hs hm o hg
   rw [hrun,Oper.uponIn_value]
   exact hK _ _ _ _ _ (Later.refl _ _) hm hn hv hk
  split at h
  ·rename_i v hp
   exact pureCase v (by rw [hp]; rfl) h
  ·rename_i b v hp
   rcases c2A h with ⟨hb,h⟩ | ⟨_,h⟩
   ·exact pureCase v (by rw [hp]; exact ⟨hb,rfl⟩) h
   ·cases h
  ·have heapCase:∀ v objs,(q0A T S S.next o.op).gives v objs→K v objs (S.next+1)=some r→o.uponIn (fw ro) 0 P a next Q ((execOp a.eval o).run P E.w):=by
    intro v objs hg hk
    rw [←hn] at hg
    obtain ⟨x,E',n,hrun,hL,hM,hv,hn',hle⟩:=u8D hT hs hm o hg
    obtain ⟨hL2,hM2⟩:=hM.more (E.N+1) (by rw [hn']; exact hle)
    have hN2:({ E' with N:=E.N+1 }:Env).N=S.next+1:=by show E.N+1=S.next+1; rw [hn]
    rcases hrun with hrun | ⟨hrun,rfl⟩
    ·rw [hrun,Oper.uponIn_value]
     exact hK _ _ _ _ { E' with N:=E.N+1 } (hL.trans hL2) hM2 hN2 (a3A.later hL2 hv) hk
    ·rw [hrun,Oper.uponIn_skip]
     exact hK _ _ _ _ { E' with N:=E.N+1 } (hL.trans hL2) hM2 hN2 (a3A.later hL2 hv) hk
   split at h
   ·rename_i v objs hp
    exact heapCase v objs (by rw [hp]; exact ⟨rfl,rfl⟩) h
   ·rename_i b v objs hp
    rcases c2A h with ⟨hb,h⟩ | ⟨_,h⟩
    ·exact heapCase v objs (by rw [hp]; exact ⟨hb,rfl,rfl⟩) h
    ·cases h
   ·rename_i b v objs v' objs' hp
    rcases c2A h with ⟨hb,h⟩ | ⟨hb,h⟩
    ·exact heapCase v objs (by rw [hp]; exact .inl ⟨hb,rfl,rfl⟩) h
    ·exact heapCase v' objs' (by rw [hp]; exact .inr ⟨hb,rfl,rfl⟩) h
   ·rename_i n es z objs hp
    rw [z8B] at h
    exact heapCase _ objs (by rw [hp]; exact ⟨rfl,rfl⟩) h
   ·cases h
theorem c6F {ro:Option Nat} {R:Type} {o:Oper} {S:St} {K:St→Option R} {r:R} {a:Act} {E:Env} {next:Act→World→Prop} {Q:Exit→Act→World→Prop} (h:opK T H o S K=some r) (hR:Rel keep z S a E)
  (hK:∀ S' a' E',Rel keep z S' a' E'→Later keep E E'→K S'=some r→next a' E'.w):o.wpIn (fw ro) 0 P a E.w next Q:=
 w6D hT hH h hR.slots hR.mems hR.next fun v x objs n E' hL hM hN hv hk =>
  hK _ _ E' (hR.put hL ⟨S.tmps,objs,n⟩ rfl hM hN o.dst hv) hL hk
omit hT hH
theorem p0C:∀ (l:List Oper) (j:Nat),r7B l j=(l[j]?).bind (·.dst)
 | [],j=>by cases j <;> rfl
 | o::l,0=>rfl
 | o::l,j+1=>by simp only [r7B,Co]; exact p0C l j
theorem w7D {S:St} {a:Act} {E:Env} (h:Rel keep z S a E) {d:Nat} {b:Bool} (hd:b1A S.tmps d=.bool b):Rel keep z (S.put (some d) (.bool b)) a E∧a.tmps[d]? = some (.bool b):=by
 obtain ⟨x,hx,hr⟩:=d9B h.slots (s:=d) (by rw [hd]; nofun)
 rw [hd] at hr
 have:=hr.bool_inv
 subst this
 exact ⟨⟨h.size,c3C h.slots hx hr,h.mems,h.next,h.defers⟩,hx⟩
include hT hH
theorem p1C {ro:Option Nat} {R:Type} {ops:Array Oper}:∀ (l:List Oper) {S:St} {K:St→Option R} {r:R} {a:Act} {E:Env} {Q:Exit→Act→World→Prop},n0A T H ops l S K=some r→Rel keep z S a E →
  (∀ S' a' E',Rel keep z S' a' E'→Later keep E E'→K S'=some r→Q .normal a' E'.w)→wpListIn (fw ro) 0 P ops Q l a E.w
 | [],S,K,r,a,E,Q,h,hR,hK=>hK S a E hR (Later.refl _ _) h
 | o::rest,S,K,r,a,E,Q,h,hR,hK=>by
  simp only [n0A] at h
  have runCase:∀ {S1:St},Rel keep z S1 a E→Region.wanted o (yielded ops a.tmps)=true→opK T H o S1 (fun S=>n0A T H ops rest S K)=some r→wpListIn (fw ro) 0 P ops Q (o::rest) a E.w:=by
   intro S1 hR1 hw h
   simp only [wpListIn,hw,Ep]
   refine c6F hT hH h hR1 fun S' a' E' hR' hL' h' => ?_
   exact p1C rest h' hR' fun S'' a'' E'' h1 h2 h3=>hK S'' a'' E'' h1 (hL'.trans h2) h3
  have skipCase:∀ {S1:St},Rel keep z S1 a E→Region.wanted o (yielded ops a.tmps)=false→n0A T H ops rest (S1.put o.dst (.tup [])) K=some r→wpListIn (fw ro) 0 P ops Q (o::rest) a E.w:=by
   intro S1 hR1 hw h
   simp only [wpListIn,hw,Cf,Fb]
   exact ⟨fun _ _=>trivial,p1C rest h (hR1.put (Later.refl _ _) S1 rfl hR1.mems hR1.next o.dst ⟨[],rfl,rfl⟩) hK⟩
  cases hg:u6A ops S o with
  | no=>rw [hg] at h; cases h
  | run =>
   rw [hg] at h
   refine runCase hR ?_ h
   unfold u6A at hg
   unfold Region.wanted
   split at hg
   ·rename_i e; rw [e]
   ·split at hg
    ·cases hg
    ·split at hg <;> cases hg
  | skip =>
   rw [hg] at h
   refine skipCase hR ?_ h
   unfold u6A at hg
   unfold Region.wanted
   split at hg
   ·cases hg
   ·rename_i j want e
    rw [e]
    split at hg
    ·cases hg
    ·rename_i d hd
     split at hg
     ·cases hg
     ·rename_i l hl
      obtain ⟨x,hx,hr⟩:=d9B hR.slots (s:=d) (by rw [hl]; nofun)
      rw [hl] at hr
      obtain ⟨vs,rfl,_⟩:=hr
      rw [p0C] at hd
      have:(ops[j]?).bind (·.dst)=some d:=by simpa using hd
      simp [yielded,this,hx]
     ·cases hg
  | test d b want =>
   rw [hg] at h
   have hfacts:b1A S.tmps d=.bool b∧∃ j,o.guard=some (j,want)∧(ops[j]?).bind (·.dst)=some d:=by
    unfold u6A at hg
    split at hg
    ·cases hg
    ·rename_i j w e
     split at hg
     ·cases hg
     ·rename_i d' hd
      split at hg
      ·rename_i b' hb
       cases hg
       rw [p0C] at hd
       exact ⟨hb,j,e,by simpa using hd⟩
      ·cases hg
      ·cases hg
   obtain ⟨hd,j,hgd,hdst⟩:=hfacts
   obtain ⟨hlit,hval⟩:=w7D hR hd
   have hw:Region.wanted o (yielded ops a.tmps)=(b==want):=by
    unfold Region.wanted
    rw [hgd]
    simp [yielded,hdst,hval]
   cases want with
   | true =>
    rcases c2A h with ⟨hb,h⟩ | ⟨hb,h⟩
    ·subst hb
     exact runCase hlit (by rw [hw]; rfl) h
    ·subst hb
     exact skipCase hlit (by rw [hw]; rfl) h
   | false =>
    rcases c2A h with ⟨hb,h⟩ | ⟨hb,h⟩
    ·subst hb
     exact skipCase hlit (by rw [hw]; rfl) h
    ·subst hb
     exact runCase hlit (by rw [hw]; rfl) h
end
end Go.Rx
