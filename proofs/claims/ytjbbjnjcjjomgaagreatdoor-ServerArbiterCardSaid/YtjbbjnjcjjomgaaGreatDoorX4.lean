import Derived.Test.YtjbbjnjcjjomgaaGreatDoorX3
import Derived.Laws.Externs
import Derived.Test.YtjbbjnjcjjomgaaGreatDoorX1
import Derived.ChangeSame
import Derived.Carry
import Derived.OpenShut
import Derived.Test.YtjbbjnjcjjomgaaGreatDoorX2
import Derived.Laws.CopyRow
import Derived.Lib.Overlaps
import Derived.Lib.AppendZerosOnto
import Derived.Lib.JoinLaws
import Derived.Shelf.Spec.SlicesInsert
import Derived.LaidLaws
import Derived.LaidHandle
import Derived.LaidMore
import Derived.MakeChecks
import Derived.FnData
import Derived.Below
import Derived.Lib.LaidTab
set_option linter.unusedSimpArgs false
set_option linter.unusedVariables false
set_option linter.unusedSectionVars false
namespace Go.Rx
variable [Inhabited GW]
structure g3D (keep:Nat→Prop) (E E':Env):Prop where
 out:e1A E.w E'.w
 ro:∀ b,E.ro b→E'.ro b
 roN:∀ b,E'.ro b→E.ro b∨¬ keep b
 size:E.w.heap.size≤E'.w.heap.size
 heapRo:∀ b,E.ro b→E'.w.heap[b]? = E.w.heap[b]?
 heapKeep:∀ b,keep b→E'.w.heap[b]? = E.w.heap[b]?
def q3A (E:Env) (us:List AV) (v:Value):Prop:=∃ vs:List Value,j2A E us vs∧v=(if h:vs.toArray.size=1 then vs.toArray[0] else .tuple vs.toArray)
theorem q3A.one {E:Env} {us:List AV} {v:Value} (h:q3A E us v):a3A E (a0C us) v:=by
 obtain ⟨vs,hr,e⟩:=h
 subst e
 match us,hr with
 | [],hr=>rw [show vs=[] from hr]; exact ⟨[],rfl,rfl⟩
 | [a],hr =>
  obtain ⟨x,r,rfl,r1,r2⟩:=hr
  rw [show r=[] from r2]
  exact r1.toS
 | a::b::l,hr =>
  obtain ⟨x,r,rfl,r1,y,r',rfl,r2,r3⟩:=hr
  rw [dif_neg (by simp)]
  exact ⟨_,rfl,x,_,rfl,r1,y,_,rfl,r2,r3⟩
def d3C (g:Option FuncId) (vals:List Value):List Value:=
 match g with
 | none=>vals
 | some g=>vals++[.func (.func g) #[] #[]]
structure b7A (P:Program) (f:FuncId) (ins outs:List (Bool×Ty)) (fn:c8A ins→Option (c8A outs)) (g:Option FuncId:=none):Prop where
 has : ∃ F, P.funcs[f]? = some F ∧ (F.name == "runtime.NumGoroutine") = false ∧ F.body.isNone = false
 ok:∀ (x:c8A ins) (y:c8A outs),fn x=some y→∀ (keep:Nat→Prop) (E:Env) (vs:List AV) (vals:List Value) (objs objs':Objs),a4A E keep objs→c9A E vs vals→f9A ins vs objs=some (x,objs') →
  Calls P f (d3C g vals).toArray E.w fun e w'=>∃ us v ob ob' E',e=.returned v∧E'.w=w'∧q3A E' us v∧a4A E' (fun b=>keep b∨d8A E objs' b) ob∧f9A outs us ob=some (y,ob') ∧
   g3D (fun b=>keep b∨d8A E objs' b) E E'
section
variable {P:Program} {T:Tab} (hT:TabOK P T) {keep:Nat→Prop}
theorem c9A.later {E E':Env} (hL:Later keep E E'):∀ {l:List AV} {vs:List Value},c9A E l vs→c9A E' l vs
 | [],_,r=>r
 | a::l,vs,r=>by
  obtain ⟨v,s,e,r1,r2⟩:=r
  exact ⟨v,s,e,a3A.later hL r1,c9A.later hL r2⟩
theorem c9A.addW {E:Env} {g:Option FuncId} {args:List AV} {vals:List Value} (h:c9A E args vals):c9A E (l0C g args) (d3C g vals):=by
 cases g with
 | none=>exact h
 | some g=>exact c9A.app h ⟨_,[],rfl,⟨#[],#[],rfl,rfl,rfl⟩,rfl⟩
theorem a0E {E:Env} {g:FuncId}:∀ {args ps:List AV} {vals:List Value},s7B g args=some ps→c9A E args vals→∃ vs,vals=vs++[.func (.func g) #[] #[]]∧c9A E ps vs∧args=g3A ps [.func g [] []]
 | [],_,_,h,_=>by cases h
 | [v],ps,vals,h,hr=>by
  obtain ⟨x,r,rfl,r1,r2⟩:=hr
  have r2:r=[]:=r2
  subst r2
  cases v with
  | func f a b =>
   match a,b,h,r1 with
   | [],[],h,r1 =>
    have h:(bif Nat.beq f g then some [] else none)=some ps:=h
    rcases c2A h with ⟨hb,h⟩ | ⟨_,h⟩
    ·cases h
     have:=Ag hb
     subst this
     obtain ⟨A,B,e,hA,hB⟩:=(show a6A E (.func f [] []) [x] from r1)
     have hA:A.toList=[]:=hA
     have hB:B.toList=[]:=hB
     have e:x=.func (.func f) A B:=by simpa using e
     refine ⟨[],?_,rfl,rfl⟩
     rw [e,show A = #[] by rw [←Array.toArray_toList (xs:=A),hA],show B = #[] by rw [←Array.toArray_toList (xs:=B),hB]]; rfl
    ·cases h
   | _::_,_,h,_=>cases h
   | [],_::_,h,_=>cases h
  | _=>cases h
 | v::w::l,ps,vals,h,hr=>by
  obtain ⟨x,r,rfl,r1,r2⟩:=hr
  obtain ⟨ps',h',rfl⟩:=b4A (show oM (s7B g (w::l)) (v::·)=some ps from h)
  obtain ⟨vs,rfl,h2,h3⟩:=a0E h' r2
  exact ⟨x::vs,rfl,⟨x,vs,rfl,r1,h2⟩,by rw [h3]; rfl⟩
theorem f5F {E:Env} {g:Option FuncId} {args ps:List AV} {vals:List Value} (h:k9C g args=some ps) (hr:c9A E args vals):∃ vs,vals=d3C g vs∧c9A E ps vs∧args=l0C g ps:=by
 cases g with
 | none=>cases h; exact ⟨vals,rfl,hr,rfl⟩
 | some g=>exact a0E h hr
theorem j2A.toS {E:Env}:∀ {l:List AV} {vs:List Value},j2A E l vs→c9A E l vs
 | [],_,r=>r
 | a::l,vs,r=>by
  obtain ⟨v,s,e,r1,r2⟩:=r
  exact ⟨v,s,e,r1.toS,j2A.toS r2⟩
theorem t5B {n:Nat}:∀ (l:List (Bool×Ty)) {A B:Env} {oa ob oa':Objs} {vs:List AV} {vals:List Value} {x:c8A l},Two n keep A B oa ob→c9A A vs vals→f9A l vs oa=some (x,oa') →
  ∃ A' B',g7A keep A A'∧Later keep B B'∧Two n keep A' B' oa' (f4A l x ⟨ob,B.N⟩).2.objs∧B'.N=(f4A l x ⟨ob,B.N⟩).2.next∧j2A B' (f4A l x ⟨ob,B.N⟩).1 vals
 | [],A,B,oa,ob,oa',vs,vals,x,h,hr,hp=>by
  cases vs with
  | nil=>cases hp; exact ⟨A,B,g7A.refl _ _,Later.refl _ _,h,rfl,hr⟩
  | cons=>cases hp
 | [t],A,B,oa,ob,oa',vs,vals,x,h,hr,hp=>by
  match vs,hr,hp with
  | [v],hr,hp =>
   obtain ⟨xv,r,rfl,r1,r2⟩:=hr
   obtain ⟨A1,B1,g,L,T1,N1,hs⟩:=f1D h r1 hp
   exact ⟨A1,B1,g,L,T1,N1,xv,r,rfl,hs,r2⟩
 | t::t'::l,A,B,oa,ob,oa',vs,vals,x,h,hr,hp=>by
  match vs,hr,hp with
  | v::vs,hr,hp =>
   obtain ⟨xv,r,rfl,r1,r2⟩:=hr
   simp only [f9A] at hp
   split at hp
   ·rename_i y oa1 h1
    split at hp
    ·rename_i ys oa2 h2
     cases hp
     obtain ⟨A1,B1,g1,L1,T1,N1,hs1⟩:=f1D h r1 h1
     obtain ⟨A2,B2,g2,L2,T2,N2,hs2⟩:=t5B (t'::l) T1 (c9A.later g1.later r2) h2
     rw [N1] at T2 N2 hs2
     exact ⟨A2,B2,g1.trans g2,L1.trans L2,T2,N2,xv,r,rfl,d6A.later L2 hs1,hs2⟩
    ·cases hp
   ·cases hp
def q1C (tmps:Array Value):ResultVar→Sem Value
 | .tmp t=>pure (tmps.getD t undef)
 | .cell p t=>do loadVar t (←asAddr (tmps.getD p undef))
include hT
theorem f6F {keep:Nat→Prop} {z:Nat} {S:St} {a:Act} {E:Env} (hR:Rel keep z S a E) (fn:Func) {vs:List AV} (h:r7A S fn.results.toList T=some vs) :
  ∃ v,(results fn a.tmps).run P E.w=.ok v E.w∧q3A E vs v:=by
 have key:∀ (l:List ResultVar) (vs:List AV),r7A S l T=some vs→∃ us:List Value,(l.mapM (q1C a.tmps)).run P E.w=.ok us E.w∧j2A E vs us:=by
  intro l
  induction l with
  | nil=>intro vs h; cases h; exact ⟨[],by simp,rfl⟩
  | cons x l ih =>
   intro vs h
   cases x with
   | tmp t =>
    simp only [r7A] at h
    have hv:=b6A hR.slots (.tmp t)
    have hev:ev S (.tmp t)=b1A S.tmps t:=rfl
    rw [hev] at hv
    split at h
    ·cases h
    ·rename_i v hnt
     obtain ⟨vs',h1,rfl⟩:=b4A h
     obtain ⟨us,h2,h3⟩:=ih _ h1
     have ht:(b1A S.tmps t).isTup=false:=by
      cases hg:b1A S.tmps t <;> first
       | rfl
       | exact absurd hg (hnt _)
     refine ⟨a.tmps.getD t undef::us,?_,_,us,rfl,(a3A.iff_V ht).1 hv,h3⟩
     rw [List.mapM_cons,Sem.run_bind]
     simp only [q1C,Sem.run_pure,Result.andThen_ok,Sem.run_bind]
     rw [h2]; rfl
   | cell p t =>
    simp only [r7A] at h
    split at h
    ·rename_i v hl
     obtain ⟨vs',h1,rfl⟩:=b4A h
     obtain ⟨us,h2,h3⟩:=ih _ h1
     have hx:=b6A hR.slots (.tmp p)
     have hev:ev S (.tmp p)=b1A S.tmps p:=rfl
     rw [hev] at hx
     obtain ⟨y,h4,h5⟩:=r4D hT hR.mems (show (y6B T S t (b1A S.tmps p)).gives v by rw [hl]; rfl) hx
     have h6:(do loadVar t (←asAddr (a.tmps.getD p undef)):Sem Value).run P E.w=.ok y E.w:=by
      have e:a.eval (.tmp p)=a.tmps.getD p undef:=rfl
      rw [e] at h4
      generalize a.tmps.getD p undef=q at h4 ⊢
      cases q <;> first
       | (simp [Instr.loadAt,Instr.sureAddr] at h4; done)
       | skip
      rename_i ad
      cases ad with
      | none=>simp [Instr.loadAt,Instr.sureAddr] at h4
      | some ad=>simpa [Instr.loadAt,Instr.sureAddr,asAddr] using h4
     refine ⟨y::us,?_,_,us,rfl,h5,h3⟩
     rw [List.mapM_cons,Sem.run_bind]
     rw [show q1C a.tmps (.cell p t)=(do loadVar t (←asAddr (a.tmps.getD p undef))) from rfl,h6]
     simp only [Result.andThen_ok,Sem.run_bind]
     rw [h2]; rfl
    ·cases h
 obtain ⟨us,h1,h2⟩:=key _ _ h
 refine ⟨_,?_,us,h2,rfl⟩
 show (fn.results.mapM (q1C a.tmps) >>= fun vs=>(pure (if h:vs.size=1 then vs[0] else .tuple vs):Sem Value)).run P E.w=_
 rw [Sem.run_bind,Array.mapM_eq_mapM_toList,Sem.run_map]
 rw [h1]
 rfl
omit hT
theorem c9A.length {E:Env}:∀ {l:List AV} {vs:List Value},c9A E l vs→vs.length=x4A l
 | [],_,r=>by rw [show _=[] from r]; rfl
 | a::l,vs,r=>by
  obtain ⟨v,s,rfl,_,r2⟩:=r
  simp only [Be,x4A,c9A.length r2]
theorem f7F {E:Env} {args:List AV} {vals:List Value} {objs:Objs} {next:Nat} (hm:a4A E keep objs) (hN:E.N=next) (hr:c9A E args vals) (n:Nat) :
  Rel keep (vals.toArray++Array.replicate (n - vals.toArray.size) undef).size ⟨g3A args (p8A (.tup []) (n - x4A args)),objs,next⟩ { tmps:=vals.toArray++Array.replicate (n - vals.toArray.size) undef,defers:=[] } E:=by
 have h:=g0D (c9A.app hr (g1D (E:=E) (n - x4A args)))
 have e:(vals++List.replicate (n - x4A args) undef).toArray=vals.toArray++Array.replicate (n - vals.toArray.size) undef:=by
  rw [←c9A.length hr]
  apply Array.toList_inj.1
  simp
 rw [e] at h
 exact ⟨rfl,h,hm,hN,u9A.nil _ _⟩
theorem a1E {P:Program} {fn:Func} {keep:Nat→Prop} {tmps:Array Value} {R:Ending→World→Prop}:∀ (Ds:List Nat) (E:Env),Ds.Nodup→(∀ D∈Ds,¬ keep D∧E.ro D∧E.w.heap[D]? = some (.deferred (some []))) →
  (∀ E',Shut E E'→(∀ b,b ∉ Ds→E'.w.heap[b]? = E.w.heap[b]?)→∃ v,(results fn tmps).run P E'.w=.ok v E'.w∧R (.returned v) E'.w) →
  LeavesInM (fw none) 0 P fn tmps R (Ds.map fun D=>{ target:=.collected D,args := #[] }) .returning E.w
 | [],E,_,_,h=>h E (Shut.refl E) (fun _ _=>rfl)
 | D::Ds,E,hn,hD,h=>by
  obtain ⟨h1,h2,h3⟩:=hD D Ax
  obtain ⟨hn1,hn2⟩:=List.nodup_cons.1 hn
  have hs:Shut E { E with w:=E.w.putObj D (.deferred none) }:=Shut.putObj _ h3
  refine ⟨by simp,.inl ⟨D,_,rfl,run_takeDeferred h3,?_⟩⟩
  refine a1E (keep:=keep) Ds { E with w:=E.w.putObj D (.deferred none) } hn2 (fun D' hD' => ?_) fun E' hs' hother => ?_
  ·obtain ⟨g1,g2,g3⟩:=hD D' (Bb _ hD')
   have hne:D'≠D:=fun e=>hn1 (e▸hD')
   exact ⟨g1,g2,(World.putObj_heap_other hne).trans g3⟩
  ·refine h E' (hs.trans hs') fun b hb => ?_
   exact (hother b fun h=>hb (Bb _ h)).trans (World.putObj_heap_other fun e=>hb (e▸Ax))
include hT
theorem q2C (hP:P.follows .mixedOrders=true) {H:Handler} (hH:HOK P H) {f:FuncId} {fn:Func} {body:Code} (hf:P.funcs[f]? = some fn) (hb:fn.body=some body) {an:Ann} {args:List AV} {vals:List Value} {objs:Objs} {next:Nat} {R:Type} {K:List AV→St→Option R} {r:R} {E:Env}
  (h:c1A T H body an none ⟨g3A args (p8A (.tup []) (fn.ntmps - x4A args)),objs,next⟩ (fun e S'=>match e with
   | .exit _=>none
   | _=>match r7A S' fn.results.toList T with
    | some vs=>K vs S'
    | none=>none)=some r) (hm:a4A E keep objs) (hN:E.N=next) (hr:c9A E args vals) :
  Calls P f vals.toArray E.w fun e w'=>∃ us v S' E',e=.returned v∧E'.w=w'∧Later keep E E'∧a4A E' keep S'.objs∧E'.N=S'.next∧q3A E' us v∧K us S'=some r:=by
 have hm0:a4A E (fun b=>keep b∨E.ro b) objs:=⟨hm.rep,fun id oc b hl hb=>⟨(hm.sep id oc b hl hb).1,fun hk=>hk.elim (hm.sep id oc b hl hb).2 (hm.sep id oc b hl hb).1⟩,hm.inj,hm.rob,fun b hb=>hb.elim (hm.kb b) (hm.rob b),hm.gl⟩
 refine w4D.1 (callsIn_of_wp_marks (F:=fw none) (n:=0) hf hb trivial (f4F hT hH hP body (.inl rfl) an h (f7F hm0 hN hr fn.ntmps) fun e S' a' E' hR hL hk => ?_))
 have fin:(match r7A S' fn.results.toList T with
   | some vs=>K vs S'
   | none=>none)=some r→LeavesInM (fw none) 0 P fn a'.tmps (fun e w'=>∃ us v S' E',e=.returned v∧E'.w=w'∧Later keep E E'∧a4A E' keep S'.objs∧E'.N=S'.next∧q3A E' us v∧K us S'=some r) a'.defers .returning E'.w:=by
  intro hk
  split at hk
  ·rename_i vs hvs
   obtain ⟨Ds,hds,hnd,hD⟩:=hR.defers
   rw [hds]
   refine a1E (keep:=fun b=>keep b∨E.ro b) Ds E' hnd hD fun E2 hs hoth => ?_
   have hR2:Rel (fun b=>keep b∨E.ro b) _ S' { a' with defers:=[] } E2:=
    ⟨hR.size,⟨hR.slots.1,fun i v hv=>a3A.shut hs (hR.slots.2 i v hv)⟩,hR.mems.shut hs,hs.N.trans hR.next,u9A.nil _ _⟩
   obtain ⟨v,h1,h2⟩:=f6F hT hR2 fn hvs
   have hnk:∀ b,keep b∨E.ro b→b ∉ Ds:=fun b hb hm=>(hD b hm).1 hb
   refine ⟨v,h1,vs,v,S',E2,rfl,rfl,⟨fun b hb=>by rw [hs.ro]; exact hL.ro b hb,fun b hb => ?_,fun id hi=>by rw [hs.M]; exact hL.M id hi,by rw [hs.N]; exact hL.N,by rw [hs.size]; exact hL.size,
    fun b hb=>(hoth b (hnk b (.inr hb))).trans (hL.heapRo b hb),fun b hb=>(hoth b (hnk b (.inl hb))).trans (hL.heapKeep b (.inl hb)),hL.out.trans hs.out⟩,?_,hR2.next,h2,hk⟩
   ·rw [hs.ro] at hb
    exact (hL.roN b hb).imp id fun h hk=>h (.inl hk)
   ·exact ⟨hR2.mems.rep,fun id oc b hl hb=>⟨(hR2.mems.sep id oc b hl hb).1,fun hk=>(hR2.mems.sep id oc b hl hb).2 (.inl hk)⟩,hR2.mems.inj,hR2.mems.rob,fun b hb=>hR2.mems.kb b (.inl hb),hR2.mems.gl⟩
  ·cases hk
 cases e with
 | normal=>exact fin hk
 | ret=>exact fin hk
 | exit id=>cases hk
set_option linter.unusedSectionVars false in
theorem g4D:∀ (l:List (Bool×Ty)) (x:c8A l) (m:Mem),r6A l=true→(f4A l x m).2=m
  | [],_,_,_=>rfl
  | [t],x,m,h=>by
    simp only [r6A,Ac] at h
    simp only [f4A,i4A,h9B _ _ _ h.1]
  | t::t'::l,x,m,h=>by
    simp only [r6A,Ac] at h
    have h2:=g4D (t'::l) x.2 m (by simp only [r6A,Ac]; exact h.2)
    simp only [f4A,i4A,h9B _ _ _ h.1]
    exact h2
end
end Go.Rx
namespace Go.Rx
variable [Inhabited GW]
section
variable {P:Program} {T:Tab} (hT:TabOK P T) {keep:Nat→Prop}
theorem d4C:∀ (t:Ty) {cs rest:List AV} {objs objs':Objs} {x:den t},b2A t cs objs=some (x,rest,objs')→∀ j oc,a1A j objs'=some oc→a1A j objs=some oc
 | .int k,cs,rest,objs,objs',x,h=>by
  simp only [b2A] at h
  split at h
  ·split at h
   ·cases h; exact fun _ _ h=>h
   ·cases h
  ·cases h
 | .bool,cs,rest,objs,objs',x,h=>by
  simp only [b2A] at h
  split at h
  ·cases h; exact fun _ _ h=>h
  ·cases h
 | .str,cs,rest,objs,objs',x,h=>by
  simp only [b2A] at h
  split at h
  ·cases h; exact fun _ _ h=>h
  ·cases h
 | .sl t,cs,rest,objs,objs',x,h=>by
  simp only [b2A] at h
  split at h
  ·obtain ⟨_,_,h⟩:=b4A h; cases h; exact fun _ _ h=>h
  ·cases h; exact fun _ _ h=>h
  ·obtain ⟨⟨_,_⟩,hl,h⟩:=b4A h; cases h; exact d7D hl
  ·cases h
 | .own t,cs,rest,objs,objs',x,h=>by
  simp only [b2A] at h
  split at h
  ·cases h; exact fun _ _ h=>h
  ·obtain ⟨⟨_,_⟩,hl,h⟩:=b4A h; cases h; exact d7D hl
  ·cases h
 | .unit,cs,rest,objs,objs',x,h=>by
  simp only [b2A] at h; cases h; exact fun _ _ h=>h
 | .pair a b,cs,rest,objs,objs',x,h=>by
  simp only [b2A] at h
  split at h
  ·rename_i h1
   split at h
   ·rename_i h2
    cases h
    exact fun j oc hj=>d4C a h1 j oc (d4C b h2 j oc hj)
   ·cases h
  ·cases h
 | .arr n t,cs,rest,objs,objs',x,h=>by
  simp only [b2A] at h
  split at h
  ·split at h
   ·obtain ⟨_,_,h⟩:=b4A h; cases h; exact fun _ _ h=>h
   ·cases h
  ·have key:∀ (n:Nat) {cs rest:List AV} {objs objs':Objs} {xs:List (den t)},m8A (b2A t) n cs objs=some (xs,rest,objs')→∀ j oc,a1A j objs'=some oc→a1A j objs=some oc:=by
    intro n
    induction n with
    | zero=>intro cs rest objs objs' xs h; simp only [m8A] at h; cases h; exact fun _ _ h=>h
    | succ n ih =>
     intro cs rest objs objs' xs h
     simp only [m8A] at h
     split at h
     ·rename_i h1
      split at h
      ·rename_i h2
       cases h
       exact fun j oc hj=>d4C t h1 j oc (ih h2 j oc hj)
      ·cases h
     ·cases h
   exact key n h
theorem a2E {t:Bool×Ty} {v:AV} {objs objs':Objs} {x:den t.2} (h:k8A t v objs=some (x,objs')):∀ j oc,a1A j objs'=some oc→a1A j objs=some oc:=by
 rcases c2A h with ⟨_,h⟩ | ⟨_,h⟩
 ·unfold j6A at h
  split at h
  ·split at h
   ·rename_i h1
    cases h
    exact d4C _ h1
   ·cases h
  ·cases h
 ·cases h
theorem g5D:∀ (l:List (Bool×Ty)) {vs:List AV} {objs objs':Objs} {x:c8A l},f9A l vs objs=some (x,objs')→∀ j oc,a1A j objs'=some oc→a1A j objs=some oc
 | [],vs,objs,objs',x,h=>by
  cases vs with
  | nil=>cases h; exact fun _ _ h=>h
  | cons=>cases h
 | [t],vs,objs,objs',x,h=>by
  match vs,h with
  | [v],h=>exact a2E h
 | t::t'::l,vs,objs,objs',x,h=>by
  match vs,h with
  | v::vs,h =>
   simp only [f9A] at h
   split at h
   ·rename_i h1
    split at h
    ·rename_i h2
     cases h
     exact fun j oc hj=>a2E h1 j oc (g5D (t'::l) h2 j oc hj)
    ·cases h
   ·cases h
theorem a3E {E:Env} {objs objs':Objs} (h:a4A E keep objs) (hs:∀ j oc,a1A j objs'=some oc→a1A j objs=some oc):a4A E keep objs' :=
 ⟨fun id oc hl=>h.rep id oc (hs _ _ hl),fun id oc b hl=>h.sep id oc b (hs _ _ hl),fun id id' oc oc' b hl hl'=>h.inj id id' oc oc' b (hs _ _ hl) (hs _ _ hl'),h.rob,h.kb,h.gl⟩
end
section
variable {n:Nat} {keep:Nat→Prop} {A B:Env} {oa ob:Objs}
theorem a4E {id id' b:Nat} {cs:List AV} {t:Ty} {x:den t} {oa1:Objs} (h:Two n keep A B oa ob) (hl:a1A id oa=some (.box cs)) (hb:(A.M id).blk=some b) (hid':id'<B.N) (hM:B.M id'=A.M id)
  (hok:t.okp=true) (hto:b2A t cs (b9A id oa)=some (x,[],oa1)) :
  ∃ A1 B1,g7A keep A A1∧Later keep B B1∧Two n keep A1 B1 oa1 (a9A id' (.box (a8A t x ⟨ob,B.N⟩).1) (a8A t x ⟨ob,B.N⟩).2.objs)∧B1.N=(a8A t x ⟨ob,B.N⟩).2.next∧(B1.M id').blk=some b∧B1.M id'=A.M id:=by
 obtain ⟨_,b',cur,e,hb',hg,hcr⟩:=h.ma.rep _ _ hl
 rw [hb] at hb'; cases hb'
 have hsep:=h.ma.sep _ _ _ hl hb
 have hnl:¬ d8A B ob b:=h.ap b ⟨id,_,hl,hb⟩
 have hdrop:∀ {j oc},a1A j (b9A id oa)=some oc→a1A j oa=some oc∧j≠id:=by
  intro j oc hj
  rw [i3A] at hj
  by_cases e:j=id
  ·rw [Aj e] at hj; cases hj
  ·rw [Ae e] at hj; exact ⟨hj,e⟩
 have hblt:b<A.w.heap.size:=j8A (h.ma.rep _ _ hl).2 hb
 have T0:Two n (fun k=>keep k∨k=b) A B (b9A id oa) ob:=
  ⟨h.w,h.ro,h.M,h.n,
   ⟨fun j oc hj=>h.ma.rep _ _ (hdrop hj).1,fun j oc b' hj hb'=>⟨(h.ma.sep _ _ _ (hdrop hj).1 hb').1,fun hc=>hc.elim (h.ma.sep _ _ _ (hdrop hj).1 hb').2 fun e=>(hdrop hj).2 (h.ma.inj _ _ _ _ b (hdrop hj).1 hl (e▸hb') hb)⟩,
    fun j j' o o' b' hj hj'=>h.ma.inj _ _ _ _ _ (hdrop hj).1 (hdrop hj').1,h.ma.rob,fun b' hb'=>hb'.elim (h.ma.kb b') fun e=>e▸hblt,h.ma.gl⟩,
   ⟨h.mb.rep,fun j oc b' hj hb'=>⟨(h.mb.sep _ _ _ hj hb').1,fun hc=>hc.elim (h.mb.sep _ _ _ hj hb').2 fun e=>hnl ⟨j,oc,hj,e▸hb'⟩⟩,h.mb.inj,h.mb.rob,
    fun b' hb'=>hb'.elim (h.mb.kb b') fun e=>by rw [e,h.w]; exact hblt,h.mb.gl⟩,
   fun b' hb'=>h.ap b' (by obtain ⟨j,oc,h1,h2⟩:=hb'; exact ⟨j,oc,(hdrop h1).1,h2⟩)⟩
 obtain ⟨A1,B1,u,v,g,L,T1,N1,e',c1,c2⟩:=o7C t hok T0 hcr hto
 rw [show v=[] from c2,Bc] at e'
 have hB1:(B1.M id').blk=some b:=by rw [L.M id' hid',hM]; exact hb
 have hw1:B1.w=A.w:=by rw [T1.w]; exact g.w
 have hro1:¬ B1.ro b:=fun hc=>(L.roN b hc).elim (fun hc=>hsep.1 (by rw [←h.ro]; exact hc)) fun hc=>hc (.inr rfl)
 have hput:=i0B (oc:=.box (a8A t x ⟨ob,B.N⟩).1) T1.mb (Bi hid' L.N) hB1 hsep.2 hro1 ⟨b,cur,e,hB1,by rw [hw1]; exact hg,by rw [e']; exact c1⟩
 have gk:=g.later.weaker (keep:=keep) fun _ h=>.inl h
 refine ⟨A1,B1,⟨g.w,g.M,g.N,gk⟩,L.weaker (keep:=keep) fun _ h=>.inl h,⟨T1.w,T1.ro,T1.M,T1.n,T1.ma.weaker fun _ h=>.inl h,hput,fun b' hb' hx' => ?_⟩,N1,hB1,by rw [L.M id' hid',hM]⟩
 obtain ⟨j,oc,h1,h2⟩:=hx'
 rw [d4A] at h1
 by_cases e:j=id'
 ·rw [e,hB1] at h2
  cases h2
  obtain ⟨j',oc',h3,h4⟩:=hb'
  exact (T1.ma.sep _ _ _ h3 h4).2 (.inr rfl)
 ·rw [Ae e] at h1
  exact T1.ap b' hb' ⟨j,oc,h1,h2⟩
end
noncomputable def g6D (T:Tab) (Es:List (Nat×Callee)) (depth:Nat) (fn:Func) (body:Code) (ann:Ann) (pt:Ty) (ins outs:List (Bool×Ty)) (p:den pt) (x:c8A ins):Option (den pt×c8A outs):=
 c1A T (l9A T Es depth) body ann none
  ⟨g3A (.ptr 0 0::(f4A ins x ⟨a9A 0 (.box (a8A pt p ⟨[],1⟩).1) (a8A pt p ⟨[],1⟩).2.objs,(a8A pt p ⟨[],1⟩).2.next⟩).1) (p8A (.tup []) (fn.ntmps - x4A (.ptr 0 0::(f4A ins x ⟨a9A 0 (.box (a8A pt p ⟨[],1⟩).1) (a8A pt p ⟨[],1⟩).2.objs,(a8A pt p ⟨[],1⟩).2.next⟩).1))),
   (f4A ins x ⟨a9A 0 (.box (a8A pt p ⟨[],1⟩).1) (a8A pt p ⟨[],1⟩).2.objs,(a8A pt p ⟨[],1⟩).2.next⟩).2.objs,(f4A ins x ⟨a9A 0 (.box (a8A pt p ⟨[],1⟩).1) (a8A pt p ⟨[],1⟩).2.objs,(a8A pt p ⟨[],1⟩).2.next⟩).2.next⟩ fun e S'=>match e with
  | .exit _=>none
  | _=>match r7A S' fn.results.toList T with
   | some vs=>match a1A 0 S'.objs with
    | some (.box cs')=>match b2A pt cs' (b9A 0 S'.objs) with
     | some (q,[],ob)=>match f9A outs vs ob with
      | some (y,_)=>some (q,y)
      | none=>none
     | _=>none
    | _=>none
   | none=>none
structure s3A (P:Program) (f:FuncId) (pt:Ty) (ins outs:List (Bool×Ty)) (fn:den pt→c8A ins→Option (den pt×c8A outs)):Prop where
 has : ∃ F, P.funcs[f]? = some F ∧ (F.name == "runtime.NumGoroutine") = false ∧ F.body.isNone = false
 okp:pt.okp=true
 ok:∀ (p:den pt) (x:c8A ins) (q:den pt) (y:c8A outs),fn p x=some (q,y)→∀ (keep:Nat→Prop) (E:Env) (id b:Nat) (cs vs:List AV) (vals:List Value) (objs objs1 objs2:Objs),a4A E keep objs→a1A id objs=some (.box cs)→(E.M id).blk=some b →
  b2A pt cs (b9A id objs)=some (p,[],objs1)→c9A E vs vals→f9A ins vs objs1=some (x,objs2) →
  Calls P f (Value.pointer (some ⟨b,0,none⟩)::vals).toArray E.w fun e w'=>∃ us v ob ob1 ob2 cs' E',e=.returned v∧E'.w=w'∧q3A E' us v∧a4A E' (fun c=>keep c∨d8A E objs2 c) ob∧a1A 0 ob=some (.box cs')∧E'.M 0=E.M id ∧
   b2A pt cs' (b9A 0 ob)=some (q,[],ob1)∧f9A outs us ob1=some (y,ob2)∧g3D (fun c=>keep c∨d8A E objs2 c) E E'
section
variable {P:Program} {T:Tab} (hT:TabOK P T)
include hT
theorem f8F (hP : P.follows .mixedOrders = true) {Es : List (Nat × Callee)} {depth : Nat} (hH : HOK P (l9A T Es depth)) {f : FuncId} {F : Func} {body : Code} (hf : P.funcs[f]? = some F) (hb : F.body = some body) (hname : (F.name == "runtime.NumGoroutine") = false)
  {an:Ann} {pt:Ty} (hok:pt.okp=true) {ins outs:List (Bool×Ty)} {fn:den pt→c8A ins→Option (den pt×c8A outs)} (h:∀ p x,g6D T Es depth F body an pt ins outs p x=fn p x):s3A P f pt ins outs fn:=by
 refine ⟨⟨F,hf,hname,by rw [hb]; rfl⟩,hok,fun p x q y hxy keep E id b cs vs vals objs objs1 objs2 hm hl hblk hto hr hp => ?_⟩
 rw [←h] at hxy
 have T0:Two 0 keep E { E with N:=1,M:=fun j=>if j=0 then E.M id else E.M j } objs []:=
  ⟨rfl,rfl,fun _ hi=>absurd hi (Ch _),De _,hm,⟨fun id oc h=>(nomatch h),fun id oc b h=>(nomatch h),fun id id' oc oc' b h=>(nomatch h),hm.rob,hm.kb,hm.gl.mono fun _ hg=>⟨hm.gl.ro hg,rfl⟩⟩,fun b _ hx=>by obtain ⟨id,oc,h,_⟩:=hx; cases h⟩
 obtain ⟨A0,B0,g0,L0,T1,N1,hb0,hM0⟩:=a4E (id':=0) T0 hl hblk (Cg 0) (show (if (0:Nat)=0 then E.M id else E.M 0)=E.M id from Aj rfl) hok hto
 obtain ⟨A,B,g1,L1,T2,N2,hs⟩:=t5B ins T1 (c9A.later g0.later hr) hp
 rw [N1] at T2 N2 hs
 have g:=g0.trans g1
 have hlive:∀ b,d8A E objs2 b→d8A A objs2 b:=fun b ⟨id,oc,h1,h2⟩=>⟨id,oc,h1,by rw [g.M]; exact h2⟩
 have hwB:B.w=E.w:=T2.w.trans g.w
 have hN0:0<B0.N:=Bi (Cg 0) L0.N
 have hbB:(B.M 0).blk=some b:=by rw [L1.M 0 hN0]; exact hb0
 have hNB:0<B.N:=Bi hN0 L1.N
 have hmB:a4A B (fun b=>keep b∨d8A E objs2 b) (f4A ins x ⟨a9A 0 (.box (a8A pt p ⟨[],1⟩).1) (a8A pt p ⟨[],1⟩).2.objs,(a8A pt p ⟨[],1⟩).2.next⟩).2.objs:=
  ⟨T2.mb.rep,fun id oc b h1 h2=>⟨(T2.mb.sep id oc b h1 h2).1,fun hc=>hc.elim (T2.mb.sep id oc b h1 h2).2 fun hc=>T2.ap b (hlive b hc) ⟨id,oc,h1,h2⟩⟩,T2.mb.inj,T2.mb.rob,
   fun b hb=>hb.elim (T2.mb.kb b) fun hc=>by
    obtain ⟨id,oc,h1,h2⟩:=hlive b hc
    have:=j8A (T2.ma.rep _ _ h1).2 h2
    rw [T2.w]; exact this,T2.mb.gl⟩
 unfold g6D at hxy
 rw [←hwB]
 have hsl:c9A B (.ptr 0 0::(f4A ins x ⟨a9A 0 (.box (a8A pt p ⟨[],1⟩).1) (a8A pt p ⟨[],1⟩).2.objs,(a8A pt p ⟨[],1⟩).2.next⟩).1) (Value.pointer (some ⟨b,0,none⟩)::vals):=
  ⟨_,_,rfl,⟨hNB,b,hbB,rfl⟩,hs.toS⟩
 refine (q2C (K:=fun vs S'=>match a1A 0 S'.objs with
   | some (.box cs')=>match b2A pt cs' (b9A 0 S'.objs) with
    | some (q,[],ob)=>match f9A outs vs ob with
     | some (y,_)=>some (q,y)
     | none=>none
    | _=>none
   | _=>none) hT hP hH hf hb hxy hmB N2 hsl).mono ?_
 rintro e w' ⟨us,v,S',E',rfl,rfl,hL,hM,hN,hres,hk⟩
 split at hk
 ·rename_i cs' hl'
  split at hk
  ·rename_i q' ob1 hto'
   split at hk
   ·rename_i y' ob2 hpk
    cases hk
    refine ⟨us,v,S'.objs,ob1,ob2,cs',E',rfl,rfl,hres,hM,hl',by rw [hL.M 0 hNB,L1.M 0 hN0]; exact hM0,hto',hpk,⟨by rw [←hwB]; exact hL.out,fun b hb=>hL.ro b ?_,fun b hb => ?_,?_,fun b hb => ?_,fun b hb => ?_⟩⟩
    ·rw [T2.ro]; exact g.later.ro b hb
    ·rcases hL.roN b hb with hb | hb
     ·rw [T2.ro] at hb
      rcases g.later.roN b hb with h1 | h1
      ·exact .inl h1
      ·exact .inr fun hc=>hc.elim h1 fun hc=>by
        obtain ⟨id,oc,h2,h3⟩:=hlive b hc
        exact (T2.ma.sep _ _ _ h2 h3).1 hb
     ·exact .inr hb
    ·rw [←hwB]; exact hL.size
    ·rw [←hwB]; exact hL.heapRo b (by rw [T2.ro]; exact g.later.ro b hb)
    ·rw [←hwB]; exact hL.heapKeep b hb
   ·cases hk
  ·cases hk
 ·cases hk
omit hT in
theorem f9F {f:FuncId} {pt:Ty} {ins outs:List (Bool×Ty)} {fn:den pt→c8A ins→Option (den pt×c8A outs)} (hC:s3A P f pt ins outs fn) {keep:Nat→Prop} {E:Env} {id:Nat} {cs vs:List AV} {vals:List Value} {objs objs1 objs2:Objs} {p q:den pt} {x:c8A ins} {y:c8A outs}
    (hm:a4A E keep objs) (hl:a1A id objs=some (.box cs)) (hto:b2A pt cs (b9A id objs)=some (p,[],objs1)) (hr:c9A E (.ptr id 0::vs) vals) (hp:f9A ins vs objs1=some (x,objs2)) (hxy:fn p x=some (q,y)) :
    Calls P f vals.toArray E.w fun e w'=>∃ v E',e=.returned v∧E'.w=w'∧Later keep E E' ∧
      a4A E' keep (l2A outs y ⟨a9A id (.box (a8A pt q ⟨objs2,E.N⟩).1) (a8A pt q ⟨objs2,E.N⟩).2.objs,(a8A pt q ⟨objs2,E.N⟩).2.next⟩).2.objs ∧
      E'.N=(l2A outs y ⟨a9A id (.box (a8A pt q ⟨objs2,E.N⟩).1) (a8A pt q ⟨objs2,E.N⟩).2.objs,(a8A pt q ⟨objs2,E.N⟩).2.next⟩).2.next ∧
      a3A E' (l2A outs y ⟨a9A id (.box (a8A pt q ⟨objs2,E.N⟩).1) (a8A pt q ⟨objs2,E.N⟩).2.objs,(a8A pt q ⟨objs2,E.N⟩).2.next⟩).1 v:=by
  obtain ⟨v0,vs0,rfl,hv0,hr'⟩:=hr
  obtain ⟨hid,b,hblk,hv0⟩:=(show id<E.N∧∃ b,(E.M id).blk=some b∧[v0]=[Value.pointer (some ⟨b,0,none⟩)] from hv0)
  cases hv0
  refine (hC.ok p x q y hxy keep E id b cs vs vs0 objs objs1 objs2 hm hl hblk hto hr' hp).mono ?_
  rintro e w' ⟨us,v,ob,ob1,ob2,cs',E',rfl,rfl,hres,hM,hl',hM0,hto',hpk,hF⟩
  have hsub:∀ j oc,a1A j objs2=some oc→a1A j objs=some oc∧j≠id:=fun j oc hj=>by
    have h1:=d4C pt hto j oc (g5D ins hp j oc hj)
    rw [i3A] at h1
    by_cases e:j=id
    · rw [Aj e] at h1; cases h1
    · rw [Ae e] at h1; exact ⟨h1,e⟩
  have hm':=a3E hm fun j oc hj=>(hsub j oc hj).1
  have hL:Later keep E { E' with M:=E.M,N:=E.N }:=
    ⟨hF.ro,fun b hb=>(hF.roN b hb).imp (fun h=>h) fun h hc=>h (.inl hc),fun _ _=>rfl,Ay _,hF.size,hF.heapRo,fun b hb=>hF.heapKeep b (.inl hb),hF.out⟩
  have hM2:a4A { E' with M:=E.M,N:=E.N } keep objs2:=
    ⟨fun id oc hl=>⟨(hm'.rep id oc hl).1,c5A.later hL (fun b hb=>hF.heapKeep b (.inr ⟨id,oc,hl,hb⟩)) (hm'.rep id oc hl).2⟩,
      fun id oc b hl hb=>⟨fun hc=>(hF.roN b hc).elim (hm'.sep id oc b hl hb).1 fun hc=>hc (.inr ⟨id,oc,hl,hb⟩),(hm'.sep id oc b hl hb).2⟩,hm'.inj,hM.rob,fun b hb=>Bi (hm.kb b hb) hF.size,hM.gl.mono fun _ hg=>⟨hM.gl.ro hg,rfl⟩⟩
  have T0:Two 0 keep E' { E' with M:=E.M,N:=E.N } ob objs2:=
    ⟨rfl,rfl,fun id hi=>absurd hi (Ch _),De _,hM.weaker fun _ h=>.inl h,hM2,fun b ⟨id,oc,h1,h2⟩ hx=>(hM.sep id oc b h1 h2).2 (.inr hx)⟩
  obtain ⟨vs',hvr,ev⟩:=hres
  obtain ⟨A0,B0,g0,L0,T1,N1,_,_⟩:=a4E (id':=id) T0 hl' (by rw [hM0]; exact hblk) (show id<E.N from hid) hM0.symm hC.okp hto'
  obtain ⟨A1,B1,g,L,T2,N2,hs⟩:=t5B outs T1 (c9A.later g0.later hvr.toS) hpk
  rw [N1] at T2 N2 hs
  exact ⟨v,B1,rfl,T2.w.trans (g0.trans g).w,(hL.trans L0).trans L,T2.mb,N2,q3A.one ⟨vs',hs,ev⟩⟩
end
end Go.Rx
namespace Go.Rx
variable [Inhabited GW]
section
variable {P:Program} {T:Tab} (hT:TabOK P T) {keep:Nat→Prop}
include hT
theorem g0F (hP : P.follows .mixedOrders = true) {Es : List (Nat × Callee)} {depth : Nat} (hH : HOK P (l9A T Es depth)) {f : FuncId} {F : Func} {body : Code} (hf : P.funcs[f]? = some F) (hb : F.body = some body) (hname : (F.name == "runtime.NumGoroutine") = false)
  {an:Ann} {ins outs:List (Bool×Ty)} {fn:c8A ins→Option (c8A outs)} {g0:Option FuncId} (h:∀ x,b4D T Es depth F body an ins outs x g0=fn x):b7A P f ins outs fn g0:=by
 refine ⟨⟨F,hf,hname,by rw [hb]; rfl⟩,fun x y hxy keep E vs vals objs objs' hm hr hp => ?_⟩
 rw [←h] at hxy
 have T0:Two 0 keep E { E with N:=0 } objs []:=
  ⟨rfl,rfl,fun _ _=>rfl,Ay _,hm,⟨fun id oc h=>(nomatch h),fun id oc b h=>(nomatch h),fun id id' oc oc' b h=>(nomatch h),hm.rob,hm.kb,hm.gl.mono fun _ hg=>⟨hm.gl.ro hg,rfl⟩⟩,fun b _ hx=>by obtain ⟨id,oc,h,_⟩:=hx; cases h⟩
 obtain ⟨A,B,g,L,T1,N1,hs⟩:=t5B ins T0 hr hp
 have hlive:∀ b,d8A E objs' b→d8A A objs' b:=fun b ⟨id,oc,h1,h2⟩=>⟨id,oc,h1,by rw [g.M]; exact h2⟩
 have hwB:B.w=E.w:=T1.w.trans g.w
 have hmB:a4A B (fun b=>keep b∨d8A E objs' b) (f4A ins x ⟨[],0⟩).2.objs:=
  ⟨T1.mb.rep,fun id oc b h1 h2=>⟨(T1.mb.sep id oc b h1 h2).1,fun hc=>hc.elim (T1.mb.sep id oc b h1 h2).2 fun hc=>T1.ap b (hlive b hc) ⟨id,oc,h1,h2⟩⟩,T1.mb.inj,T1.mb.rob,
   fun b hb=>hb.elim (T1.mb.kb b) fun hc=>by
    obtain ⟨id,oc,h1,h2⟩:=hlive b hc
    have:=j8A (T1.ma.rep _ _ h1).2 h2
    rw [T1.w]; exact this,T1.mb.gl⟩
 unfold b4D at hxy
 rw [←hwB]
 refine (q2C (K:=fun vs S'=>match f9A outs vs S'.objs with
   | some (y,_)=>some y
   | none=>none) hT hP hH hf hb hxy hmB N1 (c9A.addW hs.toS)).mono ?_
 rintro e w' ⟨us,v,S',E',rfl,rfl,hL,hM,hN,hres,hk⟩
 split at hk
 ·rename_i y' ob' hpk
  cases hk
  refine ⟨us,v,S'.objs,ob',E',rfl,rfl,hres,hM,hpk,⟨by rw [←hwB]; exact hL.out,fun b hb=>hL.ro b ?_,fun b hb => ?_,?_,fun b hb => ?_,fun b hb => ?_⟩⟩
  ·rw [T1.ro]; exact g.later.ro b hb
  ·rcases hL.roN b hb with hb | hb
   ·rw [T1.ro] at hb
    rcases g.later.roN b hb with h1 | h1
    ·exact .inl h1
    ·exact .inr fun hc=>hc.elim h1 fun hc=>by
      obtain ⟨id,oc,h2,h3⟩:=hlive b hc
      exact (T1.ma.sep _ _ _ h2 h3).1 hb
   ·exact .inr hb
  ·rw [←hwB]; exact hL.size
  ·rw [←hwB]; exact hL.heapRo b (by rw [T1.ro]; exact g.later.ro b hb)
  ·rw [←hwB]; exact hL.heapKeep b hb
 ·cases hk
omit hT
theorem a2A.flat {A B:Env}:∀ {t:Ty} {x:den t} {vs:List Value},t.flat=true→a2A A t x vs→a2A B t x vs
 | .int _,_,_,_,r=>r
 | .bool,_,_,_,r=>r
 | .str,_,_,_,r=>r
 | .sl _,_,_,h,_=>by cases h
 | .own _,_,_,h,_=>by cases h
 | .unit,_,_,_,r=>r
 | .pair a b,x,vs,h,r=>by
  simp only [Ty.flat,Ac] at h
  obtain ⟨u,v,e,r1,r2⟩:=r
  exact ⟨u,v,e,a2A.flat h.1 r1,a2A.flat h.2 r2⟩
 | .arr n t,l,vs,h,r=>by
  obtain ⟨e1,e2,r⟩:=r
  refine ⟨e1,e2,fun i hi => ?_⟩
  obtain ⟨cs,r1,r2⟩:=r i hi
  exact ⟨cs,a2A.flat (by exact h) r1,r2⟩
theorem t6B:∀ {t:Ty},t.flat=true→t.pure=true
 | .int _,_=>rfl
 | .bool,_=>rfl
 | .str,_=>rfl
 | .sl _,h=>by cases h
 | .own _,h=>by cases h
 | .unit,_=>rfl
 | .pair a b,h=>by
  simp only [Ty.flat,Ac] at h
  simp only [Ty.pure,t6B h.1,t6B h.2,Bool.and_self]
 | .arr n t,h=>t6B (t:=t) h
theorem a2A.mono {A B:Env} (hw:B.w=A.w) (hr:∀ b,A.ro b→B.ro b):∀ {t:Ty} {x:den t} {vs:List Value},a2A A t x vs→a2A B t x vs
 | .int _,_,_,r=>r
 | .bool,_,_,r=>r
 | .str,_,_,r=>r
 | .sl t,l,vs,r=>by
  obtain ⟨a,cap,e,hc,r⟩:=r
  refine ⟨a,cap,e,hc,r.imp id ?_⟩
  rintro ⟨b,o,e,hb,r⟩
  refine ⟨b,o,e,hr b hb,fun i hi => ?_⟩
  obtain ⟨cs,r1,r2⟩:=r i hi
  exact ⟨cs,a2A.mono hw hr r1,fun j v hj=>by rw [hw]; exact r2 j v hj⟩
 | .own _,_,_,r=>r
 | .unit,_,_,r=>r
 | .pair a b,x,vs,r=>by
  obtain ⟨u,v,e,r1,r2⟩:=r
  exact ⟨u,v,e,a2A.mono hw hr r1,a2A.mono hw hr r2⟩
 | .arr n t,l,vs,r=>by
  obtain ⟨e1,e2,r⟩:=r
  refine ⟨e1,e2,fun i hi => ?_⟩
  obtain ⟨cs,r1,r2⟩:=r i hi
  exact ⟨cs,a2A.mono hw hr r1,r2⟩
theorem q3C {t:Bool×Ty} {v:AV} {xv:Value} {x:den t.2} {E:Env} {objs objs1:Objs} (hp:t.2.pure=true) (hm:a4A E keep objs) (hrep:a3A E v xv) (hx:k8A t v objs=some (x,objs1)) :
  ∃ E',g7A keep E E'∧a4A E' keep objs1∧a2A E' t.2 x xv.cells.toList∧(∀ b,E'.ro b→E.ro b∨d8A E objs b)∧∀ {B:Env} {m:Mem},a2A B t.2 x xv.cells.toList→d6A B (i4A t x m).1 xv:=by
 obtain ⟨agg,t⟩:=t
 rcases c2A hx with ⟨hc,hx⟩ | ⟨_,hx⟩
 ·simp only [Ac] at hc
  obtain ⟨⟨_,hfit⟩,hag⟩:=hc
  unfold j6A at hx
  split at hx
  ·rename_i cs hcs
   split at hx
   ·rename_i x' oa2 hto
    cases hx
    obtain ⟨E',u,w,g,m,e,t1,c,l1,_⟩:=v1A t hp (y6A hrep hcs) hm hto
    rw [show w=[] from c,Bc] at e
    refine ⟨E',g,m,e▸t1,l1,fun {B m} tB => ?_⟩
    have c1:=o3A tB
    have hl:(a8A t x m).1=enc t x:=by rw [h9B t x m hp]
    show d6A B (if agg then .agg (a8A t x m).1 else o7A (a8A t x m).1) xv
    cases agg with
    | true =>
     cases v <;> first
      | (simp [o1A] at hfit; done)
      | skip
     obtain ⟨vs,rfl,_⟩:=hrep
     exact ⟨vs,rfl,by rw [hl]; simpa [Value.cells] using c1⟩
    | false =>
     have hsc:t.scalar=true:=by simpa using hag
     obtain ⟨c,ec,hcell⟩:=c5C (x:=x) (m:=m) hsc
     have hone:xv.cells = #[xv]:=by
      cases v <;> first
       | (simp [o1A] at hfit; done)
       | (simp [k3A] at hcs; done)
       | exact d9D (a6A.one (E:=E) (show a6A E _ [xv] from hrep) xv (by simp))
     rw [←hl,ec,hone] at c1
     obtain ⟨u,r,e,c3,c4⟩:=c1
     rw [show r=[] from c4,Bc] at e
     have e:u=[xv]:=e.symm
     rw [e] at c3
     rw [ec]
     show d6A B c xv
     cases c <;> first
      | (simp [i6A] at hcell; done)
      | exact c3
   ·cases hx
  ·cases hx
 ·cases hx
theorem q4C:∀ (t:Ty) (x:den t) (rest:List AV) (objs:Objs),t.pure=true→b2A t (g3A (enc t x) rest) objs=some (x,rest,objs)
 | .int k,x,rest,objs,_=>by simp [enc,g3A,b2A]
 | .bool,x,rest,objs,_=>by simp [enc,g3A,b2A]
 | .str,x,rest,objs,_=>by simp [enc,g3A,b2A]
 | .sl t,x,rest,objs,_=>by simp [enc,g3A,b2A,j1A,oM]
 | .own t,_,_,_,h=>by cases h
 | .unit,x,rest,objs,_=>rfl
 | .pair a b,x,rest,objs,h=>by
  simp only [Ty.pure,Ac] at h
  have happ:∀ (l m k:List AV),g3A (g3A l m) k=g3A l (g3A m k):=by
   intro l m k
   induction l with
   | nil=>rfl
   | cons a l ih=>simp only [g3A,ih]
  simp only [enc,b2A,happ,q4C a x.1 _ objs h.1,q4C b x.2 _ objs h.2]
 | .arr n t,x,rest,objs,_=>by simp [enc,g3A,b2A,j1A,oM]
theorem g7D:∀ (l:List AV),g3A l []=l
 | []=>rfl
 | a::l=>by simp only [g3A,g7D l]
theorem g1F {t:Bool×Ty} {v:AV} {x:den t.2} {objs objs1 ob:Objs} {m:Mem} (hp:t.2.pure=true) (hx:k8A t v objs=some (x,objs1)):k8A t (i4A t x m).1 ob=some (x,ob):=by
 obtain ⟨agg,t⟩:=t
 rcases c2A hx with ⟨hc,_⟩ | ⟨_,hx⟩
 ·simp only [Ac] at hc
  obtain ⟨⟨hokp,_⟩,hag⟩:=hc
  have hl:(a8A t x m).1=enc t x:=by rw [h9B t x m hp]
  have henc:=q4C t x [] ob hp
  rw [g7D] at henc
  show (bif t.okp&&o1A agg (if agg then .agg (a8A t x m).1 else o7A (a8A t x m).1)&&(agg||t.scalar) then j6A t (if agg then .agg (a8A t x m).1 else o7A (a8A t x m).1) ob else none)=some (x,ob)
  cases agg with
  | true=>simp [hokp,o1A,j6A,k3A,hl,henc]
  | false =>
   have hsc:t.scalar=true:=by simpa using hag
   obtain ⟨c,ec,hcell⟩:=c5C (x:=x) (m:=m) hsc
   rw [←hl,ec] at henc
   have hco:k3A c=some [c]:=by cases c <;> first | (simp [i6A] at hcell; done) | rfl
   have hfi:o1A false c=true:=by cases c <;> first | (simp [i6A] at hcell; done) | rfl
   simp [hokp,hsc,ec,o7A,hfi,j6A,hco,henc]
 ·cases hx
theorem g2F {t:Bool×Ty} {v:AV} {objs:Objs} {x:den t.2} (h:n1B t v objs=some x) :
  (∃ ty id off n ty' lo len,t=(false,.sl ty)∧v=.bsl id off n ty' lo len)∨(∃ ty id ty' l g cs far,t=(false,.sl ty)∧v=.oref id none∧a1A id objs=some (.hol ty' l g cs far))∨∃ o,k8A t v objs=some (x,o):=by
 unfold n1B at h
 split at h
 ·exact .inl ⟨_,_,_,_,_,_,_,rfl,rfl⟩
 ·split at h
  ·rename_i hl
   exact .inr (.inl ⟨_,_,_,_,_,_,_,rfl,rfl,hl⟩)
  ·right; right
   revert h
   cases hk:k8A (false,.sl _) (.oref _ none) objs with
   | none=>intro h; cases h
   | some q=>intro h; cases h; exact ⟨q.2,rfl⟩
 ·right; right
  revert h
  cases hk:k8A t v objs with
  | none=>intro h; cases h
  | some q=>intro h; cases h; exact ⟨q.2,rfl⟩
theorem a5E {t:Bool×Ty} {v:AV} {xv:Value} {x:den t.2} {E:Env} {objs:Objs} {m:Mem} (hp:t.2.pure=true) (hm:a4A E keep objs) (hrep:a3A E v xv) (h:n1B t v objs=some x) :
  a3A { E with ro:=fun b=>E.ro b∨d8A E objs b } (i4A t x m).1 xv∧k8A t (i4A t x m).1 []=some (x,[]):=by
 rcases g2F h with ⟨ty,id,off,n,ty',lo,len,rfl,rfl⟩ | ⟨ty,id,ty',l,g,cs,far,rfl,rfl,hl⟩ | ⟨o1,h1⟩
 rotate_left
 ·simp only [n1B,hl] at h
  split at h
  ·rename_i l1 y o hcl hto
   obtain ⟨rfl,e1⟩:=n2A hcl
   have e1:l=l1:=e1
   subst e1
   rcases c2A h with ⟨hp',h⟩ | ⟨_,h⟩
   ·have hx:=Bp h
    subst hx
    have ho:=(hm.rep _ _ hl).2
    have hLs:Later keep E { E with ro:=fun b=>E.ro b∨d8A E objs b }:=
     ⟨fun b hb=>.inl hb,fun b hb=>hb.imp (fun h=>h) fun ⟨j,oc,h1,h2⟩=>(hm.sep _ _ _ h1 h2).2,fun _ _=>rfl,Ay _,Ay _,fun _ _=>rfl,fun _ _=>rfl,e1A.refl _⟩
    obtain ⟨us,hus,hk⟩:=v2D (keep:=keep) y ho
    obtain ⟨E1,u,v1,g1,_,e2,t1,c1,l1,_⟩:=v1A ty' hp' hus hm hto
    rw [show v1=[] from c1,Bc] at e2
    subst e2
    have hr:=hk { E with ro:=fun b=>E.ro b∨d8A E objs b } hLs rfl (a2A.mono (A:=E1) (B:={ E with ro:=fun b=>E.ro b∨d8A E objs b }) (by rw [g1.w]) l1 t1)
    have key:=n9C (E:={ E with ro:=fun b=>E.ro b∨d8A E objs b }) (id:=id) (rg:=none) (v:=xv) rfl hr (show a6A E (.oref id none) [xv] from hrep) _ (Later.refl keep _) (fun b hb=>.inr ⟨id,_,hl,hb⟩) rfl
    have hokp:(Ty.sl ty').okp=true:=hp
    exact ⟨key,by simp [i4A,a8A,k8A,o7A,b2A,k3A,j6A,j1A,Ty.scalar,oM,hokp,o1A]⟩
   ·cases h
  ·cases h
 rotate_left
 ·simp only [n1B] at h
  have hb2:=c2A h
  have hw:a0A ty'=a0A ty:=by
   rcases hb2 with ⟨hw,_⟩ | ⟨_,h⟩
   ·exact Ag hw
   ·cases h
  rw [hw,Cn,Al] at h
  split at h
  ·rename_i cs hl
   split at h
   ·rename_i l ha
    have hx:=Bp h
    subst hx
    obtain ⟨hi,hlo,b,o,hb,hv,ho⟩:=hrep
    obtain ⟨h1,h2⟩:=hm.rep _ _ hl
    obtain ⟨b',vs,e,hb',hh,hc⟩:=h2
    rw [hb] at hb'; cases hb'
    obtain ⟨ha1,ha2⟩:=b0C hc ha
    have hlen:((l.drop lo).take len).length=len:=by
     have:=ha2.1
     rw [Ap,Ar]; omega
    have key:a2A { E with ro:=fun b=>E.ro b∨d8A E objs b } (.sl ty) ((l.drop lo).take len) [xv]:=by
     refine ⟨some ⟨b,o,none⟩,n - lo,?_,⟨by rw [hlen]; omega,nofun⟩,?_⟩
     ·rw [hlen]; exact hv
     ·by_cases h0:len=0
      ·left; rw [hlen]; exact h0
      ·right
       refine ⟨b,o,rfl,.inr ⟨id,_,hl,hb⟩,fun i hi' => ?_⟩
       rw [hlen] at hi'
       rcases ho with ho | ho
       ·omega
       have hAt:At E.w b off ((vs.toList.drop off).take (n*a0A ty)):=fun j v hj=>by
        have hj':j<n*a0A ty:=by
         have:=(Cl.1 hj).1
         rw [Ap] at this; omega
        rw [Et hj',Bl] at hj
        simp only [World.cell?,hh]
        simpa using hj
       obtain ⟨cs',r1,r2⟩:=m5C (k:=lo+i) ha2 hAt (by omega)
       refine ⟨cs',?_,fun j v hj => ?_⟩
       ·have e1:((l.drop lo).take len)[i]=l.getD (lo+i) (c4A ty):=by
         have hll:=ha2.1
         rw [List.getElem_take,List.getElem_drop,Cd,Aq (by omega)]; rfl
        rw [e1]
        exact a2A.mono (A:=E) (B:={ E with ro:=fun b=>E.ro b∨d8A E objs b }) rfl (fun b h=>Or.inl h) r1
       ·have:=r2 j v hj
        rw [ho]
        have e2:off+lo*a0A ty'+i*a0A ty+j=off+(lo+i)*a0A ty+j:=by rw [hw,Ca]; omega
        rw [e2]; exact this
    have ho:(Ty.sl ty).okp=true:=hp
    exact ⟨key,by simp [i4A,a8A,k8A,o7A,b2A,k3A,j6A,j1A,Ty.scalar,oM,ho,o1A]⟩
   ·cases h
  ·cases h
 ·obtain ⟨E',g,_,t1,l1,hB⟩:=q3C hp hm hrep h1
  exact ⟨(hB (a2A.mono (by rw [g.w]) l1 t1)).toS,g1F hp h1⟩
theorem a6E {E:Env} {objs:Objs} (hm:a4A E keep objs):∀ (l:List (Bool×Ty)) {vs:List AV} {vals:List Value} {x:c8A l} {m:Mem},r6A l=true→c9A E vs vals→r6B objs l vs=some x →
  c9A { E with ro:=fun b=>E.ro b∨d8A E objs b } (f4A l x m).1 vals∧f9A l (f4A l x m).1 []=some (x,[])
 | [],vs,vals,x,m,_,hr,h=>by
  cases vs with
  | nil=>exact ⟨hr,rfl⟩
  | cons=>cases h
 | [t],vs,vals,x,m,hp,hr,h=>by
  simp only [r6A,Ac] at hp
  match vs,hr,h with
  | [v],hr,h =>
   obtain ⟨xv,r,rfl,r1,r2⟩:=hr
   simp only [r6B] at h
   obtain ⟨h1,h2⟩:=a5E (m:=m) hp.1 hm r1 h
   exact ⟨⟨xv,r,rfl,h1,r2⟩,h2⟩
 | t::t'::l,vs,vals,x,m,hp,hr,h=>by
  simp only [r6A,Ac] at hp
  match vs,hr,h with
  | v::vs,hr,h =>
   obtain ⟨xv,r,rfl,r1,r2⟩:=hr
   simp only [r6B] at h
   split at h
   ·rename_i y h1
    split at h
    ·rename_i ys h2
     cases h
     obtain ⟨a1,a2⟩:=a5E (m:=m) hp.1 hm r1 h1
     obtain ⟨h3,h4⟩:=a6E hm (t'::l) (m:=(i4A t y m).2) (by simp only [r6A,Ac]; exact hp.2) r2 h2
     refine ⟨⟨xv,r,rfl,a1,h3⟩,?_⟩
     simp only [f4A,f9A,a2,h4]
    ·cases h
   ·cases h
theorem a7E:∀ (l:List (Bool×Ty)) {E B:Env} {objs objs':Objs} {us:List AV} {vals:List Value} {x:c8A l} {m:Mem},a1B l=true→a4A E keep objs→c9A E us vals→f9A l us objs=some (x,objs')→j2A B (f4A l x m).1 vals
 | [],E,B,objs,objs',us,vals,x,m,_,hm,hr,h=>by
  cases us with
  | nil=>exact hr
  | cons=>cases h
 | [t],E,B,objs,objs',us,vals,x,m,hf,hm,hr,h=>by
  simp only [a1B,Ac] at hf
  match us,hr,h with
  | [v],hr,h =>
   obtain ⟨xv,r,rfl,r1,r2⟩:=hr
   obtain ⟨E',g,_,t1,l1,hB⟩:=q3C (t6B hf.1) hm r1 h
   exact ⟨xv,r,rfl,hB (a2A.flat hf.1 t1),r2⟩
 | t::t'::l,E,B,objs,objs',us,vals,x,m,hf,hm,hr,h=>by
  simp only [a1B,Ac] at hf
  match us,hr,h with
  | v::us,hr,h =>
   obtain ⟨xv,r,rfl,r1,r2⟩:=hr
   simp only [f9A] at h
   split at h
   ·rename_i y o1 h1
    split at h
    ·rename_i ys o2 h2
     cases h
     obtain ⟨E',g,m1,t1,l1,hB⟩:=q3C (t6B hf.1) hm r1 h1
     exact ⟨xv,r,rfl,hB (a2A.flat hf.1 t1),a7E (t'::l) (by simp only [a1B,Ac]; exact hf.2) m1 (c9A.later g.later r2) h2⟩
    ·cases h
   ·cases h
theorem g8D:∀ (l:List (Bool×Ty)),a1B l=true→r6A l=true
 | [],_=>rfl
 | t::l,h=>by
  simp only [a1B,Ac] at h
  simp only [r6A,t6B h.1,g8D l h.2,Bool.and_self]
theorem e1B {ids:List Nat} {id:Nat} {oc:OC}:∀ {l:Objs},a1A id (inO ids l)=some oc→a1A id l=some oc∧memN id ids=true
 | (j,o)::l,h=>by
  simp only [inO] at h
  cases hb:memN j ids with
  | true =>
   rw [hb] at h
   simp only [Al,a1A] at h ⊢
   cases hj:Nat.beq j id with
   | true =>
    rw [hj] at h
    have:=Ag hj
    subst this
    exact ⟨h,hb⟩
   | false=>rw [hj] at h; exact e1B h
  | false =>
   rw [hb] at h
   simp only [Ai] at h
   obtain ⟨h1,h2⟩:=e1B h
   refine ⟨?_,h2⟩
   simp only [a1A]
   cases hj:Nat.beq j id with
   | true =>
    have:=Ag hj
    subst this
    rw [hb] at h2; cases h2
   | false=>exact h1
theorem b4B {ids:List Nat} {id:Nat} {oc:OC}:∀ {l:Objs},a1A id (r9A ids l)=some oc→a1A id l=some oc∧memN id ids=false
 | (j,o)::l,h=>by
  simp only [r9A] at h
  cases hb:memN j ids with
  | false =>
   rw [hb] at h
   simp only [Ai,a1A] at h ⊢
   cases hj:Nat.beq j id with
   | true =>
    rw [hj] at h
    have:=Ag hj
    subst this
    exact ⟨h,hb⟩
   | false=>rw [hj] at h; exact b4B h
  | true =>
   rw [hb] at h
   simp only [Al] at h
   obtain ⟨h1,h2⟩:=b4B h
   refine ⟨?_,h2⟩
   simp only [a1A]
   cases hj:Nat.beq j id with
   | true =>
    have:=Ag hj
    subst this
    rw [hb] at h2; cases h2
   | false=>exact h1
theorem b5B {ids:List Nat} {n id:Nat} {oc:OC}:∀ {l:Objs},a1A id (a3B ids n l)=some oc→a1A id l=some oc∧(memN id ids||Nat.ble n id)=true
 | (j,o)::l,h=>by
  simp only [a3B] at h
  cases hb:(memN j ids||Nat.ble n j) with
  | true =>
   rw [hb] at h
   simp only [Al,a1A] at h ⊢
   cases hj:Nat.beq j id with
   | true =>
    rw [hj] at h
    have:=Ag hj
    subst this
    exact ⟨h,hb⟩
   | false=>rw [hj] at h; exact b5B h
  | false =>
   rw [hb] at h
   simp only [Ai] at h
   obtain ⟨h1,h2⟩:=b5B h
   refine ⟨?_,h2⟩
   simp only [a1A]
   cases hj:Nat.beq j id with
   | true =>
    have:=Ag hj
    subst this
    rw [hb] at h2; cases h2
   | false=>exact h1
theorem g9D {ids:List Nat} {id:Nat} (hi:memN id ids=false):∀ {l:Objs},a1A id (r9A ids l)=a1A id l
 | []=>rfl
 | (j,o)::l=>by
  simp only [r9A]
  cases hb:memN j ids with
  | false =>
   simp only [Ai,a1A]
   rw [g9D hi]
  | true =>
   simp only [Al,a1A]
   rw [g9D hi]
   cases hj:Nat.beq j id with
   | true =>
    have:=Ag hj
    subst this
    rw [hb] at hi; cases hi
   | false=>rfl
theorem a8E {id:Nat}:∀ {l m:Objs},a1A id m=none→a1A id (a4B l m)=a1A id l
 | [],m,h=>h
 | (j,o)::l,m,h=>by
  simp only [a4B]
  rw [d4A,a8E h]
  simp only [a1A]
  cases hj:Nat.beq j id with
  | true =>
   have:=Ag hj
   subst this
   rw [Aj rfl]; rfl
  | false =>
   have hne:id≠j:=fun e=>by rw [e,Cn] at hj; cases hj
   rw [Ae hne]; rfl
theorem d5C {id:Nat} {oc:OC}:∀ {l m:Objs},a1A id (a4B l m)=some oc→a1A id l=some oc∨a1A id m=some oc
 | [],m,h=>.inr h
 | (j,o)::l,m,h=>by
  simp only [a4B] at h
  rw [d4A] at h
  simp only [a1A]
  cases hj:Nat.beq j id with
  | true =>
   have:=Ag hj
   subst this
   rw [Aj rfl] at h
   exact .inl h
  | false =>
   have hne:id≠j:=fun e=>by rw [e,Cn] at hj; cases hj
   rw [Ae hne] at h
   exact d5C h
theorem a9E {g:FuncId} {j:Nat}:∀ {args ps:List AV},s7B g args=some ps→j∈e4A.idsVs ps→j∈e4A.idsVs args
 | [],_,h,_=>by cases h
 | [v],ps,h,hj=>by
  cases v with
  | func f a b =>
   match a,b,h with
   | [],[],h =>
    have h:(bif Nat.beq f g then some [] else none)=some ps:=h
    rcases c2A h with ⟨_,h⟩ | ⟨_,h⟩
    ·cases h; cases hj
    ·cases h
   | _::_,_,h=>cases h
   | [],_::_,h=>cases h
  | _=>cases h
 | v::w::l,ps,h,hj=>by
  obtain ⟨ps',h',rfl⟩:=b4A (show oM (s7B g (w::l)) (v::·)=some ps from h)
  simp only [e4A.idsVs,Ck] at hj
  rcases hj with hj | hj
  ·simp only [e4A.idsVs,Ck]; exact .inl hj
  ·have:=a9E h' hj
   rw [show e4A.idsVs (v::w::l)=e4A v++e4A.idsVs (w::l) from rfl,Ck]
   exact .inr this
theorem g3F {g:Option FuncId} {args ps:List AV} {j:Nat} (h:k9C g args=some ps) (hj:j∈e4A.idsVs ps):j∈e4A.idsVs args:=by
 cases g with
 | none=>cases h; exact hj
 | some g=>exact a9E h hj
theorem b0E {R:Type} {t:Ty} {bytes:Nat} {args:List AV} {S:St} {K:AV→St→Option R} {r:R} (h:a5C t bytes args S K=some r) :
  ∃ (a b:Nat) (k:Int) (l m:List (den t)) (y:den t) (g:Nat) (cs:List AV) (far:Bool),args=[.oref a none,.int .i64 k,.oref b none]∧a1A a S.objs=some (.arr t l)∧a1A b S.objs=some (.hol t m g cs far)∧m=[y]∧0≤k∧k≤(l.length:Int)∧c6A bytes (l.length+1)=true ∧
   K (.oref S.next none) { S with objs:=a9A S.next (.hol t (l.take k.toNat++(c4A t::l.drop k.toNat)) k.toNat cs false) (b9A b (b9A a S.objs)),next:=S.next+1 }=some r:=by
 unfold a5C at h
 split at h
 ·rename_i a k b
  split at h
  ·rename_i t1 l1 t2 m2 g cs far ha hb
   split at h
   ·rename_i l y hcl hcm
    obtain ⟨rfl,e1⟩:=n2A hcl
    obtain ⟨rfl,e2⟩:=n2A hcm
    have e1:l1=l:=e1
    have e2:m2=[y]:=e2
    subst e1
    rcases c2A h with ⟨hc,h⟩ | ⟨_,h⟩
    ·simp only [Ac,Au] at hc
     exact ⟨a,b,k,l1,m2,y,g,cs,far,rfl,ha,hb,e2,hc.1.1,hc.1.2,hc.2,h⟩
    ·cases h
   ·cases h
  ·cases h
 ·cases h
theorem g4F {t:Ty} {bytes:Nat} {args:List AV} {S S':St} {v:AV} {j:Nat} (h:a5C t bytes args S (fun v S'=>some (v,S'))=some (v,S')) (hj:j ∉ e4A.idsVs args) (hlt:j<S.next):a1A j S'.objs=a1A j S.objs:=by
 obtain ⟨a,b,k,l,m,y,g,cs,far,rfl,_,_,_,_,_,_,h⟩:=b0E h
 cases h
 simp only [e4A.idsVs,e4A,Ck,Bf,List.not_mem_nil,or_false,false_or,not_or] at hj
 show a1A j (a9A S.next _ (b9A b (b9A a S.objs)))=_
 rw [d4A,Ae (El hlt),i3A,Ae hj.2,i3A,Ae hj.1]
theorem g5F {R:Type} {pt:Ty} {ins outs:List (Bool×Ty)} {fn:den pt→c8A ins→Option (den pt×c8A outs)} {args:List AV} {S:St} {K:AV→St→Option R} {r:R} (h:l1C pt ins outs fn args S K=some r) :
    ∃ (id:Nat) (vs cs:List AV) (p:den pt) (x:c8A ins) (objs1 objs2:Objs) (q:den pt×c8A outs),args=.ptr id 0::vs∧a1A id S.objs=some (.box cs)∧b2A pt cs (b9A id S.objs)=some (p,[],objs1)∧f9A ins vs objs1=some (x,objs2)∧fn p x=some q ∧
      K (l2A outs q.2 ⟨a9A id (.box (a8A pt q.1 ⟨objs2,S.next⟩).1) (a8A pt q.1 ⟨objs2,S.next⟩).2.objs,(a8A pt q.1 ⟨objs2,S.next⟩).2.next⟩).1
        { S with objs:=(l2A outs q.2 ⟨a9A id (.box (a8A pt q.1 ⟨objs2,S.next⟩).1) (a8A pt q.1 ⟨objs2,S.next⟩).2.objs,(a8A pt q.1 ⟨objs2,S.next⟩).2.next⟩).2.objs,
                 next:=(l2A outs q.2 ⟨a9A id (.box (a8A pt q.1 ⟨objs2,S.next⟩).1) (a8A pt q.1 ⟨objs2,S.next⟩).2.objs,(a8A pt q.1 ⟨objs2,S.next⟩).2.next⟩).2.next }=some r:=by
  unfold l1C at h
  split at h
  · rename_i id vs
    split at h
    · rename_i cs hl
      split at h
      · rename_i p objs1 hto
        split at h
        · rename_i x objs2 hp
          rw [Option.bind_eq_some_iff] at h
          obtain ⟨q,hq,h⟩:=h
          exact ⟨id,vs,cs,p,x,objs1,objs2,q,rfl,hl,hto,hp,hq,h⟩
        · cases h
      · cases h
    · cases h
  · cases h
def o9B (P:Program) (f:FuncId) (t:Ty) (bytes:Nat):Prop:=
 ∀ (keep:Nat→Prop) (E:Env) (objs:Objs) (a b:Nat) (k:Int) (l m:List (den t)) (y:den t) (g:Nat) (cs:List AV) (far:Bool) (vals:List Value),a4A E keep objs→a1A a objs=some (.arr t l)→a1A b objs=some (.hol t m g cs far)→m=[y] →
  c9A E [.oref a none,.int .i64 k,.oref b none] vals→0≤k→k≤(l.length:Int)→c6A bytes (l.length+1)=true →
  Calls P f vals.toArray E.w fun e w'=>∃ v E',e=.returned v∧E'.w=w'∧Later keep E E'∧a4A E' keep (a9A E.N (.hol t (l.take k.toNat++(c4A t::l.drop k.toNat)) k.toNat cs false) (b9A b (b9A a objs)))∧E'.N=E.N+1∧a3A E' (.oref E.N none) v
def e5C (P : Program) (f : FuncId) : Prop := ∃ F, P.funcs[f]? = some F ∧ (F.name == "runtime.NumGoroutine") = false ∧ F.body.isNone = false
def q5C (P:Program) (f:FuncId):Callee→Prop
 | .sem ins outs fn g=>b7A P f ins outs fn g
 | .insH t bytes=>e5C P f∧o9B P f t bytes
 | .semP pt ins outs fn=>s3A P f pt ins outs fn
 | .inl fn body _ => P.funcs[f]? = some fn ∧ fn.body = some body ∧ (fn.name == "runtime.NumGoroutine") = false
 | .back n=>0<n∧n≤1000000∧∃ D T,TabOK P T∧f3D P T f n D
 | .ext fn=>∀ (E:Env) (args:List AV) (vals:List Value) (v:AV),fn args=some v→c9A E args vals→∃ x,(callFunc f vals.toArray).run P E.w=.ok (.value x) E.w∧a3A E v x
include hT
theorem q6C (hP:P.follows .mixedOrders=true) {Es:List (Nat×Callee)} (hE:∀ f c,a2B f Es=some c→q5C P f c):∀ n,HOK P (l9A T Es n)
 | 0=>⟨fun f args S K=>rfl,fun f args S v S' h=>(nomatch h),fun f args S v S' l h=>(nomatch h),fun f n h=>(nomatch h),fun f args S K r h=>(nomatch h),fun f args S K r h=>(nomatch h),fun f args S K r h=>(nomatch h)⟩
 | n+1=>by
  have ih:=q6C hP hE n
  refine ⟨q0C T Es (n+1),fun f args S v S' h hr => ?_,fun f args S v S' l h hr j hj hlt => ?_,fun f m h => ?_,fun f args S K r h => ?_,fun f args S K r h hx E vals hr => ?_,fun f args S K r h hx keep E vals hm hN hr => ?_⟩
  ·simp only [l9A] at h hr
   split at h
   ·rename_i ins outs fn g he
    rw [he] at hr
    simp only [h,Al] at hr
    obtain ⟨args',_,hr⟩:=m0A hr
    split at hr
    ·rw [Option.bind_eq_some_iff] at hr
     obtain ⟨y,_,hr⟩:=hr
     simp only [Ac] at h
     have hmem:(l2A outs y ⟨S.objs,S.next⟩).2=⟨S.objs,S.next⟩:=g4D hT outs y _ (g8D outs h.1)
     cases hr
     exact ⟨by rw [hmem],by rw [hmem]⟩
    ·cases hr
   ·rename_i fn he
    rw [he] at hr
    dsimp only at hr
    split at hr
    ·cases hr; exact ⟨rfl,rfl⟩
    ·cases hr
   ·cases h
  ·simp only [l9A] at h hr
   split at h
   ·rename_i ins outs fn g he
    cases h
    rw [he] at hr
    dsimp only at hr
    obtain ⟨args',hpop,hr⟩:=m0A hr
    replace hj:j ∉ e4A.idsVs args':=fun hc=>hj (g3F hpop hc)
    rcases c2A hr with ⟨_,hr⟩ | ⟨_,hr⟩
    ·split at hr
     ·rw [Option.bind_eq_some_iff] at hr
      obtain ⟨y,_,hr⟩:=hr
      cases hr
      exact (e8D outs y ⟨S.objs,S.next⟩).2 hlt
     ·cases hr
    ·split at hr
     ·rename_i x objs hx
      rw [Option.bind_eq_some_iff] at hr
      obtain ⟨y,_,hr⟩:=hr
      cases hr
      exact ((e8D outs y ⟨objs,S.next⟩).2 hlt).trans (v7D ins hx hj)
     ·cases hr
   ·rename_i t bytes he
    cases h
    rw [he] at hr
    exact g4F hr hj hlt
   ·rename_i fn body an he
    cases h
    rw [he] at hr
    dsimp only at hr
    generalize n3B S.objs 6 (e4A.idsVs args)=ids at hr hj
    rw [p9C (q0C T Es n),Option.bind_eq_some_iff] at hr
    obtain ⟨⟨e,S1⟩,_,hr⟩:=hr
    have hj':memN j ids=false:=by
     cases hb:memN j ids with
     | false=>rfl
     | true=>exact absurd (o0B.1 hb) hj
    have key:∀ {us:List AV},some (a0C us,{ S with objs:=a4B (r9A ids S.objs) (a3B ids S.next S1.objs),next:=S1.next })=some (v,S')→a1A j S'.objs=a1A j S.objs:=fun e=>by
     cases e
     show a1A j (a4B (r9A ids S.objs) (a3B ids S.next S1.objs))=_
     rw [a8E,g9D hj']
     cases hn:a1A j (a3B ids S.next S1.objs) with
     | none=>rfl
     | some oc =>
      have h2:=(b5B hn).2
      rw [hj',Bool.false_or] at h2
      exact absurd (Bx h2) (by omega)
    dsimp only at hr
    split at hr
    ·cases hr
    ·split at hr
     ·exact key hr
     ·cases hr
   ·rename_i fn he
    rw [he] at hr
    dsimp only at hr
    split at hr
    ·cases hr; rfl
    ·cases hr
   ·cases h
  ·simp only [l9A] at h
   split at h
   ·rename_i n' he
    cases h
    exact hE f _ he
   ·cases h
  ·unfold l9A at h
   dsimp only at h
   split at h
   ·cases h
   ·cases h
   ·rename_i fn he
    exact .inr (by simp only [l9A,he])
   ·rename_i t bytes he
    exact .inl (hE f _ he).1
   ·rename_i pt ins outs fn he
    exact .inl (s3A.has (hE f _ he))
   ·rename_i ins outs fn g he
    exact .inl (hE f _ he).has
   ·rename_i fn body an he
    obtain ⟨h1,h2,h3⟩:=hE f _ he
    exact .inl ⟨fn,h1,h3,by rw [h2]; rfl⟩
  ·simp only [l9A] at hx h
   split at hx
   ·rename_i fn he
    rw [he] at h
    dsimp only at h
    split at h
    ·rename_i v hv
     obtain ⟨x,h1,h2⟩:=hE f _ he E args vals v hv hr
     exact ⟨v,x,h1,h2,h⟩
    ·cases h
   ·cases hx
  ·unfold l9A at h
   dsimp only at h
   split at h
   ·cases h
   ·cases h
   ·rename_i fn he
    simp only [l9A,he] at hx
    cases hx
   ·rename_i t bytes he
    have hI:o9B P f t bytes:=(hE f _ he).2
    obtain ⟨a,b,k,l,m,y,g,cs,far,rfl,ha,hb,hm1,c1,c2,c3,h⟩:=b0E h
    refine (hI keep E S.objs a b k l m y g cs far vals hm ha hb hm1 hr c1 c2 c3).mono ?_
    rintro e w' ⟨v,E',rfl,rfl,h1,h2,h3,h4⟩
    rw [hN] at h2 h3 h4
    exact ⟨_,v,{ S with objs:=a9A S.next (.hol t (l.take k.toNat++(c4A t::l.drop k.toNat)) k.toNat cs false) (b9A b (b9A a S.objs)),next:=S.next+1 },E',rfl,rfl,h1,h2,h3,rfl,h4,h⟩
   ·rename_i pt ins outs fn he
    have hC:s3A P f pt ins outs fn:=hE f _ he
    obtain ⟨id,vs,cs,p,x,objs1,objs2,q,rfl,hl,hto,hp,hxy,h⟩:=g5F h
    refine (f9F hC hm hl hto hr hp hxy).mono ?_
    rintro e w' ⟨v,E',rfl,rfl,h1,h2,h3,h4⟩
    rw [hN] at h2 h3 h4
    exact ⟨_,v,{ S with objs:=(l2A outs q.2 ⟨a9A id (.box (a8A pt q.1 ⟨objs2,S.next⟩).1) (a8A pt q.1 ⟨objs2,S.next⟩).2.objs,(a8A pt q.1 ⟨objs2,S.next⟩).2.next⟩).2.objs,next:=(l2A outs q.2 ⟨a9A id (.box (a8A pt q.1 ⟨objs2,S.next⟩).1) (a8A pt q.1 ⟨objs2,S.next⟩).2.objs,(a8A pt q.1 ⟨objs2,S.next⟩).2.next⟩).2.next },E',rfl,rfl,h1,h2,h3,rfl,h4,h⟩
   ·rename_i ins outs fn g he
    have hC:b7A P f ins outs fn g:=hE f _ he
    obtain ⟨args',hpop,h⟩:=m0A h
    obtain ⟨vals',rfl,hr',_⟩:=f5F hpop hr
    replace hr:=hr'
    cases hb:(a1B outs&&r6A ins) with
    | true =>
     rw [hb] at h
     simp only [Ac] at hb
     simp only [Al] at h
     split at h
     ·rename_i x hx
      rw [Option.bind_eq_some_iff] at h
      obtain ⟨y,hy,h⟩:=h
      obtain ⟨h1,h2⟩:=a6E hm ins (m:=⟨[],0⟩) hb.2 hr hx
      have hm1:a4A { E with ro:=fun b=>E.ro b∨d8A E S.objs b } keep []:=
       ⟨fun id oc h=>(nomatch h),fun id oc b h=>(nomatch h),fun id id' oc oc' b h=>(nomatch h),fun b hb=>hb.elim (hm.rob b) fun ⟨id,oc,h1,h2⟩=>j8A (E:=E) (hm.rep _ _ h1).2 h2,hm.kb,hm.gl.mono fun _ hg=>⟨.inl (hm.gl.ro hg),rfl⟩⟩
      refine (hC.ok x y hy keep _ _ vals' [] [] hm1 h1 h2).mono ?_
      rintro e w' ⟨us,v,ob,ob',E',rfl,rfl,hres,hM,hpk,hF⟩
      have hL:Later keep E { E with w:=E'.w }:=
       ⟨fun _ h=>h,fun _ h=>.inl h,fun _ _=>rfl,Ay _,hF.size,fun b hb=>hF.heapRo b (.inl hb),fun b hb=>hF.heapKeep b (.inl hb),hF.out⟩
      have hM2:a4A { E with w:=E'.w } keep S.objs:=
       ⟨fun id oc hl=>⟨(hm.rep id oc hl).1,c5A.later hL (fun b hb=>hF.heapRo b (.inr ⟨id,oc,hl,hb⟩)) (hm.rep id oc hl).2⟩,hm.sep,hm.inj,fun b hb=>Bi (hm.rob b hb) hF.size,fun b hb=>Bi (hm.kb b hb) hF.size,hm.gl.later hL⟩
      obtain ⟨vs',hvr,ev⟩:=hres
      have hflat:=a7E outs (B:={ E with w:=E'.w }) (m:=⟨S.objs,S.next⟩) hb.1 hM hvr.toS hpk
      have hmem:(l2A outs y ⟨S.objs,S.next⟩).2=⟨S.objs,S.next⟩:=g4D hT outs y _ (g8D outs hb.1)
      refine ⟨_,v,{ S with objs:=(l2A outs y ⟨S.objs,S.next⟩).2.objs,next:=(l2A outs y ⟨S.objs,S.next⟩).2.next },{ E with w:=E'.w },rfl,rfl,hL,?_,?_,rfl,q3A.one ⟨vs',hflat,ev⟩,h⟩
      ·show a4A _ keep (l2A outs y ⟨S.objs,S.next⟩).2.objs
       rw [hmem]; exact hM2
      ·show E.N=(l2A outs y ⟨S.objs,S.next⟩).2.next
       rw [hmem]; exact hN
     ·cases h
    | false =>
     rw [hb] at h
     simp only [Ai] at h
     split at h
     ·rename_i x objs' hx
      rw [Option.bind_eq_some_iff] at h
      obtain ⟨y,hy,h⟩:=h
      refine (hC.ok x y hy keep E args' vals' S.objs objs' hm hr hx).mono ?_
      rintro e w' ⟨us,v,ob,ob',E',rfl,rfl,hres,hM,hpk,hF⟩
      have hm':=a3E hm (g5D ins hx)
      have hL:Later keep E { E' with M:=E.M,N:=E.N }:=
       ⟨hF.ro,fun b hb=>(hF.roN b hb).imp id fun h hc=>h (.inl hc),fun _ _=>rfl,Ay _,hF.size,hF.heapRo,fun b hb=>hF.heapKeep b (.inl hb),hF.out⟩
      have hM2:a4A { E' with M:=E.M,N:=E.N } keep objs' :=
       ⟨fun id oc hl=>⟨(hm'.rep id oc hl).1,c5A.later hL (fun b hb=>hF.heapKeep b (.inr ⟨id,oc,hl,hb⟩)) (hm'.rep id oc hl).2⟩,
        fun id oc b hl hb=>⟨fun hc=>(hF.roN b hc).elim (hm'.sep id oc b hl hb).1 fun hc=>hc (.inr ⟨id,oc,hl,hb⟩),(hm'.sep id oc b hl hb).2⟩,hm'.inj,hM.rob,fun b hb=>Bi (hm.kb b hb) hF.size,hM.gl.mono fun _ hg=>⟨hM.gl.ro hg,rfl⟩⟩
      have T0:Two 0 keep E' { E' with M:=E.M,N:=E.N } ob objs' :=
       ⟨rfl,rfl,fun id hi=>absurd hi (Ch _),De _,hM.weaker fun _ h=>.inl h,hM2,fun b ⟨id,oc,h1,h2⟩ hx=>(hM.sep id oc b h1 h2).2 (.inr hx)⟩
      obtain ⟨vs',hvr,ev⟩:=hres
      obtain ⟨A1,B1,g,L,T1,N1,hs⟩:=t5B outs T0 hvr.toS hpk
      have hN':({ E' with M:=E.M,N:=E.N }:Env).N=S.next:=hN
      rw [hN'] at T1 N1 hs
      refine ⟨_,v,{ S with objs:=(l2A outs y ⟨objs',S.next⟩).2.objs,next:=(l2A outs y ⟨objs',S.next⟩).2.next },B1,rfl,T1.w.trans g.w,hL.trans L,T1.mb,N1,rfl,q3A.one ⟨vs',hs,ev⟩,h⟩
     ·cases h
   ·rename_i fn body an he
    obtain ⟨h1,h2,h3⟩:=hE f _ he
    generalize n3B S.objs 6 (e4A.idsVs args)=ids at h
    have hin:a4A E (fun b=>keep b∨d8A E (r9A ids S.objs) b) (inO ids S.objs):=by
     refine ⟨fun id oc hl=>hm.rep id oc (e1B hl).1,fun id oc b hl hb=>⟨(hm.sep _ _ _ (e1B hl).1 hb).1,fun hk => ?_⟩,fun id id' oc oc' b hl hl'=>hm.inj _ _ _ _ _ (e1B hl).1 (e1B hl').1,hm.rob,fun b hb => ?_,hm.gl⟩
     ·rcases hk with hk | ⟨id',oc',h4,h5⟩
      ·exact (hm.sep _ _ _ (e1B hl).1 hb).2 hk
      ·have:=hm.inj _ _ _ _ _ (e1B hl).1 (b4B h4).1 hb h5
       subst this
       have h6:=(e1B hl).2
       rw [(b4B h4).2] at h6; cases h6
     ·rcases hb with hb | ⟨id',oc',h4,h5⟩
      ·exact hm.kb b hb
      ·exact j8A (hm.rep _ _ (b4B h4).1).2 h5
    refine (q2C (K:=fun vs S'=>K (a0C vs) { S with objs:=a4B (r9A ids S.objs) (a3B ids S.next S'.objs),next:=S'.next }) hT hP ih h1 h2 h hin hN hr).mono ?_
    rintro e w' ⟨us,v,S',E',rfl,rfl,hL,hM,hN',hres,hk⟩
    refine ⟨_,v,{ S with objs:=a4B (r9A ids S.objs) (a3B ids S.next S'.objs),next:=S'.next },E',rfl,rfl,hL.weaker fun _ h=>.inl h,?_,hN',rfl,hres.one,hk⟩
    have hout:∀ id oc,a1A id (r9A ids S.objs)=some oc→id<E.N∧E'.M id=E.M id∧c5A E (E.M id) oc:=fun id oc hl =>
     have h0:=hm.rep _ _ (b4B hl).1
     ⟨h0.1,hL.M id h0.1,h0.2⟩
    have hnk:∀ id oc b,a1A id (r9A ids S.objs)=some oc→(E.M id).blk=some b→¬ E'.ro b:=fun id oc b hl hb hr'=>by
     rcases hL.roN b hr' with h4 | h4
     ·exact (hm.sep _ _ _ (b4B hl).1 hb).1 h4
     ·exact h4 (.inr ⟨id,oc,hl,hb⟩)
    refine ⟨fun id oc hl => ?_,fun id oc b hl hb => ?_,fun id id' oc oc' b hl hl' hb hb' => ?_,hM.rob,fun b hb=>hM.kb b (.inl hb),hM.gl⟩
    ·rcases d5C hl with hl | hl
     ·obtain ⟨a1,a2,a3⟩:=hout id oc hl
      refine ⟨Bi a1 hL.N,?_⟩
      rw [a2]
      exact c5A.later hL (fun b hb=>hL.heapKeep b (.inr ⟨id,oc,hl,hb⟩)) a3
     ·exact hM.rep _ _ (b5B hl).1
    ·rcases d5C hl with hl | hl
     ·obtain ⟨a1,a2,a3⟩:=hout id oc hl
      rw [a2] at hb
      exact ⟨hnk id oc b hl hb,(hm.sep _ _ _ (b4B hl).1 hb).2⟩
     ·exact ⟨(hM.sep _ _ _ (b5B hl).1 hb).1,fun hk=>(hM.sep _ _ _ (b5B hl).1 hb).2 (.inl hk)⟩
    ·rcases d5C hl with hl | hl <;> rcases d5C hl' with hl' | hl'
     ·rw [(hout id oc hl).2.1] at hb
      rw [(hout id' oc' hl').2.1] at hb'
      exact hm.inj _ _ _ _ _ (b4B hl).1 (b4B hl').1 hb hb'
     ·rw [(hout id oc hl).2.1] at hb
      exact absurd (.inr ⟨id,oc,hl,hb⟩) (hM.sep _ _ _ (b5B hl').1 hb').2
     ·rw [(hout id' oc' hl').2.1] at hb'
      exact absurd (.inr ⟨id',oc',hl',hb'⟩) (hM.sep _ _ _ (b5B hl).1 hb).2
     ·exact hM.inj _ _ _ _ _ (b5B hl).1 (b5B hl').1 hb hb'
end
end Go.Rx
namespace Go.Rx
variable [Inhabited GW]
noncomputable def t7B (T:Tab) (E:List (Nat×Callee)) (depth:Nat) (fn:Func) (body:Code) (ann:Ann) (args:List AV) (outs:List (Bool×Ty)):Option (c8A outs):=
 c1A T (l9A T E depth) body ann none ⟨g3A args (p8A (.tup []) (fn.ntmps - x4A args)),[],0⟩ fun e S'=>match e with
  | .exit _=>none
  | _=>match r7A S' fn.results.toList T with
   | some vs=>match f9A outs vs S'.objs with
    | some (y,_)=>some y
    | none=>none
   | none=>none
section
variable {P:Program} {T:Tab} (hT:TabOK P T)
include hT
theorem g6F (hP : P.follows .mixedOrders = true) {Es : List (Nat × Callee)} {depth : Nat} (hH : HOK P (l9A T Es depth)) {f : FuncId} {F : Func} {body : Code} (hf : P.funcs[f]? = some F) (hb : F.body = some body) (hname : (F.name == "runtime.NumGoroutine") = false)
  {an:Ann} {t:Ty} (ht:t.pure=true) {outs:List (Bool×Ty)} {fn:List (den t)→Option (c8A outs)} (h1:t7B T Es depth F body an [.nilsl] outs=fn []) (h2:∀ l,t7B T Es depth F body an [.slv t l] outs=fn l) :
  b7A P f [(false,.sl t)] outs fn:=by
 refine ⟨⟨F,hf,hname,by rw [hb]; rfl⟩,fun x y hxy keep E vs vals objs objs' hm hr hp => ?_⟩
 match vs,hr,hp with
 | [v],hr,hp =>
  obtain ⟨xv,r,rfl,r1,r2⟩:=hr
  have r2:r=[]:=r2
  subst r2
  obtain ⟨E1,g,m1,t1,l1,hB⟩:=q3C (t:=(false,.sl t)) (by simpa [Ty.pure] using ht) hm r1 hp
  have hx1:a2A E1 (.sl t) x [xv]:=hB (m:=⟨[],0⟩) t1
  let B:Env:={ E1 with N:=0 }
  have hx2:a2A B (.sl t) x [xv]:=a2A.same (A:=E1) (B:=B) rfl rfl hx1
  have hwB:B.w=E.w:=g.w
  have hlive:∀ b,d8A E objs' b→d8A E1 objs' b:=fun b ⟨id,oc,h1,h2⟩=>⟨id,oc,h1,by rw [g.M]; exact h2⟩
  have hmB:a4A B (fun b=>keep b∨d8A E objs' b) []:=
   ⟨fun id oc h=>(nomatch h),fun id oc b h=>(nomatch h),fun id id' oc oc' b h=>(nomatch h),m1.rob,fun b hb=>hb.elim (m1.kb b) fun hc=>by
    obtain ⟨id,oc,h3,h4⟩:=hlive b hc
    exact j8A (E:=E1) (m1.rep _ _ h3).2 h4,m1.gl.mono fun _ hg=>⟨m1.gl.ro hg,rfl⟩⟩
  have fin:∀ (a:AV),a3A B a xv→t7B T Es depth F body an [a] outs=some y→Calls P f [xv].toArray E.w fun e w'=>∃ us v ob ob' E',e=.returned v∧E'.w=w'∧q3A E' us v∧a4A E' (fun b=>keep b∨d8A E objs' b) ob∧f9A outs us ob=some (y,ob') ∧
    g3D (fun b=>keep b∨d8A E objs' b) E E':=by
   intro a ha he
   unfold t7B at he
   rw [←hwB]
   refine (q2C (K:=fun vs S'=>match f9A outs vs S'.objs with
    | some (y,_)=>some y
    | none=>none) hT hP hH hf hb he hmB rfl ⟨xv,[],rfl,ha,rfl⟩).mono ?_
   rintro e w' ⟨us,v,S',E',rfl,rfl,hL,hM,hN,hres,hk⟩
   split at hk
   ·rename_i y' ob' hpk
    cases hk
    refine ⟨us,v,S'.objs,ob',E',rfl,rfl,hres,hM,hpk,⟨by rw [←hwB]; exact hL.out,fun b hb=>hL.ro b (g.later.ro b hb),fun b hb => ?_,?_,fun b hb => ?_,fun b hb => ?_⟩⟩
    ·rcases hL.roN b hb with hb | hb
     ·rcases g.later.roN b hb with h3 | h3
      ·exact .inl h3
      ·exact .inr fun hc=>hc.elim h3 fun hc=>by
        obtain ⟨id,oc,h4,h5⟩:=hlive b hc
        exact (m1.sep _ _ _ h4 h5).1 hb
     ·exact .inr hb
    ·rw [←hwB]; exact hL.size
    ·rw [←hwB]; exact hL.heapRo b (g.later.ro b hb)
    ·rw [←hwB]; exact hL.heapKeep b hb
   ·cases hk
  obtain ⟨a,cap,e1,⟨hc,hn⟩,hrest⟩:=hx2
  have e1:xv=.slice a x.length cap:=by simpa using e1
  cases a with
  | none =>
   have hx0:x.length=0:=hrest.elim id fun ⟨_,_,h,_⟩=>(nomatch h)
   have hxe:x=[]:=Br.1 hx0
   have hcap:=hn rfl
   refine fin .nilsl ?_ ?_
   ·show [xv]=_
    rw [e1,hx0,hcap]
   ·rw [h1,←hxe]; exact hxy
  | some a =>
   refine fin (.slv t x) ?_ ?_
   ·exact ⟨a2A.same (A:=E1) (B:=B) rfl rfl hx1,a,x.length,cap,by rw [e1]⟩
   ·rw [h2]; exact hxy
end
end Go.Rx
namespace Go.Rx
variable [Inhabited GW]
end Go.Rx
namespace Go.Rx
variable [Inhabited GW]
def wf:(t:Ty)→den t→Prop
 | .int k,x=>k.min≤x∧x≤k.max
 | .bool,_=>True
 | .str,s=>s.size≤maxLen
 | .sl t,l=>l.length≤maxLen∧∀ x∈l,wf t x
 | .own t,l=>l.length≤maxLen∧∀ x∈l,wf t x
 | .unit,_=>True
 | .pair a b,x=>wf a x.1∧wf b x.2
 | .arr n t,l=>l.length=n∧∀ x∈l,wf t x
def wfL:(l:List (Bool×Ty))→c8A l→Prop
 | [],_=>True
 | [t],x=>wf t.2 x
 | t::t'::r,x=>wf t.2 x.1∧wfL (t'::r) x.2
def e2B (P:Program) (r:TypeId→Ty→Bool):List Field→Nat→Ty→Bool
 | [],_,ty=>match ty with
  | .unit=>true
  | _=>false
 | f::l,off,ty=>match l with
  | []=>Nat.beq f.offset off&&r f.type ty&&Nat.beq (P.cellsOf f.type) (a0A ty)
  | _::_=>match ty with
   | .pair a b=>Nat.beq f.offset off&&r f.type a&&Nat.beq (P.cellsOf f.type) (a0A a)&&e2B P r l (off+a0A a) b
   | _=>false
def t8B (P:Program):Nat→TypeId→Ty→Bool
 | 0,_,_=>false
 | n+1,t,ty=>match P.underlying t with
  | some .bool=>(match ty with
   | .bool=>true
   | _=>false)
  | some (.int k)=>(match ty with
   | .int k'=>decide (k=k')
   | _=>false)
  | some .string=>(match ty with
   | .str=>true
   | _=>false)
  | some (.slice e)=>(match ty with
   | .sl t'=>t8B P n e t'&&Nat.beq (P.cellsOf e) (a0A t')&&Nat.blt 0 (a0A t')
   | _=>false)
  | some (.array m e)=>(match ty with
   | .arr m' t'=>Nat.beq m m'&&t8B P n e t'&&Nat.beq (P.cellsOf e) (a0A t')&&Nat.beq (P.cellsOf t) (m*a0A t')
   | _=>false)
  | some (.struct fs)=>e2B P (t8B P n) fs.toList 0 ty&&Nat.beq (P.cellsOf t) (a0A ty)
  | _=>false
theorem h0D {α β:Type} {f:α→Option β}:∀ {l:List α} {r:List β},l.mapM f=some r→r.length=l.length∧∀ (i:Nat) (a:α),l[i]? = some a→∃ y,f a=some y∧r[i]? = some y
 | [],r,h=>by
  simp only [List.mapM_nil] at h
  cases h
  exact ⟨rfl,fun i a h=>by simp at h⟩
 | a::l,r,h=>by
  rw [List.mapM_cons] at h
  cases hf:f a with
  | none=>rw [hf] at h; cases h
  | some y =>
   rw [hf] at h
   cases hl:l.mapM f with
   | none=>rw [hl] at h; cases h
   | some ys =>
    rw [hl] at h
    cases h
    obtain ⟨h1,h2⟩:=h0D hl
    refine ⟨by simp [h1],fun i b hb => ?_⟩
    cases i with
    | zero=>cases hb; exact ⟨y,hf,rfl⟩
    | succ i=>exact h2 i b (by simpa using hb)
theorem h1D {α:Type} {p:Nat→α→Prop}:∀ (n:Nat),(∀ i,i<n→∃ x,p i x)→∃ l:List α,l.length=n∧∀ i,(h:i<l.length)→p i l[i]
 | 0,_=>⟨[],rfl,fun i h=>absurd h (Ch _)⟩
 | n+1,h=>by
  obtain ⟨l,hl,hp⟩:=h1D n fun i hi=>h i (Eh hi)
  obtain ⟨x,hx⟩:=h n (Cg _)
  refine ⟨l++[x],by simp [hl],fun i hi => ?_⟩
  rcases Dh i l.length with h' | h'
  ·rw [List.getElem_append_left h']; exact hp i h'
  ·have:i=n:=by simp at hi; omega
   subst this
   rw [List.getElem_append_right h']
   simpa [hl] using hx
theorem b1E {α:Type} {q:α→Prop} {l:List α} (h:∀ i,(hi:i<l.length)→q l[i]):∀ x∈l,q x:=by
 intro x hx
 obtain ⟨i,hi,e⟩:=List.getElem_of_mem hx
 rw [←e]; exact h i hi
section
variable {H:Type} {enc:TypeId×Value→H} {P:Program} {E:Env} {base:Nat} {spare:Nat→Bool} {held:Bool}
theorem b2E {fuel:Nat} {r:TypeId→Ty→Bool} {cs:List Value}
  (ih:∀ {t:TypeId} {ty:Ty} {vs:List Value} {d:DataW H×List MemPlace},r t ty=true→DataW.trod enc P E.w base spare held fuel t vs=some d→∃ x:den ty,a2A E ty x vs∧wf ty x) :
  ∀ (fs:List Field) (off:Nat) (ty:Ty),e2B P r fs off ty=true→(∀ f∈fs,∃ y,DataW.trod enc P E.w base spare held fuel f.type ((cs.drop f.offset).take (P.cellsOf f.type))=some y) →
   cs.length=off+a0A ty→∃ x:den ty,a2A E ty x (cs.drop off)∧wf ty x
 | [],off,ty,h,_,hl=>by
  cases ty with
  | unit =>
   refine ⟨(),?_,trivial⟩
   show cs.drop off=[]
   exact List.drop_eq_nil_of_le (by rw [hl]; exact Ay _)
  | _=>cases h
 | [f],off,ty,h,hf,hl=>by
  simp only [e2B,Ac] at h
  obtain ⟨⟨h1,h2⟩,h3⟩:=h
  obtain ⟨y,hy⟩:=hf f Ax
  rw [Ag h1,Ag h3,Bn (by rw [Ar,hl]; omega)] at hy
  exact ih h2 hy
 | f::g::l,off,ty,h,hf,hl=>by
  cases ty with
  | pair a b =>
   simp only [e2B,Ac] at h
   obtain ⟨⟨⟨h1,h2⟩,h3⟩,h4⟩:=h
   obtain ⟨y,hy⟩:=hf f Ax
   rw [Ag h1,Ag h3] at hy
   obtain ⟨x,hx,wx⟩:=ih h2 hy
   obtain ⟨z,hz,wz⟩:=b2E ih (g::l) (off+a0A a) b h4 (fun f' hf'=>hf f' (Bb _ hf')) (by rw [hl]; simp only [a0A]; omega)
   refine ⟨(x,z),⟨(cs.drop off).take (a0A a),cs.drop (off+a0A a),?_,hx,hz⟩,wx,wz⟩
   rw [←List.drop_drop,Dt]
  | _=>cases h
theorem b3E {a:Addr} {n:Nat} {cs:List Value} (h:E.w.cells? base a n=some cs):cs.length=n∧∀ j v,cs[j]? = some v→E.w.cell? (a.add j)=some v:=by
 unfold World.cells? at h
 split at h
 ·obtain ⟨h1,h2⟩:=h0D h
  rw [List.length_range] at h1
  refine ⟨h1,fun j v hj => ?_⟩
  have hlt:j<n:=by rw [←h1]; exact (Cl.1 hj).1
  obtain ⟨y,h3,h4⟩:=h2 j j (by simp [hlt])
  rw [hj] at h4; cases h4
  exact h3
 ·cases h
theorem g7F {b o:Nat} (n m:Nat):((⟨b,o,none⟩:Addr).add n).add m=⟨b,o+n+m,none⟩:=by
 unfold Addr.add
 split <;> split <;> simp_all
theorem q7C (hro:∀ b,b<E.w.heap.size→E.ro b):∀ (n fuel:Nat) {t:TypeId} {ty:Ty} {cs:List Value} {d:DataW H×List MemPlace},t8B P n t ty=true→DataW.trod enc P E.w base spare held fuel t cs=some d →
  ∃ x:den ty,a2A E ty x cs∧wf ty x
 | 0,_,_,_,_,_,h,_=>nomatch h
 | n+1,fuel,t,ty,cs,d,h,hd=>by
  unfold t8B at h
  split at h
  ·rename_i hu
   obtain ⟨b,rfl,_⟩:=DataW.trod_bool hu hd
   cases ty with
   | bool=>exact ⟨b,rfl,trivial⟩
   | _=>cases h
  ·rename_i k hu
   obtain ⟨m,rfl,_,hw⟩:=DataW.trod_int hu hd
   cases ty with
   | int k' =>
    have hk:k=k':=Dl h
    subst hk
    refine ⟨m,rfl,?_⟩
    simpa [Lit.wf,wf] using hw
   | _=>cases h
  ·rename_i hu
   obtain ⟨s,rfl,_,hs⟩:=DataW.trod_string hu hd
   cases ty with
   | str=>exact ⟨s,rfl,hs⟩
   | _=>cases h
  ·rename_i e hu
   cases ty with
   | sl t' =>
    simp only [Ac] at h
    obtain ⟨⟨h1,h2⟩,h3⟩:=h
    have h2:=Ag h2
    have h3:0<a0A t':=by simpa [Nat.blt_eq] using h3
    rcases DataW.trod_slice hu hd with ⟨rfl,_⟩ | ⟨a,len,cap,elems,rest,m,_,rfl,_,hb,hlc,hcm,hel,hget,_⟩
    ·exact ⟨[],⟨none,0,rfl,⟨Ay _,fun _=>rfl⟩,.inl rfl⟩,De _,fun x hx=>nomatch hx⟩
    ·rw [h2] at hget
     have each:∀ i,i<len→∃ cs',E.w.cells? base (a.add (i*a0A t')) (a0A t')=some cs'∧∃ x:den t',a2A E t' x cs'∧wf t' x:=by
      intro i hi
      have:=hget i hi
      have hlt:i<elems.length:=by rw [hel]; exact hi
      rw [Aq hlt,Option.bind_eq_some_iff] at this
      obtain ⟨cs',h4,h5⟩:=this
      exact ⟨cs',h4,q7C hro n m h1 h5⟩
     obtain ⟨l,hl,hp⟩:=h1D (p:=fun i (x:den t')=>∃ cs',E.w.cells? base (a.add (i*a0A t')) (a0A t')=some cs'∧a2A E t' x cs'∧wf t' x) len fun i hi=>by
      obtain ⟨cs',h4,x,h5,h6⟩:=each i hi
      exact ⟨x,cs',h4,h5,h6⟩
     refine ⟨l,⟨some a,cap,by rw [hl],⟨by rw [hl]; exact hlc,fun h=>nomatch h⟩,?_⟩,by rw [hl]; omega,b1E fun i hi=>(hp i hi).choose_spec.2.2⟩
     rcases Nat.eq_zero_or_pos l.length with h0 | h0
     ·exact .inl h0
     ·right
      obtain ⟨cs',h4,h5,_⟩:=hp 0 h0
      obtain ⟨h6,h7⟩:=b3E h4
      have h8:=h7 0 (cs'[0]'(by omega)) (Aq _)
      have ha:a.spot=none∧a.block<E.w.heap.size:=by
       simp only [Eb,Addr.add,Ep,World.cell?] at h8
       split at h8
       ·rename_i c _ _ hc
        split at h8
        ·cases h8
        ·rename_i hs
         exact ⟨by simpa using hs,(Cb.1 hc).1⟩
       ·cases h8
      obtain ⟨b,o,sp⟩:=a
      obtain ⟨rfl,hlt⟩:=ha
      refine ⟨b,o,rfl,hro b hlt,fun i hi => ?_⟩
      obtain ⟨cs',h4,h5,_⟩:=hp i hi
      refine ⟨cs',h5,fun j v hj => ?_⟩
      have:=(b3E h4).2 j v hj
      rwa [g7F] at this
   | _=>cases h
  ·rename_i m e hu
   cases ty with
   | arr m' t' =>
    simp only [Ac] at h
    obtain ⟨⟨⟨h0,h1⟩,h2⟩,h3⟩:=h
    have h0:=Ag h0
    have h2:=Ag h2
    have h3:=Ag h3
    subst h0
    obtain ⟨xs,f,_,_,hlen,hx,hget⟩:=DataW.trod_array hu hd
    rw [h2] at hget
    obtain ⟨l,hl,hp⟩:=h1D (p:=fun i (x:den t')=>a2A E t' x ((cs.drop (i*a0A t')).take (a0A t'))∧wf t' x) m fun i hi=>by
     have:=hget i hi
     have hlt:i<xs.length:=by rw [hx]; exact hi
     rw [Aq hlt] at this
     exact q7C hro n f h1 this
    refine ⟨l,⟨hl,by rw [hlen,h3],fun i hi=>⟨_,(hp i hi).1,fun j v hj => ?_⟩⟩,hl,b1E fun i hi=>(hp i hi).2⟩
    rw [Bt] at hj
    split at hj
    ·rwa [Bl] at hj
    ·cases hj
   | _=>cases h
  ·rename_i fs hu
   simp only [Ac] at h
   obtain ⟨h1,h2⟩:=h
   obtain ⟨xs,f,_,_,hlen,hx,hget⟩:=DataW.trod_struct hu hd
   have:=b2E (enc:=enc) (P:=P) (E:=E) (base:=base) (spare:=spare) (held:=held) (fuel:=f) (cs:=cs) (fun {t ty vs d} h3 h4=>q7C hro n f h3 h4) fs.toList 0 ty h1 (fun fl hfl=>by
    obtain ⟨i,hi,e⟩:=List.getElem_of_mem hfl
    have h5:fs[i]? = some fl:=by rw [←e]; simp at hi ⊢
    have h6:=hget i fl h5
    have h7:i<xs.length:=by rw [hx]; simpa using hi
    rw [Aq h7] at h6
    exact ⟨_,h6⟩) (by rw [hlen,Dk]; exact Ag h2)
   simpa using this
  ·cases h
def h2D (P:Program) (t:TypeId):Bool:=
 match P.underlying t with
 | some (.struct _)=>true
 | some (.array ..)=>true
 | _=>false
def h3D (P:Program) (n:Nat) (t:TypeId) (a:Bool×Ty):Bool:=
 t8B P n t a.2&&a.2.pure&&a.2.okp&&(a.1||a.2.scalar)&&(h2D P t==a.1)
def i3B (P:Program) (n:Nat):List TypeId→List (Bool×Ty)→Bool
 | [],[]=>true
 | t::ts,a::l=>h3D P n t a&&i3B P n ts l
 | _,_=>false
theorem b4E (hro:∀ b,b<E.w.heap.size→E.ro b) {n:Nat} {t:TypeId} {a:Bool×Ty} {v:Value} {d:DataW H} {p:List MemPlace} {m:Mem} {r:Reach} {w:World} {b0:Nat} {ob:Objs} (h:h3D P n t a=true)
  (hv:Value.okWide P w r b0 t v) (hd:DataW.Trod enc P E.w base spare held t v d p):∃ x:den a.2,wf a.2 x∧a3A E (i4A a x m).1 v∧k8A a (i4A a x m).1 ob=some (x,ob)∧(i4A a x m).2=m:=by
 obtain ⟨agg,ty⟩:=a
 simp only [h3D,Ac] at h
 obtain ⟨⟨⟨⟨h1,h2⟩,h3⟩,h4⟩,h5⟩:=h
 obtain ⟨fuel,hd⟩:=hd
 obtain ⟨x,hx,wx⟩:=q7C hro n fuel h1 hd
 have hl:=h9B ty x m h2
 have henc:=q4C ty x [] ob h2
 rw [g7D] at henc
 refine ⟨x,wx,?_,?_,by show (a8A ty x m).2=m; rw [hl]⟩
 ·cases agg with
  | true =>
   have:∃ cs,v=.agg cs:=by
    unfold h2D at h5
    unfold Value.okWide at hv
    split at h5
    ·rename_i fs hu
     rw [hu] at hv
     obtain ⟨cs,e,_⟩:=hv
     exact ⟨cs,e⟩
    ·rename_i hu
     rw [hu] at hv
     obtain ⟨cs,e,_⟩:=hv
     exact ⟨cs,e⟩
    ·cases h5
   obtain ⟨cs,rfl⟩:=this
   have he:(i4A (true,ty) x m).1=.agg (Rx.enc ty x):=by show AV.agg (a8A ty x m).1=_; rw [hl]
   rw [he]
   exact ⟨cs.toList,by simp,o3A hx⟩
  | false =>
   have hsc:ty.scalar=true:=by simpa using h4
   obtain ⟨c,ec,hcell⟩:=c5C (x:=x) (m:=m) hsc
   have he:(i4A (false,ty) x m).1=c:=by show o7A (a8A ty x m).1=c; rw [ec]; rfl
   have hvc:v.cells = #[v]:=by
    unfold h2D at h5
    cases v with
    | agg cs =>
     exfalso
     unfold Value.okWide at hv
     split at h5
     ·cases h5
     ·cases h5
     ·rename_i q1 q2
      cases hu:P.underlying t with
      | none=>rw [hu] at hv; simp [Cell.okWide,Cell.ok,hu] at hv
      | some u =>
       rw [hu] at hv
       cases u <;> first
        | exact q1 _ hu
        | exact q2 _ _ hu
        | simp [Cell.okWide,Cell.ok,hu] at hv
    | _=>rfl
   rw [he]
   rw [hvc] at hx
   have h6:=o3A hx
   have h7:Rx.enc ty x=[c]:=by rw [←ec,hl]
   rw [h7] at h6
   obtain ⟨u,r',e1,e2,e3⟩:=h6
   have e3:r'=[]:=e3
   rw [e3,Bc] at e1
   rw [←e1] at e2
   have e2:a6A E c [v]:=by simpa using e2
   exact (a6A.toV e2 (by cases c <;> first | rfl | (simp [i6A] at hcell)) (fun n t l e=>by rw [e] at hcell; simp [i6A] at hcell)).toS
 ·show (bif ty.okp&&o1A agg (if agg then .agg (a8A ty x m).1 else o7A (a8A ty x m).1)&&(agg||ty.scalar) then j6A ty (if agg then .agg (a8A ty x m).1 else o7A (a8A ty x m).1) ob else none)=some (x,ob)
  cases agg with
  | true=>simp [h3,o1A,j6A,k3A,hl,henc]
  | false =>
   have hsc:ty.scalar=true:=by simpa using h4
   obtain ⟨c,ec,hcell⟩:=c5C (x:=x) (m:=m) hsc
   rw [←show (a8A ty x m).1=Rx.enc ty x from by rw [hl],ec] at henc
   have hco:k3A c=some [c]:=by cases c <;> first | (simp [i6A] at hcell; done) | rfl
   have hfi:o1A false c=true:=by cases c <;> first | (simp [i6A] at hcell; done) | rfl
   simp [h3,hsc,ec,o7A,hfi,j6A,hco,henc]
theorem b5E (hro:∀ b,b<E.w.heap.size→E.ro b) {n:Nat} {r:Reach} {w:World} {b0:Nat} {m:Mem} {ob:Objs}:∀ {ts:List TypeId} {ins:List (Bool×Ty)} {vs:List Value} {ds:List (DataW H)} {ps:List MemPlace},i3B P n ts ins=true →
  (∀ (j:Nat) t v,ts[j]? = some t→vs[j]? = some v→Value.okWide P w r b0 t v)→DataW.TrodAll enc P E.w base spare held ts vs ds ps →
   ∃ x:c8A ins,wfL ins x∧c9A E (f4A ins x m).1 vs∧f9A ins (f4A ins x m).1 ob=some (x,ob)
 | [],[],[],_,_,_,_,_=>⟨(),trivial,rfl,rfl⟩
 | [t],[a],[v],[d],_,h,hv,hd=>by
  obtain ⟨p,q,h1,h2,_⟩:=hd
  simp only [i3B,Ac] at h
  obtain ⟨x,w1,w2,w3,_⟩:=b4E (m:=m) (ob:=ob) hro h.1 (hv 0 t v rfl rfl) h1
  exact ⟨x,w1,⟨v,[],rfl,w2,rfl⟩,w3⟩
 | t::t'::ts,a::a'::l,v::vs,d::ds,_,h,hv,hd=>by
  obtain ⟨p,q,h1,h2,_⟩:=hd
  rw [i3B,Ac] at h
  obtain ⟨x,w1,w2,w3,w4⟩:=b4E (m:=m) (ob:=ob) hro h.1 (hv 0 t v rfl rfl) h1
  obtain ⟨y,y1,y2,y3⟩:=b5E (m:=m) (ob:=ob) hro h.2 (fun j t v h h'=>hv (j+1) t v (by simpa using h) (by simpa using h')) h2
  refine ⟨(x,y),⟨w1,y1⟩,?_,?_⟩
  ·show c9A E ((i4A a x m).1::(f4A (a'::l) y (i4A a x m).2).1) (v::vs)
   rw [w4]
   exact ⟨v,vs,rfl,w2,y2⟩
  ·show f9A (a::a'::l) ((i4A a x m).1::(f4A (a'::l) y (i4A a x m).2).1) ob=some ((x,y),ob)
   rw [w4]
   simp only [f9A,w3,y3]
 | [],_::_,_,_,_,h,_,_=>nomatch h
 | _::_,[],_,_,_,h,_,_=>nomatch h
 | [],[],_::_,[],_,_,_,h=>nomatch h
 | [],[],_::_,_::_,_,_,_,h=>nomatch h
 | _::_,_::_,[],[],_,_,_,h=>nomatch h
 | _::_,_::_,[],_::_,_,_,_,h=>nomatch h
 | _::_,_::_,_::_,[],_,_,_,h=>nomatch h
 | [_],_::_::_,_::_,_::_,_,h,_,_=>by simp [i3B] at h
 | _::_::_,[_],_::_,_::_,_,h,_,_=>by simp [i3B] at h
 | [_],[_],_::_::_,[_],_,_,_,h=>by obtain ⟨_,_,_,h,_⟩:=h; exact h.elim
 | [_],[_],_::_::_,_::_::_,_,_,_,h=>by obtain ⟨_,_,_,h,_⟩:=h; exact h.elim
 | [_],[_],[_],_::_::_,_,_,_,h=>by obtain ⟨_,_,_,h,_⟩:=h; exact h.elim
theorem g8F {f:Func} {s:ChangeSpec} {d3A handsOn again:Bool} {W W':World} {args:Array Value} {ds:List (DataW H)} {before:List MemPlace} {tb:TypeId} (hl:laidOutB P=true)
  (hread:f.params.toList.all (fun t=>P.readableRec t&&decide (t<P.types.size))=true) (hvars:s.vars=[])
  (hW:DataW.Whole enc P f.params.toList [] false W args.toList ds [] before) (hs:s.fn H (ds++[])={ results:=[.lit (.bool true)],args:=ds })
  (hsame:∀ b,b<W.heap.size→W'.heap[b]? = W.heap[b]?) (hq:e1A W W') (hr:f.resultTypes = #[tb]) (hb:P.underlying tb=some .bool) :
  s.post enc P f false d3A handsOn again W args (.bool true) W':=by
 have hlt:∀ p∈before,p.block<W.heap.size:=fun p hp=>hW.lt p hp
 obtain ⟨p,q,hA,hV,e,hz,hn⟩:=hW
 have hq0:q=[]:=hV
 subst hq0
 rw [Bc] at e
 have e:p=before:=e.symm
 subst e
 have key:∀ {ts:List TypeId} {vs:List Value} {ds:List (DataW H)} {ps:List MemPlace} {sp:Nat→Bool},(∀ t∈ts,P.readableRec t=true∧t<P.types.size)→(∀ p∈ps,p.block<W.heap.size)→(∀ p∈ps,sp p.block=true) →
   DataW.TrodAll enc P W 0 (fun _=>true) true ts vs ds ps→DataW.TrodAll enc P W' 0 sp true ts vs ds ps:=by
  intro ts
  induction ts with
  | nil =>
   intro vs ds ps sp _ _ _ h
   match vs,ds,h with
   | [],[],h=>exact h
  | cons t ts ih =>
   intro vs ds ps sp ht hp hsp h
   match vs,ds,h with
   | v::vs,d::ds,⟨p1,q1,h1,h2,e⟩ =>
    subst e
    obtain ⟨g1,g2⟩:=ht t Ax
    refine ⟨p1,q1,WideElems.Trod_stays hl g1 g2 h1 (fun x hx => ?_) (fun x hx=>hsp x (List.mem_append_left _ hx)),ih (fun t h=>ht t (Bb _ h)) (fun x hx=>hp x (List.mem_append_right _ hx)) (fun x hx=>hsp x (List.mem_append_right _ hx)) h2,rfl⟩
    have hx':=hp x (List.mem_append_left _ hx)
    cases x with
    | cell b o=>exact World.cell?_of_block (w:=W) (hsame b hx')
    | map b=>exact hsame b hx'
 have hts:∀ t∈f.params.toList,P.readableRec t=true∧t<P.types.size:=fun t ht=>by
  have:=List.all_eq_true.1 hread t ht
  simpa using this
 have hargs:∀ sp:Nat→Bool,(∀ x∈p,sp x.block=true)→DataW.TrodAll enc P W' 0 sp true f.params.toList args.toList (s.fn H (ds++[])).args p:=fun sp hsp=>by
  rw [hs]; exact key hts hlt hsp hA
 have hres:∀ (b:Nat) (sp:Nat→Bool) (hd:Bool),DataW.TrodAll enc P W' b sp hd f.resultTypes.toList ((Value.bool true).resultList f.resultTypes.size) (s.fn H (ds++[])).results []:=fun b sp hd=>by
  rw [hs,hr]
  exact ⟨[],[],RowKit.shut_bool hb true,rfl,rfl⟩
 have hold:∀ x∈p,(fun b=>decide (b<W.heap.size)) x.block=true:=fun x hx=>by simpa using hlt x hx
 have hvv:∀ sp:Nat→Bool,DataW.TrodVars enc P W' sp s.vars (s.fn H (ds++[])).vars []:=fun sp=>by rw [hs,hvars]; exact rfl
 refine ⟨ds,[],p,[],p,[],?_,hres _ _ _,hargs _ hold,hvv _,⟨hq.1,hq.2,fun i hi => ?_⟩,fun _ => ?_⟩
 ·rw [hvars]
  exact ⟨p,[],hA,rfl,by simp,hz,hn⟩
 ·rw [hsame i hi]
  cases W.heap[i]? with
  | none=>rfl
  | some o=>cases o <;> simp
 ·refine ⟨RowKit.ok_one hr rfl (by simp [Value.okWide,Cell.okWide,Cell.ok,hb]),_,_,([]++p)++[],⟨[]++p,[],ChangeShapes.trodAll_append (hargs _ (fun _ _=>rfl)) (hres _ _ _),hvv _,rfl,?_,?_⟩,?_⟩
  ·intro b off hp
   have hp:MemPlace.cell b off∈p:=by simpa using hp
   have h1:=hlt _ hp
   have h2:=hz b off hp
   unfold World.frozen? at h2 ⊢
   rw [hsame b h1]
   exact h2
  ·intro ha; cases ha
  ·intro x hx _
   simpa using hx
def h4D (P:Program):List (Nat×Callee)→Prop
 | []=>True
 | (f,c)::l=>q5C P f c∧h4D P l
theorem q8C:∀ {l:List (Nat×Callee)},h4D P l→∀ f c,a2B f l=some c→q5C P f c
 | [],_,f,c,h=>nomatch h
 | (j,d)::l,hl,f,c,h=>by
  simp only [a2B] at h
  rcases c2A h with ⟨h0,h⟩ | ⟨_,h⟩
  ·cases h
   rw [←Ag h0]
   exact hl.1
  ·exact q8C hl.2 f c h
theorem g9F {f:FuncId} {F:Func} {ins:List (Bool×Ty)} {fn:c8A ins→Option Bool} (hC:b7A P f ins [(false,.bool)] fn) {n:Nat} (hreads:i3B P n F.params.toList ins=true)
  {Q:c8A ins→Prop} (hlaw:∀ x,wfL ins x→Q x→fn x=some true) (hl:laidOutB P=true) (hread:F.params.toList.all (fun t=>P.readableRec t&&decide (t<P.types.size))=true) {tb:TypeId} (hr:F.resultTypes = #[tb])
  (hb:P.underlying tb=some .bool) {s:ChangeSpec} (hvars:s.vars=[]) (hs:∀ ds:List (DataW H),ds.length=F.params.size→s.fn H ds={ results:=[.lit (.bool true)],args:=ds })
  {W:World} (hlaid:k2A { w:=W,ro:=fun b=>b<W.heap.size,M:=fun _=>⟨none,0,0,0,0⟩,N:=0 }) {base:Nat} {args:Array Value} {ds gs:List (DataW H)} {before:List MemPlace} {d3A handsOn again:Bool}
  (hval:∀ (j:Nat) t v,F.params[j]? = some t→args[j]? = some v→Value.okWide P W .any base t v)
  (hW:DataW.Whole enc P F.params.toList s.vars false W args.toList ds gs before) (hQ:∀ x,wfL ins x→c9A { w:=W,ro:=fun b=>b<W.heap.size,M:=fun _=>⟨none,0,0,0,0⟩,N:=0 } (f4A ins x ⟨[],0⟩).1 args.toList→Q x) :
  Calls P f args W fun e W'=>∃ v,e=.returned v∧s.post enc P F false d3A handsOn again W args v W':=by
 rw [hvars] at hW
 have hW0:=hW
 obtain ⟨p,q,hA,hV,e,hz,hn⟩:=hW
 have hgs:gs=[]:=by
  cases gs with
  | nil=>rfl
  | cons=>cases hV
 subst hgs
 let E0:Env:={ w:=W,ro:=fun b=>b<W.heap.size,M:=fun _=>⟨none,0,0,0,0⟩,N:=0 }
 obtain ⟨x,wx,hrep,hpk⟩:=b5E (E:=E0) (m:=⟨[],0⟩) (ob:=[]) (fun b hb=>hb) hreads (fun j t v h1 h2=>hval j t v (by simpa using h1) (by simpa using h2)) hA
 have hm:a4A E0 (fun _=>False) []:=⟨fun id oc h=>(nomatch h),fun id oc b h=>(nomatch h),fun id id' oc oc' b h=>(nomatch h),fun b h=>h,fun b h=>h.elim,hlaid⟩
 have hcall:=hC.ok x true (hlaw x wx (hQ x wx hrep)) (fun _=>False) E0 _ args.toList [] [] hm hrep hpk
 have hargs:(d3C none args.toList).toArray=args:=by simp [d3C]
 rw [hargs] at hcall
 refine hcall.mono ?_
 rintro ex W' ⟨us,v,ob,ob',E',rfl,rfl,hres,_,hpk',hF⟩
 have hv:v=.bool true:=by
  obtain ⟨vs,h1,h2⟩:=hres
  match us,h1,hpk' with
  | [a],h1,hpk' =>
   obtain ⟨x,r,rfl,r1,r2⟩:=h1
   have r2:r=[]:=r2
   subst r2
   have h3:v=x:=by rw [h2]; simp
   subst h3
   simp only [f9A,k8A] at hpk'
   rcases c2A hpk' with ⟨h0,h4⟩ | ⟨_,h4⟩
   ·cases a with
    | bool b =>
     simp [j6A,k3A,b2A] at h4
     rw [←h4.1]
     have:a6A E' (.bool b) [v]:=r1
     have h5:[v]=[Value.bool b]:=this
     simpa using h5
    | agg cs=>simp [o1A] at h0
    | _=>simp [j6A,k3A,b2A] at h4
   ·cases h4
 subst hv
 have hlen:ds.length=F.params.size:=by
  have:∀ {ts:List TypeId} {vs:List Value} {ds:List (DataW H)} {ps:List MemPlace},DataW.TrodAll enc P W 0 (fun _=>true) true ts vs ds ps→ds.length=ts.length:=by
   intro ts
   induction ts with
   | nil =>
    intro vs ds ps h
    match vs,ds,h with
    | [],[],_=>rfl
   | cons t ts ih =>
    intro vs ds ps h
    match vs,ds,h with
    | v::vs,d::ds,⟨_,_,_,h2,_⟩=>simp [ih h2]
  simpa using this hA
 exact ⟨_,rfl,g8F hl hread hvars hW0 (by rw [Bc]; exact hs ds hlen) (fun b hb=>hF.heapRo b hb) hF.out hr hb⟩
theorem t3E {f:FuncId} {F:Func} {ins:List (Bool×Ty)} {fn:c8A ins→Option Bool} (hC:b7A P f ins [(false,.bool)] fn) {n:Nat} (hreads:i3B P n F.params.toList ins=true)
  (hlaw:∀ x,wfL ins x→fn x=some true) (hl:laidOutB P=true) (hread:F.params.toList.all (fun t=>P.readableRec t&&decide (t<P.types.size))=true) {tb:TypeId} (hr:F.resultTypes = #[tb])
  (hb:P.underlying tb=some .bool) {s:ChangeSpec} (hvars:s.vars=[]) (hs:∀ ds:List (DataW H),ds.length=F.params.size→s.fn H ds={ results:=[.lit (.bool true)],args:=ds })
  {W:World} (hlaid:k2A { w:=W,ro:=fun b=>b<W.heap.size,M:=fun _=>⟨none,0,0,0,0⟩,N:=0 }) {base:Nat} {args:Array Value} {ds gs:List (DataW H)} {before:List MemPlace} {d3A handsOn again:Bool}
  (hval:∀ (j:Nat) t v,F.params[j]? = some t→args[j]? = some v→Value.okWide P W .any base t v)
  (hW:DataW.Whole enc P F.params.toList s.vars false W args.toList ds gs before) :
  Calls P f args W fun e W'=>∃ v,e=.returned v∧s.post enc P F false d3A handsOn again W args v W' :=
 g9F (Q:=fun _=>True) hC hreads (fun x h _=>hlaw x h) hl hread hr hb hvars hs hlaid hval hW fun _ _ _=>trivial
end
end Go.Rx
namespace Go.Rx
variable [Inhabited GW]
structure CE (P:Program) where
 f:FuncId
 c:Callee
 ok:q5C P f c
def ceL {P:Program}:List (CE P)→List (Nat×Callee)
 | []=>[]
 | e::l=>(e.f,e.c)::ceL l
theorem q9C {P:Program}:∀ l:List (CE P),h4D P (ceL l)
 | []=>trivial
 | e::l=>⟨e.ok,q9C l⟩
abbrev ceS {P:Program} {f:FuncId} {i o:List (Bool×Ty)} {fn:c8A i→Option (c8A o)} {g:Option FuncId} (h:b7A P f i o fn g):CE P:=⟨f,.sem i o fn g,h⟩
abbrev ceH {P:Program} {f:FuncId} {t:Ty} {bytes:Nat} (h:e5C P f∧o9B P f t bytes):CE P:=⟨f,.insH t bytes,h⟩
abbrev ceI {P : Program} {f : FuncId} {F : Func} (hf : P.funcs[f]? = some F) (a : Ann) (h : (match F.body with | some _ => F.name == "runtime.NumGoroutine" | none => true) = false) : CE P :=
 ⟨f,.inl F (F.body.getD .skip) a,hf,by cases e:F.body with
  | none=>rw [e] at h; cases h
  | some b=>rfl,by cases e:F.body with
  | none=>rw [e] at h; cases h
  | some b=>rw [e] at h; exact h⟩
theorem mkC {P:Program} {T:Tab} (hT:TabOK P T) (hP:P.follows .mixedOrders=true) {f:FuncId} {F:Func} (hf:P.funcs[f]? = some F) {i o:List (Bool×Ty)} {fn:c8A i→Option (c8A o)} {g:Option FuncId} (a:Ann) (l:List (CE P))
  (hb : (match F.body with | some _ => F.name == "runtime.NumGoroutine" | none => true) = false) (h : ∀ x, b4D T (ceL l) 8 F (F.body.getD .skip) a i o x g = fn x) : b7A P f i o fn g :=
 g0F hT hP (q6C hT hP (q8C (q9C l)) 8) hf (body:=F.body.getD .skip) (by cases e:F.body with
  | none=>rw [e] at hb; cases hb
  | some b=>rfl) (by cases e:F.body with
  | none=>rw [e] at hb; cases hb
  | some b=>rw [e] at hb; exact hb) h
theorem i4B {P:Program} {T:Tab} (hT:TabOK P T) (hP:P.follows .mixedOrders=true) {f:FuncId} {F:Func} (hf:P.funcs[f]? = some F) {t:Ty} {o:List (Bool×Ty)} {fn:List (den t)→Option (c8A o)} (a:Ann) (l:List (CE P))
  (hb : (match F.body with | some _ => F.name == "runtime.NumGoroutine" | none => true) = false) (ht : t.pure = true) (h1 : t7B T (ceL l) 8 F (F.body.getD .skip) a [.nilsl] o = fn []) (h2 : ∀ x, t7B T (ceL l) 8 F (F.body.getD .skip) a [.slv t x] o = fn x) : b7A P f [(false, .sl t)] o fn :=
 g6F hT hP (q6C hT hP (q8C (q9C l)) 8) hf (body:=F.body.getD .skip) (by cases e:F.body with
  | none=>rw [e] at hb; cases hb
  | some b=>rfl) (by cases e:F.body with
  | none=>rw [e] at hb; cases hb
  | some b=>rw [e] at hb; exact hb) ht h1 h2
abbrev ceP {P:Program} {f:FuncId} {pt:Ty} {i o:List (Bool×Ty)} {fn:den pt→c8A i→Option (den pt×c8A o)} (h:s3A P f pt i o fn):CE P:=⟨f,.semP pt i o fn,h⟩
theorem mkP {P:Program} {T:Tab} (hT:TabOK P T) (hP:P.follows .mixedOrders=true) {f:FuncId} {F:Func} (hf:P.funcs[f]? = some F) {pt:Ty} {i o:List (Bool×Ty)} {fn:den pt→c8A i→Option (den pt×c8A o)} (a:Ann) (l:List (CE P))
  (hb : (match F.body with | some _ => F.name == "runtime.NumGoroutine" | none => true) = false) (hok : pt.okp = true) (h : ∀ p x, g6D T (ceL l) 8 F (F.body.getD .skip) a pt i o p x = fn p x) : s3A P f pt i o fn :=
 f8F hT hP (q6C hT hP (q8C (q9C l)) 8) hf (body:=F.body.getD .skip) (by cases e:F.body with
  | none=>rw [e] at hb; cases hb
  | some b=>rfl) (by cases e:F.body with
  | none=>rw [e] at hb; cases hb
  | some b=>rw [e] at hb; exact hb) hok h
theorem e4E {P:Program} {f:FuncId} {i o:List (Bool×Ty)} {g:Option FuncId} {ι:Type} [Inhabited ι] {fn:ι→c8A i→Option (c8A o)} (pick:c8A i→ι) (h:∀ k,b7A P f i o (fn k) g):b7A P f i o (fun x=>fn (pick x) x) g:=
 ⟨(h default).has,fun x=>(h (pick x)).ok x⟩
end Go.Rx
namespace Go.Rx
set_option maxRecDepth 10000 in
def z2A (s1 : String) (a2 : Nat) (a3 : Nat) (a4 : Nat) (a5 : Nat) : Func := {name := s1,origin := "slices.Insert",targs := #[a2,a3],params := #[a2,3,a2],resultTypes := #[a2],nfree := 0,ntmps := 95,results := #[ResultVar.tmp 6],body := some ((Code.region 0 #[{dst := some 6,op := .assign (.const (Value.slice none 0 0)),type := a2,pos := "slices.go:136",after := #[],guard := none}] false).seq ((Code.region 1 #[{dst := some 10,op := .move (.tmp 0),type := a2,pos := "slices.go:137",after := #[],guard := none},{dst := some 11,op := .move (.tmp 1),type := 3,pos := "slices.go:137",after := #[],guard := none},{dst := some 12,op := .slice a2 (.tmp 10) (some (.tmp 11)) none none,type := a2,pos := "slices.go:137",after := #[{on := 0,ground := .data},{on := 1,ground := .data}],guard := none}] false).seq ((Code.region 2 #[{dst := some 13,op := .move (.tmp 2),type := a2,pos := "slices.go:139",after := #[],guard := none},{dst := some 14,op := .call {callee := .builtin Builtin.len,args := #[.tmp 13],argTypes := #[a2]},type := 3,pos := "slices.go:139",after := #[{on := 0,ground := .data}],guard := none},{dst := some 7,op := .assign (.tmp 14),type := 3,pos := "slices.go:139",after := #[{on := 1,ground := .data},{on := 0,ground := .phase},{on := 1,ground := .phase}],guard := none}] false).seq (((Code.region 3 #[{dst := some 15,op := .move (.tmp 7),type := 3,pos := "slices.go:140",after := #[],guard := none},{dst := some 16,op := .binOp .eql 3 (.tmp 15) (.const (Value.int IntKind.i64 0)) 3,type := 4,pos := "slices.go:140",after := #[{on := 0,ground := .data}],guard := none}] false).seq (Code.cond (.tmp 16) ((Code.region 4 #[{dst := some 17,op := .move (.tmp 0),type := a2,pos := "slices.go:141",after := #[],guard := none},{dst := some 6,op := .assign (.tmp 17),type := a2,pos := "slices.go:141",after := #[{on := 0,ground := .data},{on := 0,ground := .phase}],guard := none}] false).seq Code.ret) Code.skip)).seq ((Code.region 5 #[{dst := some 18,op := .move (.tmp 0),type := a2,pos := "slices.go:143",after := #[],guard := none},{dst := some 19,op := .call {callee := .builtin Builtin.len,args := #[.tmp 18],argTypes := #[a2]},type := 3,pos := "slices.go:143",after := #[{on := 0,ground := .data}],guard := none},{dst := some 8,op := .assign (.tmp 19),type := 3,pos := "slices.go:143",after := #[{on := 1,ground := .data},{on := 0,ground := .phase},{on := 1,ground := .phase}],guard := none}] false).seq (((Code.region 6 #[{dst := some 20,op := .move (.tmp 1),type := 3,pos := "slices.go:144",after := #[],guard := none},{dst := some 21,op := .move (.tmp 8),type := 3,pos := "slices.go:144",after := #[],guard := none},{dst := some 22,op := .binOp BinOp.eql 3 (.tmp 20) (.tmp 21) 3,type := 4,pos := "slices.go:144",after := #[{on := 0,ground := .data},{on := 1,ground := .data}],guard := none}] false).seq (Code.cond (.tmp 22) ((Code.region 7 #[{dst := some 23,op := .move (.tmp 0),type := a2,pos := "slices.go:145",after := #[],guard := none},{dst := some 24,op := .move (.tmp 2),type := a2,pos := "slices.go:145",after := #[],guard := none},{dst := some 25,op := .call {callee := .builtin Builtin.append,args := #[.tmp 23,.tmp 24],argTypes := #[a2,a2]},type := a2,pos := "slices.go:145",after := #[{on := 0,ground := .data},{on := 1,ground := .data}],guard := none},{dst := some 6,op := .assign (.tmp 25),type := a2,pos := "slices.go:145",after := #[{on := 2,ground := .data},{on := 2,ground := .chain},{on := 0,ground := .phase},{on := 1,ground := .phase},{on := 2,ground := .phase}],guard := none}] false).seq Code.ret) Code.skip)).seq (((Code.region 8 #[{dst := some 26,op := .move (.tmp 8),type := 3,pos := "slices.go:147",after := #[],guard := none},{dst := some 27,op := .move (.tmp 7),type := 3,pos := "slices.go:147",after := #[],guard := none},{dst := some 28,op := .binOp BinOp.add 3 (.tmp 26) (.tmp 27) 3,type := 3,pos := "slices.go:147",after := #[{on := 0,ground := .data},{on := 1,ground := .data}],guard := none},{dst := some 29,op := .move (.tmp 0),type := a2,pos := "slices.go:147",after := #[],guard := none},{dst := some 30,op := .call {callee := .builtin Builtin.cap,args := #[.tmp 29],argTypes := #[a2]},type := 3,pos := "slices.go:147",after := #[{on := 3,ground := .data}],guard := none},{dst := some 31,op := .binOp BinOp.gtr 3 (.tmp 28) (.tmp 30) 3,type := 4,pos := "slices.go:147",after := #[{on := 2,ground := .data},{on := 4,ground := .data}],guard := none}] false).seq (Code.cond (.tmp 31) ((Code.region 9 #[{dst := some 32,op := .move (.tmp 0),type := a2,pos := "slices.go:152",after := #[],guard := none},{dst := some 33,op := .move (.tmp 1),type := 3,pos := "slices.go:152",after := #[],guard := none},{dst := some 34,op := .slice a2 (.tmp 32) none (some (.tmp 33)) none,type := a2,pos := "slices.go:152",after := #[{on := 0,ground := .data},{on := 1,ground := .data}],guard := none},{dst := some 35,op := .move (.tmp 8),type := 3,pos := "slices.go:152",after := #[],guard := none},{dst := some 36,op := .move (.tmp 7),type := 3,pos := "slices.go:152",after := #[],guard := none},{dst := some 37,op := .binOp BinOp.add 3 (.tmp 35) (.tmp 36) 3,type := 3,pos := "slices.go:152",after := #[{on := 3,ground := .data},{on := 4,ground := .data}],guard := none},{dst := some 38,op := .move (.tmp 1),type := 3,pos := "slices.go:152",after := #[],guard := none},{dst := some 39,op := .binOp BinOp.sub 3 (.tmp 37) (.tmp 38) 3,type := 3,pos := "slices.go:152",after := #[{on := 5,ground := .data},{on := 6,ground := .data}],guard := none},{dst := some 40,op := .call {callee := .builtin Builtin.append,args := #[.tmp 34,.tmp 39],argTypes := #[a2,3]},type := a2,pos := "slices.go:152",after := #[{on := 2,ground := .data},{on := 7,ground := .data}],guard := none},{dst := some 9,op := .assign (.tmp 40),type := a2,pos := "slices.go:152",after := #[{on := 8,ground := .data},{on := 8,ground := .chain},{on := 0,ground := .phase},{on := 1,ground := .phase},{on := 2,ground := .phase},{on := 3,ground := .phase},{on := 4,ground := .phase},{on := 5,ground := .phase},{on := 6,ground := .phase},{on := 7,ground := .phase},{on := 8,ground := .phase}],guard := none}] false).seq ((Code.region 10 #[{dst := some 41,op := .move (.tmp 9),type := a2,pos := "slices.go:153",after := #[],guard := none},{dst := some 42,op := .move (.tmp 1),type := 3,pos := "slices.go:153",after := #[],guard := none},{dst := some 43,op := .slice a2 (.tmp 41) (some (.tmp 42)) none none,type := a2,pos := "slices.go:153",after := #[{on := 0,ground := .data},{on := 1,ground := .data}],guard := none},{dst := some 44,op := .move (.tmp 2),type := a2,pos := "slices.go:153",after := #[],guard := none},{dst := some 45,op := .call {callee := .builtin Builtin.copy,args := #[.tmp 43,.tmp 44],argTypes := #[a2,a2]},type := 3,pos := "slices.go:153",after := #[{on := 2,ground := .data},{on := 3,ground := .data}],guard := none}] false).seq ((Code.region 11 #[{dst := some 46,op := .move (.tmp 9),type := a2,pos := "slices.go:154",after := #[],guard := none},{dst := some 47,op := .move (.tmp 1),type := 3,pos := "slices.go:154",after := #[],guard := none},{dst := some 48,op := .move (.tmp 7),type := 3,pos := "slices.go:154",after := #[],guard := none},{dst := some 49,op := .binOp BinOp.add 3 (.tmp 47) (.tmp 48) 3,type := 3,pos := "slices.go:154",after := #[{on := 1,ground := .data},{on := 2,ground := .data}],guard := none},{dst := some 50,op := .slice a2 (.tmp 46) (some (.tmp 49)) none none,type := a2,pos := "slices.go:154",after := #[{on := 0,ground := .data},{on := 3,ground := .data}],guard := none},{dst := some 51,op := .move (.tmp 0),type := a2,pos := "slices.go:154",after := #[],guard := none},{dst := some 52,op := .move (.tmp 1),type := 3,pos := "slices.go:154",after := #[],guard := none},{dst := some 53,op := .slice a2 (.tmp 51) (some (.tmp 52)) none none,type := a2,pos := "slices.go:154",after := #[{on := 5,ground := .data},{on := 6,ground := .data}],guard := none},{dst := some 54,op := .call {callee := .builtin Builtin.copy,args := #[.tmp 50,.tmp 53],argTypes := #[a2,a2]},type := 3,pos := "slices.go:154",after := #[{on := 4,ground := .data},{on := 7,ground := .data}],guard := none}] true).seq ((Code.region 12 #[{dst := some 55,op := .move (.tmp 9),type := a2,pos := "slices.go:155",after := #[],guard := none},{dst := some 6,op := .assign (.tmp 55),type := a2,pos := "slices.go:155",after := #[{on := 0,ground := .data},{on := 0,ground := .phase}],guard := none}] false).seq Code.ret)))) Code.skip)).seq ((Code.region 13 #[{dst := some 56,op := .move (.tmp 0),type := a2,pos := "slices.go:157",after := #[],guard := none},{dst := some 57,op := .move (.tmp 8),type := 3,pos := "slices.go:157",after := #[],guard := none},{dst := some 58,op := .move (.tmp 7),type := 3,pos := "slices.go:157",after := #[],guard := none},{dst := some 59,op := .binOp BinOp.add 3 (.tmp 57) (.tmp 58) 3,type := 3,pos := "slices.go:157",after := #[{on := 1,ground := .data},{on := 2,ground := .data}],guard := none},{dst := some 60,op := .slice a2 (.tmp 56) none (some (.tmp 59)) none,type := a2,pos := "slices.go:157",after := #[{on := 0,ground := .data},{on := 3,ground := .data}],guard := none},{dst := some 0,op := .assign (.tmp 60),type := a2,pos := "slices.go:157",after := #[{on := 4,ground := .data},{on := 0,ground := .phase},{on := 1,ground := .phase},{on := 2,ground := .phase},{on := 3,ground := .phase},{on := 4,ground := .phase}],guard := none}] false).seq (((Code.region 14 #[{dst := some 61,op := .move (.tmp 2),type := a2,pos := "slices.go:173",after := #[],guard := none},{dst := some 62,op := .move (.tmp 0),type := a2,pos := "slices.go:173",after := #[],guard := none},{dst := some 63,op := .move (.tmp 1),type := 3,pos := "slices.go:173",after := #[],guard := none},{dst := some 64,op := .move (.tmp 7),type := 3,pos := "slices.go:173",after := #[],guard := none},{dst := some 65,op := .binOp BinOp.add 3 (.tmp 63) (.tmp 64) 3,type := 3,pos := "slices.go:173",after := #[{on := 2,ground := .data},{on := 3,ground := .data}],guard := none},{dst := some 66,op := .slice a2 (.tmp 62) (some (.tmp 65)) none none,type := a2,pos := "slices.go:173",after := #[{on := 1,ground := .data},{on := 4,ground := .data}],guard := none},{dst := some 67,op := .call {callee := .value (Operand.func a4),args := #[.tmp 61,.tmp 66],argTypes := #[a2,a2]},type := 4,pos := "slices.go:173",after := #[{on := 0,ground := .data},{on := 5,ground := .data}],guard := none},{dst := some 68,op := .unOp UnOp.not 4 (.tmp 67),type := 4,pos := "slices.go:173",after := #[{on := 6,ground := .data}],guard := none}] false).seq (Code.cond (.tmp 68) ((Code.region 15 #[{dst := some 69,op := .move (.tmp 0),type := a2,pos := "slices.go:178",after := #[],guard := none},{dst := some 70,op := .move (.tmp 1),type := 3,pos := "slices.go:178",after := #[],guard := none},{dst := some 71,op := .move (.tmp 7),type := 3,pos := "slices.go:178",after := #[],guard := none},{dst := some 72,op := .binOp BinOp.add 3 (.tmp 70) (.tmp 71) 3,type := 3,pos := "slices.go:178",after := #[{on := 1,ground := .data},{on := 2,ground := .data}],guard := none},{dst := some 73,op := .slice a2 (.tmp 69) (some (.tmp 72)) none none,type := a2,pos := "slices.go:178",after := #[{on := 0,ground := .data},{on := 3,ground := .data}],guard := none},{dst := some 74,op := .move (.tmp 0),type := a2,pos := "slices.go:178",after := #[],guard := none},{dst := some 75,op := .move (.tmp 1),type := 3,pos := "slices.go:178",after := #[],guard := none},{dst := some 76,op := .slice a2 (.tmp 74) (some (.tmp 75)) none none,type := a2,pos := "slices.go:178",after := #[{on := 5,ground := .data},{on := 6,ground := .data}],guard := none},{dst := some 77,op := .call {callee := .builtin Builtin.copy,args := #[.tmp 73,.tmp 76],argTypes := #[a2,a2]},type := 3,pos := "slices.go:178",after := #[{on := 4,ground := .data},{on := 7,ground := .data}],guard := none}] true).seq ((Code.region 16 #[{dst := some 78,op := .move (.tmp 0),type := a2,pos := "slices.go:186",after := #[],guard := none},{dst := some 79,op := .move (.tmp 1),type := 3,pos := "slices.go:186",after := #[],guard := none},{dst := some 80,op := .slice a2 (.tmp 78) (some (.tmp 79)) none none,type := a2,pos := "slices.go:186",after := #[{on := 0,ground := .data},{on := 1,ground := .data}],guard := none},{dst := some 81,op := .move (.tmp 2),type := a2,pos := "slices.go:186",after := #[],guard := none},{dst := some 82,op := .call {callee := .builtin Builtin.copy,args := #[.tmp 80,.tmp 81],argTypes := #[a2,a2]},type := 3,pos := "slices.go:186",after := #[{on := 2,ground := .data},{on := 3,ground := .data}],guard := none}] false).seq ((Code.region 17 #[{dst := some 83,op := .move (.tmp 0),type := a2,pos := "slices.go:193",after := #[],guard := none},{dst := some 6,op := .assign (.tmp 83),type := a2,pos := "slices.go:193",after := #[{on := 0,ground := .data},{on := 0,ground := .phase}],guard := none}] false).seq Code.ret))) Code.skip)).seq ((Code.region 18 #[{dst := some 84,op := .move (.tmp 0),type := a2,pos := "slices.go:200",after := #[],guard := none},{dst := some 85,op := .move (.tmp 8),type := 3,pos := "slices.go:200",after := #[],guard := none},{dst := some 86,op := .slice a2 (.tmp 84) (some (.tmp 85)) none none,type := a2,pos := "slices.go:200",after := #[{on := 0,ground := .data},{on := 1,ground := .data}],guard := none},{dst := some 87,op := .move (.tmp 2),type := a2,pos := "slices.go:200",after := #[],guard := none},{dst := some 88,op := .call {callee := .builtin Builtin.copy,args := #[.tmp 86,.tmp 87],argTypes := #[a2,a2]},type := 3,pos := "slices.go:200",after := #[{on := 2,ground := .data},{on := 3,ground := .data}],guard := none}] false).seq ((Code.region 19 #[{dst := some 89,op := .move (.tmp 0),type := a2,pos := "slices.go:207",after := #[],guard := none},{dst := some 90,op := .move (.tmp 1),type := 3,pos := "slices.go:207",after := #[],guard := none},{dst := some 91,op := .slice a2 (.tmp 89) (some (.tmp 90)) none none,type := a2,pos := "slices.go:207",after := #[{on := 0,ground := .data},{on := 1,ground := .data}],guard := none},{dst := some 92,op := .move (.tmp 7),type := 3,pos := "slices.go:207",after := #[],guard := none},{dst := some 93,op := .call {callee := .value (Operand.func a5),args := #[.tmp 91,.tmp 92],argTypes := #[a2,3]},type := 0,pos := "slices.go:207",after := #[{on := 2,ground := .data},{on := 3,ground := .data}],guard := none}] false).seq ((Code.region 20 #[{dst := some 94,op := .move (.tmp 0),type := a2,pos := "slices.go:214",after := #[],guard := none},{dst := some 6,op := .assign (.tmp 94),type := a2,pos := "slices.go:214",after := #[{on := 0,ground := .data},{on := 0,ground := .phase}],guard := none}] false).seq Code.ret)))))))))))),norace := false,file := "slices/slices.go",endLine := 215,met := [Departure.appendOfMake],tmpNames := (["s","i","v","s","i","v","","m","n","s2","","","","","","","","","","","","","","","","","","","","","","","","","","","","","","","","","","","","",""].append ["","","","","","","","","","","","","","","","","","","","","","","","","","","","","","","","","","","","","","","","","","","","","","","",""]).toArray}
end Go.Rx
namespace Go.Rx
open Go.RowKit Go.Proofs
variable [Inhabited GW]
theorem r0C {P:Program} {w:World} {dT sT ty elem:TypeId} {inf:TypeInfo} (hu:P.underlying dT=some (.slice elem)) (hi:P.info? elem=some inf) {b o dLen dCap xb xo sLen sCap k:Nat} (hk:Nat.min sLen dLen=k)
  {cells:List Value} (hcl:cells.length=k*inf.size) (hsrc:At w xb xo cells) {cur:Array Value} {ee:TypeId} (hb:w.heap[b]? = some (.cells cur ee (0,0))) (hfit:o+cells.length≤cur.size) (one:∀ v∈cells,v.oneCell'=true) :
  (Builtin.copy_ #[dT,sT] ty #[.slice (some ⟨b,o,none⟩) dLen dCap,.slice (some ⟨xb,xo,none⟩) sLen sCap]).run P w =
   (if cells.length=0 then .ok (goInt k) w else .ok (goInt k) (w.setRow b (cur.toList.take o++(cells++cur.toList.drop (o+cells.length))).toArray)):=by
 have f1:(Builtin.firstCells inf.size k (.slice (some ⟨xb,xo,none⟩) sLen sCap)).run P w=.ok cells.toArray w:=l1A hcl (.inr ⟨xb,xo,rfl,hsrc⟩)
 simp only [Builtin.copy_,Da,Fa,Co,Sem.run_bind,c3A hu,Result.andThen_ok,Builtin.lenOf,Sem.run_pure,n1A hi,hk,f1]
 by_cases h0:cells.length=0
 ·rw [Aj h0]
  have:cells=[]:=Br.1 h0
  subst this
  simp [storeCells]
 ·rw [Ae h0]
  have hst:=run_storeCells_at (P:=P) b o ee cells 0 cur w hb (by omega) one
  simp only [hst]
  simp [Bz]
structure t9B (P:Program) (f fO tS tE:Nat) (inf:TypeInfo) (z:Value):Prop where
 mixed:P.follows .mixedOrders=true
 fn:∃ nm fR,P.funcs[f]? = some (z2A nm tS tE fO fR)
 ov:∀ args w,(callFunc fO args).run P w=((Extern.SlicesOverlaps.overlaps #[tS,tS] #[4] args).run P w).andThen fun v w'=>.ok (.value v) w'
 t3:P.underlying 3=some (.int .i64)
 a3:∀ w,(isAgg 3).run P w=.ok false w
 z3:∀ w,(Go.sizeOf 3).run P w=.ok 1 w
 t4:P.underlying 4=some .bool
 a4:∀ w,(isAgg 4).run P w=.ok false w
 z4:∀ w,(Go.sizeOf 4).run P w=.ok 1 w
 uS:P.underlying tS=some (.slice tE)
 aS:∀ w,(isAgg tS).run P w=.ok false w
 zS:∀ w,(Go.sizeOf tS).run P w=.ok 1 w
 iE:P.info? tE=some inf
 zE:inf.zero=some z
 wE:0<inf.size
omit [Inhabited GW] in
theorem r1C (nm:String) (tS tE fO fR:Nat):(z2A nm tS tE fO fR).ntmps=95:=rfl
omit [Inhabited GW] in
theorem b6E {w:World} {b:Nat} {cur:Array Value} {e:TypeId} (h:w.heap[b]? = some (.cells cur e (0,0))):w.shape? b=some (e,cur.size):=by
 unfold World.shape?
 rw [h]
omit [Inhabited GW] in
theorem b7E {w:World} {b:Nat} {cur:Array Value} {e:TypeId} (h:w.heap[b]? = some (.cells cur e (0,0))) (o:Nat):w.frozen? ⟨b,o,none⟩=false:=by
 unfold World.frozen?
 rw [h]
 simp
omit [Inhabited GW] in
theorem b6B {w:World} {b o n:Nat} {cur:Array Value} {e:TypeId} (h:w.heap[b]? = some (.cells cur e (0,0))):At w b o ((cur.toList.drop o).take n):=fun j v hj=>by
 rw [Bt] at hj
 split at hj
 ·rw [Bl] at hj
  simp only [World.cell?,h]
  simpa using hj
 ·cases hj
def m1A (S V:List Value) (k:Nat):List Value:=S.take k++(V++S.drop k)
def b7B (w:World) (b:Option Nat) (n m sz:Nat) (res:List Value) (e:Ending) (w':World):Prop:=
 ∃ b' o' c' cur' ee',e=.returned (.slice (some ⟨b',o',none⟩) (n+m) c')∧n+m≤c'∧e1A w w'∧w.heap.size≤w'.heap.size∧w'.heap[b']? = some (.cells cur' ee' (0,0))∧o'+c'*sz≤cur'.size ∧
  (cur'.toList.drop o').take ((n+m)*sz)=res∧(∀ k,k≠b'→k<w.heap.size→w'.heap[k]? = w.heap[k]?)∧(b=some b'∧w'.heap.size=w.heap.size∨b'=w.heap.size∧w'.heap.size=w.heap.size+1)
omit [Inhabited GW] in
theorem h0F {cur cells1 cells2:List Value} {o is ms ns:Nat} (h1:cells1=(cur.drop (o+is)).take (ns - is)) (hl2:cells2.length=ms) (hi:is≤ns) (hfit:o+(ns+ms)≤cur.length) {cur1 cur2:List Value}
  (hc1:cur1=cur.take (o+(is+ms))++(cells1++cur.drop (o+(is+ms)+cells1.length))) (hc2:cur2=cur1.take (o+is)++(cells2++cur1.drop (o+is+cells2.length))) :
  cur2.length=cur.length∧(cur2.drop o).take (ns+ms)=m1A ((cur.drop o).take ns) cells2 is:=by
 have hl1:cells1.length=ns - is:=by rw [h1,Ap,Ar]; omega
 have hz1:cur1.length=cur.length:=by rw [hc1]; simp only [Ak,Ap,Ar,hl1]; omega
 refine ⟨by rw [hc2]; simp only [Ak,Ap,Ar,hl2,hz1]; omega,?_⟩
 apply List.ext_getElem?
 intro j
 unfold m1A
 rw [Bt]
 by_cases hj:j<ns+ms
 ·rw [Aj hj,Bl,hc2]
  have q1:(cur1.take (o+is)).length=o+is:=by rw [Ap,hz1]; omega
  have q2:(((cur.drop o).take ns).take is).length=is:=by simp only [Ap,Ar]; omega
  have q3:(cur.take (o+(is+ms))).length=o+(is+ms):=by rw [Ap]; omega
  by_cases hj1:j<is
  ·conv=>lhs; rw [Bd (by rw [q1]; omega),Bt,Aj (by omega),hc1,Bd (by rw [q3]; omega),Bt,Aj (by omega)]
   conv=>rhs; rw [Bd (by rw [q2]; omega),Bt,Aj hj1,Bt,Aj (by omega),Bl]
  ·by_cases hj2:j<is+ms
   ·conv=>lhs; rw [List.getElem?_append_right (by rw [q1]; omega),q1,Bd (by omega)]
    conv=>rhs; rw [List.getElem?_append_right (by rw [q2]; omega),q2,Bd (by omega)]
    congr 1; omega
   ·conv=>lhs; rw [List.getElem?_append_right (by rw [q1]; omega),q1,List.getElem?_append_right (by omega),hl2,Bl,hc1,List.getElem?_append_right (by rw [q3]; omega),q3,Bd (by omega),h1,Bt,Aj (by omega),Bl]
    conv=>rhs; rw [List.getElem?_append_right (by rw [q2]; omega),q2,List.getElem?_append_right (by omega),hl2,Bl,Bt,Aj (by omega),Bl]
    congr 1; omega
 ·rw [Ae hj,Bq]
  simp only [Ak,Ap,Ar,hl2]
  omega
set_option maxHeartbeats 4000000 in
set_option maxRecDepth 100000 in
theorem b8E {P:Program} {f fO tS tE:Nat} {inf:TypeInfo} {z:Value} (L:t9B P f fO tS tE inf z) {w:World} {b o n c i vb vo m vc:Nat} {cur vcur:Array Value} {ee ve:TypeId} (hi:i<n) (hm:0<m) (hroom:n+m≤c) (h63:n+m≤9223372036854775807) (hvb:vb≠b)
  (hb:w.heap[b]? = some (.cells cur ee (0,0))) (hfit:o+c*inf.size≤cur.size) (hv:w.heap[vb]? = some (.cells vcur ve (0,0))) (hvfit:vo+m*inf.size≤vcur.size) (h1c:∀ v∈(cur.toList.drop o).take (n*inf.size),v.oneCell'=true) (h1v:∀ v∈(vcur.toList.drop vo).take (m*inf.size),v.oneCell'=true) :
  Calls P f #[.slice (some ⟨b,o,none⟩) n c,.int .i64 i,.slice (some ⟨vb,vo,none⟩) m vc] w fun e w' =>
   b7B w (some b) n m inf.size (m1A ((cur.toList.drop o).take (n*inf.size)) ((vcur.toList.drop vo).take (m*inf.size)) (i*inf.size)) e w':=by
 obtain ⟨nm,fR,fn⟩:=L.fn
 have t3:=L.t3; have a3:=L.a3; have z3:=L.z3; have t4:=L.t4; have a4:=L.a4; have z4:=L.z4; have t22:=L.uS; have a22:=L.aS; have z22:=L.zS
 have u3:=run_underlying L.t3; have u4:=run_underlying L.t4; have u22:=run_underlying L.uS
 have hz1:¬ ((m:Int)=0):=by omega
 have hz2:¬ ((i:Int)=(n:Int)):=by omega
 have hov:∀ lb cb,(callFunc fO #[.slice (some ⟨vb,vo,none⟩) m vc,.slice (some ⟨b,o+(i+m)*inf.size,none⟩) lb cb]).run P w=.ok (.value (.bool false)) w:=fun lb cb=>by
  rw [L.ov,Lib.run_overlaps_apart w tS 4 tE L.uS inf.size (fun w=>n1A L.iE) ⟨vb,vo,none⟩ ⟨b,o+(i+m)*inf.size,none⟩ m vc lb cb hvb ve ee vcur.size cur.size (b6E hv) (b6E hb) (by
   have:=L.wE
   have:0<c*inf.size:=Nat.mul_pos (by omega) this
   omega) (b7E hv _) (b7E hv _)]
  rfl
 have mixed:=L.mixed
 have hw1:IntKind.i64.wrap ((i:Int)+(m:Int))=(i:Int)+(m:Int):=by rw [IntKind.wrap_i64]; omega
 have hb1:(0:Int)≤(i:Int)+(m:Int):=by omega
 have hin:i≤n:=by omega
 have htn:((i:Int)+(m:Int)).toNat=i+m:=by omega
 have hb2:¬ (c=i+m):=by omega
 have hb3:(i:Int)≤(n:Int)+(m:Int):=by omega
 have hb4:¬ (c=i):=by omega
 have zE:∀ w,(Go.sizeOf tE).run P w=.ok inf.size w:=fun w=>n1A L.iE
 obtain ⟨sz,hsz⟩:∃ sz,sz=inf.size:=⟨_,rfl⟩
 have hW:0<sz:=by rw [hsz]; exact L.wE
 rw [←hsz] at hfit hvfit hov zE h1c h1v ⊢
 have e1:(i+m)*sz=i*sz+m*sz:=Ca _ _ _
 have e2:(n+m)*sz=n*sz+m*sz:=Ca _ _ _
 have e3:i*sz+(n - i)*sz=n*sz:=by rw [←Ca,Nat.add_sub_cancel' hin]
 have e4:(n+m)*sz≤c*sz:=Aw _ hroom
 have e5:0<(n - i)*sz:=Nat.mul_pos (by omega) hW
 have e6:0<m*sz:=Nat.mul_pos hm hW
 obtain ⟨cells1,hc1⟩:∃ l,l=(cur.toList.drop (o+i*sz)).take ((n - i)*sz):=⟨_,rfl⟩
 have hc1':cells1=((cur.toList.drop o).take (n*sz)).drop (i*sz):=by rw [hc1,List.drop_take,List.drop_drop]; congr 1; omega
 have hl1:cells1.length=(n - i)*sz:=by rw [hc1,Ap,Ar,An]; omega
 obtain ⟨cur1,hcur1⟩:∃ l,l=(cur.toList.take (o+(i+m)*sz)++(cells1++cur.toList.drop (o+(i+m)*sz+cells1.length))).toArray:=⟨_,rfl⟩
 have hz:cur1.size=cur.size:=by
  rw [hcur1]
  simp only [Cy,Ak,Ap,Ar,An,hl1]
  omega
 have hcp1:∀ ty dc sc,(Builtin.copy_ #[tS,tS] ty #[.slice (some ⟨b,o+(i+m)*sz,none⟩) (n+m - (i+m)) dc,.slice (some ⟨b,o+i*sz,none⟩) (n+m - i) sc]).run P w.drew=.ok (goInt ((n - i:Nat):Int)) (w.drew.setRow b cur1):=fun ty dc sc=>by
  rw [r0C (w:=w.drew) (k:=n - i) (cells:=cells1) (ee:=ee) (cur:=cur) L.uS L.iE (by simp only [Nat.min_def]; split <;> omega) (by rw [←hsz]; exact hl1) (by rw [hc1]; exact b6B (w:=w.drew) hb) hb (by rw [hl1]; omega) (fun v hv=>h1c v (by rw [hc1'] at hv; exact List.mem_of_mem_drop hv)),Ae (by omega),←hcur1]
 obtain ⟨W1,hW1⟩:∃ W1,W1=w.drew.setRow b cur1:=⟨_,rfl⟩
 have hb1':W1.heap[b]? = some (.cells cur1 ee (0,0)):=by rw [hW1]; exact setRow_heap w.drew b cur cur1 ee _ hb
 have hv1:W1.heap[vb]? = some (.cells vcur ve (0,0)):=by rw [hW1,q1A _ _ _ _ hvb]; exact hv
 obtain ⟨cells2,hc2⟩:∃ l,l=(vcur.toList.drop vo).take (m*sz):=⟨_,rfl⟩
 have hl2:cells2.length=m*sz:=by rw [hc2,Ap,Ar,An]; omega
 obtain ⟨cur2,hcur2⟩:∃ l,l=(cur1.toList.take (o+i*sz)++(cells2++cur1.toList.drop (o+i*sz+cells2.length))).toArray:=⟨_,rfl⟩
 have hcp2:∀ (W:World),W.heap=W1.heap→∀ ty dc,(Builtin.copy_ #[tS,tS] ty #[.slice (some ⟨b,o+i*sz,none⟩) (n+m - i) dc,.slice (some ⟨vb,vo,none⟩) m vc]).run P W=.ok (goInt (m:Int)) (W.setRow b cur2):=fun W hWh ty dc=>by
  rw [r0C (w:=W) (k:=m) (cells:=cells2) (ee:=ee) (cur:=cur1) L.uS L.iE (by simp only [Nat.min_def]; split <;> omega) (by rw [←hsz]; exact hl2) (by rw [hc2]; exact b6B (by rw [hWh]; exact hv1)) (by rw [hWh]; exact hb1') (by rw [hl2,hz]; omega) (fun v hv=>h1v v (by rw [hc2] at hv; exact hv)),Ae (by omega),←hcur2]
 have hcur2l:cur2.size=cur.size∧(cur2.toList.drop o).take ((n+m)*sz)=m1A ((cur.toList.drop o).take (n*sz)) cells2 (i*sz):=by
  have:=h0F (cur:=cur.toList) (cells1:=cells1) (cells2:=cells2) (o:=o) (is:=i*sz) (ms:=m*sz) (ns:=n*sz) (cur1:=cur1.toList) (cur2:=cur2.toList) (by rw [hc1,←e3,Nat.add_sub_cancel_left]) hl2 (by omega) (by rw [An]; omega)
   (by rw [hcur1,e1]) (by rw [hcur2])
  rw [An,An] at this
  rw [e2]
  exact this
 have hq1:e1A w W1:=by rw [hW1]; exact ⟨rfl,rfl⟩
 have hs1:W1.heap.size=w.heap.size:=by rw [hW1]; exact size_setRow w.drew _ _
 have ho1:∀ k,k≠b→W1.heap[k]? = w.heap[k]? := fun k hk=>by rw [hW1]; exact q1A w.drew _ _ _ hk
 have hfin:b7B w (some b) n m sz (m1A ((cur.toList.drop o).take (n*sz)) cells2 (i*sz)) (.returned (.slice (some ⟨b,o,none⟩) (n+m) c)) (W1.setRow b cur2):=
  ⟨b,o,c,cur2,ee,rfl,hroom,⟨hq1.1,hq1.2⟩,by rw [size_setRow]; omega,setRow_heap W1 b cur1 cur2 ee _ hb1',by rw [hcur2l.1]; exact hfit,hcur2l.2,fun k hk _=>(q1A W1 _ _ _ hk).trans (ho1 k hk),.inl ⟨rfl,by rw [size_setRow]; exact hs1⟩⟩
 rw [←hW1] at hcp1
 rw [←hc2]
 clear hsz e1 e2 e3 hl1 hl2 hz hcur2l hs1 hc1 hc1' hcur1 hW1 hc2 hcur2
 go_enter fn,r1C nm tS tE fO fR
 go_wp2_with (simp only [hov])
 go_region_law_o (refine step_copy_runI rfl _ _ tS tS rfl _ _ (by simp [Act.eval,Act.put]) (by simp [Act.eval,Act.put]) (hcp1 _ _ _) ?_)
 go_wp2_with (at_builtin; refine wpList_copy_runI _ rfl _ _ tS tS rfl _ _ rfl rfl (hcp2 _ rfl _ _) ?_)
 go_ret
 exact hfin
end Go.Rx
namespace Go.Rx
open Go.RowKit Go.Proofs
variable [Inhabited GW]
omit [Inhabited GW] in
theorem b9E (S V:List Value) (k:Nat) (h:S.length≤k):m1A S V k=S++V:=by
 unfold m1A
 rw [Bn h,List.drop_of_length_le h,Bc]
set_option maxHeartbeats 4000000 in
set_option maxRecDepth 100000 in
theorem c0E {P:Program} {f fO tS tE:Nat} {inf:TypeInfo} {z:Value} (L:t9B P f fO tS tE inf z) {w:World} {b o n c vb vo m vc:Nat} {cur vcur:Array Value} {ee ve:TypeId} (hm:0<m) (hroom:n+m≤c)
  (hby:0<inf.bytes) (h48:(n+m)*inf.bytes≤140737488355328)
  (hb:w.heap[b]? = some (.cells cur ee (0,0))) (hfit:o+c*inf.size≤cur.size) (hv:w.heap[vb]? = some (.cells vcur ve (0,0))) (hvfit:vo+m*inf.size≤vcur.size) (h1v:∀ v∈(vcur.toList.drop vo).take (m*inf.size),v.oneCell'=true) :
  Calls P f #[.slice (some ⟨b,o,none⟩) n c,.int .i64 n,.slice (some ⟨vb,vo,none⟩) m vc] w fun e w' =>
   b7B w (some b) n m inf.size (m1A ((cur.toList.drop o).take (n*inf.size)) ((vcur.toList.drop vo).take (m*inf.size)) (n*inf.size)) e w':=by
 obtain ⟨nm,fR,fn⟩:=L.fn
 have t3:=L.t3; have a3:=L.a3; have z3:=L.z3; have t4:=L.t4; have a4:=L.a4; have z4:=L.z4; have t22:=L.uS; have a22:=L.aS; have z22:=L.zS
 have u3:=run_underlying L.t3; have u4:=run_underlying L.t4; have u22:=run_underlying L.uS
 have hz1:¬ ((m:Int)=0):=by omega
 have mixed:=L.mixed
 have zE:∀ w,(Go.sizeOf tE).run P w=.ok inf.size w:=fun w=>n1A L.iE
 obtain ⟨sz,hsz⟩:∃ sz,sz=inf.size:=⟨_,rfl⟩
 rw [←hsz] at hfit hvfit zE h1v ⊢
 have e2:(n+m)*sz=n*sz+m*sz:=Ca _ _ _
 have e4:(n+m)*sz≤c*sz:=Aw _ hroom
 obtain ⟨S,hS⟩:∃ l,l=(cur.toList.drop o).take (n*sz):=⟨_,rfl⟩
 obtain ⟨V,hV⟩:∃ l,l=(vcur.toList.drop vo).take (m*sz):=⟨_,rfl⟩
 rw [←hS,←hV]
 have hSl:S.length=n*sz:=by rw [hS,Ap,Ar,An]; omega
 have hVl:V.length=m*sz:=by rw [hV,Ap,Ar,An]; omega
 have aS:∀ {W:World},W.heap=w.heap→At W b o S:=fun h=>by rw [hS]; exact b6B (by rw [h]; exact hb)
 have aV:∀ {W:World},W.heap=w.heap→At W vb vo V:=fun h=>by rw [hV]; exact b6B (by rw [h]; exact hv)
 obtain ⟨cur2,hcur2⟩:∃ l,l=(cur.toList.take (o+n*sz)++V++cur.toList.drop (o+n*sz+V.length)).toArray:=⟨_,rfl⟩
 have hrun:∀ ty,(Builtin.append_ #[tS,tS] ty #[.slice (some ⟨b,o,none⟩) n c,.slice (some ⟨vb,vo,none⟩) m vc]).run P w=.ok (.slice (some ⟨b,o,none⟩) (n+m) c) (w.setRow b cur2):=fun ty=>by
  rw [b9C L.uS L.iE L.zE hby h48 (news:=V) (olds:=S) (l1A (by rw [hVl,hsz]) (.inr ⟨vb,vo,rfl,aV rfl⟩)) (l1A (by rw [hSl,hsz]) (.inr ⟨b,o,rfl,aS rfl⟩)) (l1A (by rw [hVl,hsz]) (.inr ⟨vb,vo,rfl,aV rfl⟩)),Aj hroom]
  have hst:=run_storeCells_at (P:=P) b (o+n*sz) ee V 0 cur w hb (by omega) (fun v hv=>h1v v (by rw [hV] at hv; exact hv))
  rw [Dx] at hst
  simp only
  rw [←hsz,show (⟨b,o,none⟩:Addr).add (n*sz)=⟨b,o+n*sz,none⟩ from Addr.add_lit _ _ _,hst,←hcur2]
  rfl
 have hfin:b7B w (some b) n m sz (m1A S V (n*sz)) (.returned (.slice (some ⟨b,o,none⟩) (n+m) c)) (w.setRow b cur2):=by
  refine ⟨b,o,c,cur2,ee,rfl,hroom,⟨rfl,rfl⟩,by rw [size_setRow]; omega,setRow_heap w b cur cur2 ee _ hb,?_,?_,fun k hk _=>q1A w _ _ _ hk,.inl ⟨rfl,size_setRow _ _ _⟩⟩
  ·rw [hcur2]
   simp only [Cy,Ak,Ap,Ar,An,hVl]
   omega
  ·rw [b9E _ _ _ (by omega),hcur2,List.toList_toArray]
   have e:cur.toList.take (o+n*sz)=cur.toList.take o++S:=by rw [List.take_add,hS]
   rw [e,Bz,Bz,List.drop_append_of_le_length (by rw [Ap,An]; omega),List.drop_of_length_le (by rw [Ap]; omega),Cv,←Bz,List.take_append_of_le_length (by rw [Ak]; omega),Bn (by rw [Ak]; omega)]
 clear hsz e2 hS hV hSl hVl hcur2
 go_enter fn,r1C nm tS tE fO fR
 go_wp2_with (at_builtin; refine Lib.wpList_append_run _ rfl _ _ _ _ rfl _ _ rfl rfl _ _ (hrun _) ?_)
 go_ret
 exact hfin
set_option maxHeartbeats 4000000 in
set_option maxRecDepth 100000 in
theorem u0B {P:Program} {f fO tS tE:Nat} {inf:TypeInfo} {z:Value} (L:t9B P f fO tS tE inf z) {w:World} {sb:Option Addr} {n c vb vo m vc:Nat} {S:List Value} {vcur:Array Value} {ve:TypeId} (hm:0<m) (hroom:c<n+m)
  (hby:0<inf.bytes) (h48:(n+m)*inf.bytes≤140737488355328) (hzl:z.cells.size=inf.size) (hnc:n≤c)
  (hSl:S.length=n*inf.size) (hs:n=0∨∃ b o,sb=some ⟨b,o,none⟩∧At w b o S) (hnil:sb=none→n=0)
  (hv:w.heap[vb]? = some (.cells vcur ve (0,0))) (hvfit:vo+m*inf.size≤vcur.size) (h1v:∀ v∈(vcur.toList.drop vo).take (m*inf.size),v.oneCell'=true) (ob:Option Nat) :
  Calls P f #[.slice sb n c,.int .i64 n,.slice (some ⟨vb,vo,none⟩) m vc] w fun e w' =>
   b7B w ob n m inf.size (m1A S ((vcur.toList.drop vo).take (m*inf.size)) (n*inf.size)) e w':=by
 obtain ⟨nm,fR,fn⟩:=L.fn
 have t3:=L.t3; have a3:=L.a3; have z3:=L.z3; have t4:=L.t4; have a4:=L.a4; have z4:=L.z4; have t22:=L.uS; have a22:=L.aS; have z22:=L.zS
 have u3:=run_underlying L.t3; have u4:=run_underlying L.t4; have u22:=run_underlying L.uS
 have hmz:¬ ((m:Int)=0):=by omega
 have mixed:=L.mixed
 have zE:∀ w,(Go.sizeOf tE).run P w=.ok inf.size w:=fun w=>n1A L.iE
 obtain ⟨sz,hsz⟩:∃ sz,sz=inf.size:=⟨_,rfl⟩
 rw [←hsz] at hvfit zE hSl hzl h1v ⊢
 have e2:(n+m)*sz=n*sz+m*sz:=Ca _ _ _
 obtain ⟨V,hV⟩:∃ l,l=(vcur.toList.drop vo).take (m*sz):=⟨_,rfl⟩
 rw [←hV]
 have hVl:V.length=m*sz:=by rw [hV,Ap,Ar,An]; omega
 have aV:∀ {W:World},W.heap=w.heap→At W vb vo V:=fun h=>by rw [hV]; exact b6B (by rw [h]; exact hv)
 obtain ⟨G,hG⟩:∃ G,G=grownCap w (n+m) c tE:=⟨_,rfl⟩
 obtain ⟨row,hrow⟩:∃ r,r=S.toArray++V.toArray++Builtin.zeroCells z.cells (G - (n+m)):=⟨_,rfl⟩
 have hGn:n+m≤G:=by rw [hG]; exact e3D w
 have hrun:∀ ty,(Builtin.append_ #[tS,tS] ty #[.slice sb n c,.slice (some ⟨vb,vo,none⟩) m vc]).run P w=.ok (.slice (some ⟨w.heap.size,0,none⟩) (n+m) G) (w.drew.alloc (.cells row tE)):=fun ty=>by
  rw [b9C L.uS L.iE L.zE hby h48 (news:=V) (olds:=S) (l1A (by rw [hVl,hsz]) (.inr ⟨vb,vo,rfl,aV rfl⟩)) (l1A (by rw [hSl,hsz]) hs) (l1A (by rw [hVl,hsz]) (.inr ⟨vb,vo,rfl,aV rfl⟩)),Ae (by omega),hrow,hG]
 have hrl:row.size=G*sz:=by
  rw [hrow,Array.size_append,Array.size_append,t2B,hzl,Cy,Cy,hSl,hVl,←Ca,←Ca]
  congr 1; omega
 have hfin:b7B w ob n m sz (m1A S V (n*sz)) (.returned (.slice (some ⟨w.heap.size,0,none⟩) (n+m) G)) (w.drew.alloc (.cells row tE)):=by
  refine ⟨w.heap.size,0,G,row,tE,rfl,hGn,⟨rfl,rfl⟩,by rw [World.size_alloc]; exact Ej _,World.alloc_heap_new w.drew _,by omega,?_,fun k _ hk=>Below.heap_alloc w.drew _ k hk,.inr ⟨rfl,World.size_alloc _ _⟩⟩
  ·rw [b9E _ _ _ (by omega),hrow,Do]
   simp only [Array.toList_append]
   rw [List.take_append_of_le_length (by rw [Ak]; omega),Bn (by rw [Ak]; omega)]
 clear hsz e2 hV hSl hVl hrow hG hrl
 go_enter fn,r1C nm tS tE fO fR
 cases sb with
 | none =>
  have h0:=hnil rfl
  subst h0
  go_wp2_with (at_builtin; refine Lib.wpList_append_run _ rfl _ _ _ _ rfl _ _ rfl rfl _ _ (hrun _) ?_)
  go_ret
  rw [Eb,Dk] at hfin
  exact hfin
 | some a =>
  obtain ⟨ab,ao,asp⟩:=a
  go_wp2_with (at_builtin; refine Lib.wpList_append_run _ rfl _ _ _ _ rfl _ _ rfl rfl _ _ (hrun _) ?_)
  all_goals (go_ret; exact hfin)
omit [Inhabited GW] in
theorem h1F {row row1 row2 A V B:List Value} {is ms bs:Nat} (hA:A.length=is) (hV:V.length=ms) (hB:B.length=bs) (hr:∃ Z,row=A++Z) (hl:is+ms+bs≤row.length)
  (h1:row1=row.take is++(V++row.drop (is+V.length))) (h2:row2=row1.take (is+ms)++(B++row1.drop (is+ms+B.length))):row2.length=row.length∧row2.take (is+ms+bs)=A++(V++B):=by
 obtain ⟨Z,hZ⟩:=hr
 have e1:row.take is=A:=by rw [hZ,List.take_append_of_le_length (by omega),Bn (by omega)]
 have hl1:row1.length=row.length:=by rw [h1]; simp only [Ak,Ap,Ar]; omega
 have e2:row1.take (is+ms)=A++V:=by
  rw [h1,e1,←Bz,List.take_append_of_le_length (by rw [Ak]; omega),Bn (by rw [Ak]; omega)]
 refine ⟨by rw [h2]; simp only [Ak,Ap,Ar]; omega,?_⟩
 rw [h2,e2,←Bz,List.take_append_of_le_length (by simp only [Ak]; omega),Bn (by simp only [Ak]; omega),Bz]
set_option maxHeartbeats 4000000 in
set_option maxRecDepth 100000 in
theorem c1E {P:Program} {f fO tS tE:Nat} {inf:TypeInfo} {z:Value} (L:t9B P f fO tS tE inf z) {w:World} {b o n c i vb vo m vc:Nat} {cur vcur:Array Value} {ee ve:TypeId} (hi:i<n) (hm:0<m) (hroom:c<n+m) (hnc:n≤c)
  (hby:0<inf.bytes) (h48:(n+m)*inf.bytes≤140737488355328) (hzl:z.cells.size=inf.size)
  (hb:w.heap[b]? = some (.cells cur ee (0,0))) (hfit:o+n*inf.size≤cur.size) (hv:w.heap[vb]? = some (.cells vcur ve (0,0))) (hvfit:vo+m*inf.size≤vcur.size) (h1c:∀ v∈(cur.toList.drop o).take (n*inf.size),v.oneCell'=true) (h1v:∀ v∈(vcur.toList.drop vo).take (m*inf.size),v.oneCell'=true) (ob:Option Nat) :
  Calls P f #[.slice (some ⟨b,o,none⟩) n c,.int .i64 i,.slice (some ⟨vb,vo,none⟩) m vc] w fun e w' =>
   b7B w ob n m inf.size (m1A ((cur.toList.drop o).take (n*inf.size)) ((vcur.toList.drop vo).take (m*inf.size)) (i*inf.size)) e w':=by
 obtain ⟨nm,fR,fn⟩:=L.fn
 have t3:=L.t3; have a3:=L.a3; have z3:=L.z3; have t4:=L.t4; have a4:=L.a4; have z4:=L.z4; have t22:=L.uS; have a22:=L.aS; have z22:=L.zS
 have u3:=run_underlying L.t3; have u4:=run_underlying L.t4; have u22:=run_underlying L.uS
 have mixed:=L.mixed
 have zE:∀ w,(Go.sizeOf tE).run P w=.ok inf.size w:=fun w=>n1A L.iE
 have hbw:b<w.heap.size:=(Cb.1 hb).1
 have hvw:vb<w.heap.size:=(Cb.1 hv).1
 obtain ⟨sz,hsz⟩:∃ sz,sz=inf.size:=⟨_,rfl⟩
 have hW:0<sz:=by rw [hsz]; exact L.wE
 have hin:i≤n:=by omega
 have hnm63:n+m≤140737488355328:=Dz (Nat.le_mul_of_pos_right _ hby) h48
 rw [←hsz] at hfit hvfit hzl zE h1c h1v ⊢
 have e1:(i+m)*sz=i*sz+m*sz:=Ca _ _ _
 have e2:(n+m)*sz=n*sz+m*sz:=Ca _ _ _
 have e3:i*sz+(n - i)*sz=n*sz:=by rw [←Ca,Nat.add_sub_cancel' hin]
 have e5:0<(n - i)*sz:=Nat.mul_pos (by omega) hW
 have e6:0<m*sz:=Nat.mul_pos hm hW
 have e7:(n+m - i)*sz=(n - i)*sz+m*sz:=by rw [←Ca]; congr 1; omega
 obtain ⟨S,hS⟩:∃ l,l=(cur.toList.drop o).take (n*sz):=⟨_,rfl⟩
 obtain ⟨V,hV⟩:∃ l,l=(vcur.toList.drop vo).take (m*sz):=⟨_,rfl⟩
 rw [←hS,←hV]
 have hSl:S.length=n*sz:=by rw [hS,Ap,Ar,An]; omega
 have hVl:V.length=m*sz:=by rw [hV,Ap,Ar,An]; omega
 have hS1:∀ v∈S,v.oneCell'=true:=fun v h=>h1c v (by rw [hS] at h; exact h)
 have hV1:∀ v∈V,v.oneCell'=true:=fun v h=>h1v v (by rw [hV] at h; exact h)
 have aS:At w b o S:=by rw [hS]; exact b6B hb
 have aV:At w vb vo V:=by rw [hV]; exact b6B hv
 obtain ⟨A,hA⟩:∃ l,l=S.take (i*sz):=⟨_,rfl⟩
 obtain ⟨B,hB⟩:∃ l,l=S.drop (i*sz):=⟨_,rfl⟩
 have hAl:A.length=i*sz:=by rw [hA,Ap]; omega
 have hBl:B.length=(n - i)*sz:=by rw [hB,Ar]; omega
 have aA:At w b o A:=fun j v hj=>aS j v (by rw [hA,Bt] at hj; split at hj; exact hj; cases hj)
 have aB:At w b (o+i*sz) B:=fun j v hj=>by
  rw [hB,Bl] at hj
  have:=aS (i*sz+j) v hj
  rwa [←Dj] at this
 obtain ⟨G,hG⟩:∃ G,G=grownCap w (n+m) c tE:=⟨_,rfl⟩
 have hGn:n+m≤G:=by rw [hG]; exact e3D w
 have hG63:G≤9223372036854775807:=by
  have:=grownCap_le_maxLen w (n+m) c tE (by unfold maxLen; omega)
  rw [←hG] at this
  unfold maxLen at this
  omega
 obtain ⟨row,hrow⟩:∃ r,r=A.toArray++Builtin.zeroCells z.cells (n+m - i)++Builtin.zeroCells z.cells (G - (n+m)):=⟨_,rfl⟩
 have hrl:row.size=G*sz:=by
  rw [hrow,Array.size_append,Array.size_append,t2B,t2B,hzl,Cy,hAl,←Ca,←Ca]
  congr 1; omega
 have hgr:(n+m)*sz≤G*sz:=Aw _ hGn
 have hkk:(n:Int)+(m:Int) - (i:Int)=((n+m - i:Nat):Int):=by omega
 have hik:i+(n+m - i)=n+m:=by omega
 have hrz:∀ ty,(Builtin.append_ #[tS,3] ty #[.slice (some ⟨b,o,none⟩) i c,.int .i64 ((n:Int)+(m:Int) - (i:Int))]).run P w=.ok (.slice (some ⟨w.heap.size,0,none⟩) (n+m) G) (w.drew.alloc (.cells row tE)):=fun ty=>by
  have h:=Lib.run_append_grow_zeros w tS 3 ty tE inf z .i64 .i64 L.uS L.t3 L.iE L.zE (some ⟨b,o,none⟩) i c A (l1A (by rw [hAl,hsz]) (.inr ⟨b,o,rfl,aA⟩)) (n+m - i) (by omega) (by rw [←hsz]; exact hW) (by omega) (by omega)
   (by have:=Aw inf.bytes (show n+m - i≤n+m by omega); omega) (by rw [hik]; exact growslice_fits hroom h48)
  rw [hik,←hG,←hrow] at h
  rw [hkk]
  exact h
 have hNr:∀ {W:World},W.heap=(w.drew.alloc (.cells row tE)).heap→W.heap[w.heap.size]? = some (.cells row tE (0,0)):=fun h=>by rw [h]; exact World.alloc_heap_new w.drew _
 have hold:∀ {W:World} {k:Nat},W.heap=(w.drew.alloc (.cells row tE)).heap→k<w.heap.size→W.heap[k]? = w.heap[k]? := fun h hk=>by rw [h]; exact Below.heap_alloc w.drew _ _ hk
 have atO:∀ {W:World} {k o:Nat} {l:List Value},(W.heap[k]? = w.heap[k]?)→At w k o l→At W k o l:=fun h ha j v hj=>(b5D h).trans (ha j v hj)
 obtain ⟨row1,hrow1⟩:∃ r,r=(row.toList.take (i*sz)++(V++row.toList.drop (i*sz+V.length))).toArray:=⟨_,rfl⟩
 obtain ⟨row2,hrow2⟩:∃ r,r=(row1.toList.take ((i+m)*sz)++(B++row1.toList.drop ((i+m)*sz+B.length))).toArray:=⟨_,rfl⟩
 have hgc:=h1F (row:=row.toList) (row1:=row1.toList) (row2:=row2.toList) (A:=A) (V:=V) (B:=B) hAl hVl hBl ⟨(Builtin.zeroCells z.cells (n+m - i)).toList++(Builtin.zeroCells z.cells (G - (n+m))).toList,by rw [hrow]; simp⟩
  (by rw [An,hrl]; omega) (by rw [hrow1]) (by rw [hrow2,e1])
 have hrl1:row1.size=row.size:=by
  rw [hrow1]
  simp only [Cy,Ak,Ap,Ar,An,hVl]
  omega
 have hcpA:∀ (W:World),W.heap=(w.drew.alloc (.cells row tE)).heap→∀ ty dc,(Builtin.copy_ #[tS,tS] ty #[.slice (some ⟨w.heap.size,i*sz,none⟩) (n+m - i) dc,.slice (some ⟨vb,vo,none⟩) m vc]).run P W=.ok (goInt (m:Int)) (W.setRow w.heap.size row1):=fun W hWh ty dc=>by
  rw [r0C (w:=W) (k:=m) (cells:=V) (ee:=tE) (cur:=row) L.uS L.iE (by simp only [Nat.min_def]; split <;> omega) (by rw [←hsz]; exact hVl) (atO (hold hWh hvw) aV) (hNr hWh) (by rw [hVl,hrl]; omega) hV1,Ae (by omega),←hrow1]
 have hcpB:∀ (W:World),W.heap=((w.drew.alloc (.cells row tE)).setRow w.heap.size row1).heap→∀ ty dc sc,(Builtin.copy_ #[tS,tS] ty #[.slice (some ⟨w.heap.size,(i+m)*sz,none⟩) (n+m - (i+m)) dc,.slice (some ⟨b,o+i*sz,none⟩) (n - i) sc]).run P W=.ok (goInt ((n - i:Nat):Int)) (W.setRow w.heap.size row2):=fun W hWh ty dc sc=>by
  have h1:W.heap[w.heap.size]? = some (.cells row1 tE (0,0)):=by rw [hWh]; exact setRow_heap _ _ row row1 tE _ (hNr rfl)
  have h2:W.heap[b]? = w.heap[b]? := by rw [hWh,q1A _ _ _ _ (by omega)]; exact hold rfl hbw
  rw [r0C (w:=W) (k:=n - i) (cells:=B) (ee:=tE) (cur:=row1) L.uS L.iE (by simp only [Nat.min_def]; split <;> omega) (by rw [←hsz]; exact hBl) (atO h2 aB) h1 (by rw [hBl,hrl1,hrl]; omega) (fun v hv=>hS1 v (by rw [hB] at hv; exact List.mem_of_mem_drop hv)),Ae (by omega),←hrow2]
 have hfin:∀ W:World,W.heap=((w.drew.alloc (.cells row tE)).setRow w.heap.size row1).heap→e1A w W→b7B w ob n m sz (m1A S V (i*sz)) (.returned (.slice (some ⟨w.heap.size,0,none⟩) (n+m) G)) (W.setRow w.heap.size row2):=by
  intro W hWh hq
  have h1:W.heap[w.heap.size]? = some (.cells row1 tE (0,0)):=by rw [hWh]; exact setRow_heap _ _ row row1 tE _ (hNr rfl)
  have hsz1:W.heap.size=w.heap.size+1:=by rw [hWh,size_setRow]; exact World.size_alloc _ _
  rw [An,An] at hgc
  refine ⟨w.heap.size,0,G,row2,tE,rfl,hGn,⟨hq.1,hq.2⟩,by rw [size_setRow]; omega,setRow_heap W _ row1 row2 tE _ h1,by rw [hgc.1,hrl]; omega,?_,fun k hk hk2 => ?_,.inr ⟨rfl,by rw [size_setRow]; exact hsz1⟩⟩
  ·rw [Do,show (n+m)*sz=i*sz+m*sz+(n - i)*sz by omega,hgc.2,m1A,hA,hB]
  ·rw [q1A _ _ _ _ hk,hWh,q1A _ _ _ _ hk]
   exact hold rfl hk2
 have hz1':¬ ((m:Int)=0):=by omega
 have hz2:¬ ((i:Int)=(n:Int)):=by omega
 have hz3:(c:Int)<(n:Int)+(m:Int):=by omega
 have hGi:¬ (G=i):=by omega
 have hGim:¬ (G=i+m):=by omega
 have hci:¬ (c=i):=by omega
 have hb1:(0:Int)≤(i:Int)+(m:Int):=by omega
 have htn:((i:Int)+(m:Int)).toNat=i+m:=by omega
 have hw1:IntKind.i64.wrap ((i:Int)+(m:Int))=(i:Int)+(m:Int):=by rw [IntKind.wrap_i64]; omega
 have hb3:(i:Int)≤(n:Int):=by omega
 have hE:((w.alloc (.cells row tE)).drew).heap=(w.drew.alloc (.cells row tE)).heap:=rfl
 have hF:(((w.alloc (.cells row tE)).drew.setRow w.heap.size row1).drew).heap=((w.drew.alloc (.cells row tE)).setRow w.heap.size row1).heap:=rfl
 have hFq:e1A w (((w.alloc (.cells row tE)).drew.setRow w.heap.size row1).drew):=⟨rfl,rfl⟩
 clear hsz e1 e2 e3 e7 hS hV hSl hVl hA hB hAl hBl hG hrow hrl hrow1 hrow2 hgc hrl1 hkk hik hgr hnm63 hold hNr
 go_enter fn,r1C nm tS tE fO fR
 go_wp2_with (first
  | (at_builtin; refine Lib.wpList_append_run _ rfl _ _ _ _ rfl _ _ rfl rfl _ _ (hrz _) ?_)
  | (at_builtin; refine wpList_copy_runI _ rfl _ _ tS tS rfl _ _ rfl rfl (hcpA _ hE _ _) ?_))
 go_region_law_o (refine step_copy_runI rfl _ _ tS tS rfl (.slice (some ⟨w.heap.size,(i+m)*sz,none⟩) (n+m - (i+m)) (G - (i+m))) (.slice (some ⟨b,o+i*sz,none⟩) (n - i) (c - i)) (by simp [Act.eval,Act.put]) (by simp [Act.eval,Act.put]) (hcpB _ hF 3 (G - (i+m)) (c - i)) ?_)
 go_wp2
 go_ret
 exact hfin _ hF hFq
end Go.Rx
namespace Go.Rx
open Go.RowKit Go.Proofs
variable [Inhabited GW]
theorem c2E {P : Program} {f : FuncId} {F : Func} (hf : P.funcs[f]? = some F) (hname : (F.name == "runtime.NumGoroutine") = false) (hb : F.body.isNone = false) {ins outs : List (Bool × Ty)} {fn : c8A ins → Option (c8A outs)}
  (h:∀ x y,fn x=some y→∀ (keep:Nat→Prop) (B:Env) (vals:List Value),a4A B keep (f4A ins x ⟨[],0⟩).2.objs→j2A B (f4A ins x ⟨[],0⟩).1 vals→B.N=(f4A ins x ⟨[],0⟩).2.next →
   Calls P f vals.toArray B.w fun e w'=>∃ us v ob ob' B',e=.returned v∧B'.w=w'∧q3A B' us v∧a4A B' keep ob∧f9A outs us ob=some (y,ob')∧Later keep B B'):b7A P f ins outs fn:=by
 refine ⟨⟨F,hf,hname,hb⟩,fun x y hxy keep E vs vals objs objs' hm hr hp => ?_⟩
 have T0:Two 0 keep E { E with N:=0 } objs []:=
  ⟨rfl,rfl,fun _ _=>rfl,Ay _,hm,⟨fun id oc h=>(nomatch h),fun id oc b h=>(nomatch h),fun id id' oc oc' b h=>(nomatch h),hm.rob,hm.kb,hm.gl.mono fun _ hg=>⟨hm.gl.ro hg,rfl⟩⟩,fun b _ hx=>by obtain ⟨id,oc,h,_⟩:=hx; cases h⟩
 obtain ⟨A,B,g,L,T1,N1,hs⟩:=t5B ins T0 hr hp
 have hlive:∀ b,d8A E objs' b→d8A A objs' b:=fun b ⟨id,oc,h1,h2⟩=>⟨id,oc,h1,by rw [g.M]; exact h2⟩
 have hwB:B.w=E.w:=T1.w.trans g.w
 have hmB:a4A B (fun b=>keep b∨d8A E objs' b) (f4A ins x ⟨[],0⟩).2.objs:=
  ⟨T1.mb.rep,fun id oc b h1 h2=>⟨(T1.mb.sep id oc b h1 h2).1,fun hc=>hc.elim (T1.mb.sep id oc b h1 h2).2 fun hc=>T1.ap b (hlive b hc) ⟨id,oc,h1,h2⟩⟩,T1.mb.inj,T1.mb.rob,
   fun b hb=>hb.elim (T1.mb.kb b) fun hc=>by
    obtain ⟨id,oc,h1,h2⟩:=hlive b hc
    have:=j8A (T1.ma.rep _ _ h1).2 h2
    rw [T1.w]; exact this,T1.mb.gl⟩
 rw [←hwB]
 refine (h x y hxy _ B vals hmB hs N1).mono ?_
 rintro e w' ⟨us,v,ob,ob',E',rfl,rfl,hres,hM,hpk,hL⟩
 refine ⟨us,v,ob,ob',E',rfl,rfl,hres,hM,hpk,⟨by rw [←hwB]; exact hL.out,fun b hb=>hL.ro b ?_,fun b hb => ?_,?_,fun b hb => ?_,fun b hb => ?_⟩⟩
 ·rw [T1.ro]; exact g.later.ro b hb
 ·rcases hL.roN b hb with hb | hb
  ·rw [T1.ro] at hb
   rcases g.later.roN b hb with h1 | h1
   ·exact .inl h1
   ·exact .inr fun hc=>hc.elim h1 fun hc=>by
     obtain ⟨id,oc,h2,h3⟩:=hlive b hc
     exact (T1.ma.sep _ _ _ h2 h3).1 hb
  ·exact .inr hb
 ·rw [←hwB]; exact hL.size
 ·rw [←hwB]; exact hL.heapRo b (by rw [T1.ro]; exact g.later.ro b hb)
 ·rw [←hwB]; exact hL.heapKeep b hb
theorem c3E {E:Env} {m:MI} {t:Ty} {l:List (den t)} {b:Nat} {cur:Array Value} {seg:List Value} {e:TypeId} (hlen:m.len=l.length) (hwd:m.wd=a0A t) (hb:m.blk=some b)
  (hg:E.w.heap[b]? = some (.cells cur e (0,0))) (hcap:l.length≤m.cap) (hsz:m.base+m.cap*a0A t≤cur.size) (hs:(cur.toList.drop m.base).take (l.length*a0A t)=seg)
  (hr:a2A E (.arr l.length t) l seg):c5A E m (.arr t l):=by
 refine ⟨hlen,hwd,?_⟩
 rw [hb]
 obtain ⟨_,e2,r⟩:=hr
 refine ⟨cur,e,hg,hcap,hsz,fun i hi => ?_⟩
 obtain ⟨cs,r1,r2⟩:=r i hi
 refine ⟨cs,r1,fun j v hj => ?_⟩
 have:=r2 j v hj
 rw [←hs,Bt] at this
 split at this
 ·rw [Bl,Dr] at this
  rw [Dj]; exact this
 ·cases this
omit [Inhabited GW] in
theorem c4E {a c:Array Obj} {o:Obj} (hs:c.size=a.size+1) (hold:∀ k,k<a.size→c[k]? = a[k]?) (hn:c[a.size]? = some o):c=a.push o:=by
 apply Array.ext_getElem?
 intro k
 rw [Array.getElem?_push]
 by_cases hk:k=a.size
 ·rw [Aj hk,hk,hn]
 ·rw [Ae hk]
  by_cases hk2:k<a.size
  ·exact hold k hk2
  ·rw [Eg (by omega),Eg (by omega)]
theorem h2F {E:Env} {t:Ty} {l v:List (den t)} {S V:List Value} {i:Nat} (hS:a2A E (.arr l.length t) l S) (hV:a2A E (.arr v.length t) v V) (hi:i≤l.length) :
  a2A E (.arr (l.take i++(v++l.drop i)).length t) (l.take i++(v++l.drop i)) (m1A S V (i*a0A t)):=by
 have h1:=b1B hS (off:=0) (len:=i) (by omega)
 have h2:=b1B hS (off:=i) (len:=l.length - i) (by omega)
 rw [Eb,Do,Do] at h1
 have hl:S.length=l.length*a0A t:=hS.2.1
 rw [Bn (by rw [Ar]; exact Ay _),Bn (by rw [Ar,hl,Nat.sub_mul]; exact Ay _)] at h2
 have h3:=n8B h1 (n8B hV h2)
 rw [show i+(v.length+(l.length - i))=(l.take i++(v++l.drop i)).length by simp only [Ak,Ap,Ar]; omega] at h3
 exact h3
theorem h3F {P : Program} {f fO tS tE : Nat} {inf : TypeInfo} {z : Value} (L : t9B P f fO tS tE inf z) {F : Func} (hf : P.funcs[f]? = some F) (hname : (F.name == "runtime.NumGoroutine") = false) (hb : F.body.isNone = false)
  {t:Ty} (ht:t.pure=true) (hw:inf.size=a0A t) (hby:0<inf.bytes) (hzl:z.cells.size=inf.size) :
  b7A P f [(false,.own t),(false,.int .i64),(false,.own t)] [(false,.own t)] fun x=>s4A inf.bytes x.1 x.2.1 x.2.2:=by
 refine c2E hf hname hb fun x y hxy keep B vals hm hs hN => ?_
 obtain ⟨l,i,v⟩:=x
 change List (den t) at l
 change List (den t) at v
 change Int at i
 have hxy:s4A inf.bytes l i v=some y:=hxy
 unfold s4A at hxy
 rcases c2A hxy with ⟨hc,hxy⟩ | ⟨_,hxy⟩
 case inr=>cases hxy
 cases hxy
 simp only [Ac,Au] at hc
 obtain ⟨⟨c1,c2⟩,c3,c4⟩:=hc
 have c4:(l.length+v.length)*inf.bytes≤140737488355328:=by simpa [c6A] using c4
 obtain ⟨k,rfl⟩:∃ k:Nat,i=(k:Int):=⟨i.toNat,(Int.toNat_of_nonneg c1).symm⟩
 rw [Ao]
 obtain ⟨v0,r0,rfl,s0,vi,r1,rfl,si,v2,r2,rfl,s2,s3⟩:=hs
 have s3:r2=[]:=s3
 subst s3
 have si:a6A B (.int .i64 (k:Int)) [vi]:=si
 have si:vi=.int .i64 (k:Int):=by simpa [a6A] using si
 subst si
 have s0:a6A B (.oref 0 none) [v0]:=s0
 have s2:a6A B (.oref 1 none) [v2]:=s2
 have l0:a1A 0 (f4A [(false,Ty.own t),(false,Ty.int .i64),(false,Ty.own t)] (l,(k:Int),v) ⟨[],0⟩).2.objs=some (.arr t l):=rfl
 have l1:a1A 1 (f4A [(false,Ty.own t),(false,Ty.int .i64),(false,Ty.own t)] (l,(k:Int),v) ⟨[],0⟩).2.objs=some (.arr t v):=rfl
 generalize (f4A [(false,Ty.own t),(false,Ty.int .i64),(false,Ty.own t)] (l,(k:Int),v) ⟨[],0⟩).2.objs=objs at hm l0 l1
 have o0:=(hm.rep _ _ l0).2
 have o1:=(hm.rep _ _ l1).2
 have hWp:0<a0A t:=by rw [←hw]; exact L.wE
 obtain ⟨_,g1⟩:=s2
 have hvn:∃ vb,(B.M 1).blk=some vb:=by
  cases hbk:(B.M 1).blk with
  | some vb=>exact ⟨vb,rfl⟩
  | none =>
   have:=o1.2.2
   rw [hbk] at this
   have:v=[]:=this
   rw [this] at c3; simp at c3
 obtain ⟨vb,hvb⟩:=hvn
 obtain ⟨vcur,ve,q1,q2,q3,q4⟩:=b0B o1 hvb
 rw [hvb] at g1
 have h1len:(B.M 1).len=v.length:=o1.1
 obtain ⟨vo,vc,e2,p1,p2,p3⟩:=g1
 have e2:v2=.slice (some ⟨vb,vo,none⟩) v.length vc:=by simpa [e9A,h1len] using e2
 subst e2
 have p1:v.length≤vc:=by simpa [e9A,h1len] using p1
 have hvo:vo=(B.M 1).base:=by
  rcases p3 with p3 | p3
  ·omega
  ·simpa [d1A] using p3.1
 subst hvo
 have hmul:v.length*a0A t≤(B.M 1).cap*a0A t:=Aw _ q2
 have hv1:∀ u∈(vcur.toList.drop (B.M 1).base).take (v.length*inf.size),u.oneCell'=true:=by rw [hw]; exact a2A.one q4
 have hvfit:(B.M 1).base+v.length*inf.size≤vcur.size:=by rw [hw]; omega
 have fin:∀ {ob:Option Nat} {S:List Value},a2A B (.arr l.length t) l S→(∀ b,ob=some b→(B.M 0).blk=some b)→∀ e w',b7B B.w ob l.length v.length inf.size (m1A S ((vcur.toList.drop (B.M 1).base).take (v.length*inf.size)) (k*inf.size)) e w' →
   ∃ us v' ob ob' B',e=.returned v'∧B'.w=w'∧q3A B' us v'∧a4A B' keep ob∧f9A [(false,Ty.own t)] us ob=some (l.take k++(v++l.drop k),ob')∧Later keep B B':=by
  intro ob S hS hob e w' ⟨b',o',c',cur',ee',he,hc',hq,hsz,hb',hfit',hres,hold,hcase⟩
  rw [hw] at hres hfit'
  have hrep:=h2F (i:=k) hS q4 (by omega)
  generalize hL:l.take k++(v++l.drop k)=nl at hrep ⊢
  have hnl:nl.length=l.length+v.length:=by rw [←hL]; simp only [Ak,Ap,Ar]; omega
  have hor:∀ E:Env,E.w=w'→Later keep B E→c5A E ⟨some b',o',nl.length,c',a0A t⟩ (.arr t nl):=fun E hE hlat =>
   c3E rfl rfl rfl (by rw [hE]; exact hb') (by rw [hnl]; exact hc') hfit' (by rw [hnl]; exact hres) (a2A.later hlat hrep)
  have hpk:∀ ob:Objs,a1A B.N ob=some (.arr t nl)→f9A [(false,Ty.own t)] [.oref B.N none] ob=some (nl,b9A B.N ob):=by
   intro ob hl
   have h1:(Ty.own t).okp=true:=ht
   simp only [f9A,k8A,h1,o1A,Ty.scalar,j6A,k3A,b2A,p9A,hl]
   simp [j1A,oM,h3A]
  have hsr:∀ E:Env,E=B.new w' ⟨some b',o',nl.length,c',a0A t⟩→q3A E [.oref B.N none] (.slice (some ⟨b',o',none⟩) (l.length+v.length) c'):=by
   rintro E rfl
   have:=t1B (E:=B) (w:=w') (m:=⟨some b',o',nl.length,c',a0A t⟩) rfl (by show nl.length≤c'; rw [hnl]; exact hc')
   rw [←hnl]
   exact ⟨[_],⟨_,_,rfl,this,rfl⟩,rfl⟩
  rcases hcase with ⟨e1,hsz2⟩ | ⟨e1,hsz2⟩
  ·have hbk:=hob b' e1
   have hho:∀ k,k≠b'→w'.heap[k]? = B.w.heap[k]? := fun k hk=>by
    rcases Dh k B.w.heap.size with h | h
    ·exact hold k hk h
    ·rw [Eg (by omega),Eg (by omega)]
   obtain ⟨hlat,hM⟩:=c0C (E:=B) (keep:=keep) (w:=w') (m:=⟨some b',o',nl.length,c',a0A t⟩) (j:=0) (b:=b') (oc':=.arr t nl) hq hsz2 hho hm l0 hbk rfl (fun hlat=>hor _ rfl hlat)
   refine ⟨_,_,_,_,B.new w' ⟨some b',o',nl.length,c',a0A t⟩,he,rfl,hsr _ rfl,hM,hpk _ ?_,hlat⟩
   rw [d4A,Aj rfl]
  ·subst e1
   have hpush:=c4E (a:=B.w.heap) (c:=w'.heap) hsz2 (fun k hk=>hold k (by omega) hk) hb'
   have hlat:=a7B (E:=B) (keep:=keep) (m:=⟨some B.w.heap.size,o',nl.length,c',a0A t⟩) hpush hq hm
   have hM:=d6B (E:=B) (keep:=keep) (m:=⟨some B.w.heap.size,o',nl.length,c',a0A t⟩) (oc:=.arr t nl) hpush hq hm (fun b hb=>(Bp hb).symm) (hor _ rfl hlat)
   refine ⟨_,_,_,_,B.new w' ⟨some B.w.heap.size,o',nl.length,c',a0A t⟩,he,rfl,hsr _ rfl,hM,hpk _ ?_,hlat⟩
   rw [d4A,Aj rfl]
 obtain ⟨_,g0⟩:=s0
 have h0len:(B.M 0).len=l.length:=o0.1
 cases hbk:(B.M 0).blk with
 | none =>
  rw [hbk] at g0
  obtain ⟨e0,_,_⟩:=g0
  have e0:v0=.slice none 0 0:=by simpa using e0
  subst e0
  have hl0:l=[]:=by have:=o0.2.2; rw [hbk] at this; exact this
  subst hl0
  have hk0:k=0:=by have:(k:Int)≤(([]:List (den t)).length:Int):=c2; simp at this; omega
  subst hk0
  refine (u0B (S:=[]) (sb:=none) (n:=0) (c:=0) L c3 (by omega) hby (by simpa using c4) hzl (Ay _) (by simp) (.inl rfl) (fun _=>rfl) q1 hvfit hv1 none).mono ?_
  intro e w' hp
  exact fin (ob:=none) (S:=[]) ⟨rfl,by simp,fun i h=>absurd h (Ch _)⟩ (fun b h=>nomatch h) e w' (by simpa using hp)
 | some b =>
  rw [hbk] at g0
  obtain ⟨cur,ee,f1,f2,f3,f4⟩:=b0B o0 hbk
  obtain ⟨o,c,e0,d1,d2,d3⟩:=g0
  have e0:v0=.slice (some ⟨b,o,none⟩) l.length c:=by simpa [e9A,h0len] using e0
  subst e0
  have d1:l.length≤c:=by simpa [e9A,h0len] using d1
  have hne:vb≠b:=fun e=>by have:=hm.inj 1 0 _ _ b l1 l0 (by rw [hvb,e]) hbk; omega
  rcases Nat.eq_zero_or_pos c with hc0 | hc0
  ·subst hc0
   have hl0:l=[]:=Br.1 (by omega)
   subst hl0
   have hk0:k=0:=by have:(k:Int)≤(([]:List (den t)).length:Int):=c2; simp at this; omega
   subst hk0
   refine (u0B (S:=[]) (sb:=some ⟨b,o,none⟩) (n:=0) (c:=0) L c3 (by omega) hby (by simpa using c4) hzl (Ay _) (by simp) (.inl rfl) (fun h=>nomatch h) q1 hvfit hv1 none).mono ?_
   intro e w' hp
   exact fin (ob:=none) (S:=[]) ⟨rfl,by simp,fun i h=>absurd h (Ch _)⟩ (fun b h=>nomatch h) e w' (by simpa using hp)
  ·obtain ⟨d4,d5⟩:=d3.resolve_left (by omega)
   have d4:o=(B.M 0).base:=by simpa [d1A] using d4
   have d5:c≤(B.M 0).cap:=by simpa [d1A] using d5
   subst d4
   have hmc:c*a0A t≤(B.M 0).cap*a0A t:=Aw _ d5
   have hml:l.length*a0A t≤c*a0A t:=Aw _ d1
   have hfit:(B.M 0).base+c*inf.size≤cur.size:=by rw [hw]; omega
   have h1c:∀ u∈(cur.toList.drop (B.M 0).base).take (l.length*inf.size),u.oneCell'=true:=by rw [hw]; exact a2A.one f4
   have f4':a2A B (.arr l.length t) l ((cur.toList.drop (B.M 0).base).take (l.length*inf.size)):=by rw [hw]; exact f4
   have h63:l.length+v.length≤9223372036854775807:=by
    have:=Nat.le_mul_of_pos_right (l.length+v.length) hby
    omega
   by_cases hkn:k=l.length
   ·subst hkn
    by_cases hroom:l.length+v.length≤c
    ·exact (c0E L c3 hroom hby c4 f1 hfit q1 hvfit hv1).mono (fin (ob:=some b) f4' (fun b' h=>by cases h; exact hbk))
    ·refine (u0B (S:=(cur.toList.drop (B.M 0).base).take (l.length*inf.size)) (sb:=some ⟨b,(B.M 0).base,none⟩) L c3 (by omega) hby c4 hzl d1 (by rw [hw]; exact f4.2.1) (.inr ⟨b,_,rfl,b6B f1⟩) (fun h=>nomatch h) q1 hvfit hv1 none).mono (fin (ob:=none) f4' (fun b' h=>nomatch h))
   ·have hlt:k<l.length:=by omega
    by_cases hroom:l.length+v.length≤c
    ·exact (b8E L hlt c3 hroom h63 hne f1 hfit q1 hvfit h1c hv1).mono (fin (ob:=some b) f4' (fun b' h=>by cases h; exact hbk))
    ·exact (c1E L hlt c3 (by omega) d1 hby c4 hzl f1 (by rw [hw]; omega) q1 hvfit h1c hv1 none).mono (fin (ob:=none) f4' (fun b' h=>nomatch h))
theorem e3B {P:Program} {T:Tab} (hT:TabOK P T) {t:TypeId} (h:(d2A t T).map (·.size)=some 1):∀ w,(Go.sizeOf t).run P w=.ok 1 w:=fun w=>by
 obtain ⟨i,hi,hs⟩:=Option.map_eq_some_iff.1 h
 obtain ⟨inf,h1,h2,_⟩:=(hT _ _ hi).info
 rw [n1A h1,h2,hs]
theorem v2B {P : Program} {T : Tab} (hT : TabOK P T) (mixed : P.follows .mixedOrders = true) {f fO fR tS tE : Nat} {nm : String} {F FO : Func} (hf : P.funcs[f]? = some F) (hF : F = z2A nm tS tE fO fR) (hname : (nm == "runtime.NumGoroutine") = false)
  (hO : P.funcs[fO]? = some FO) (hOn : (FO.name == "runtime.NumGoroutine") = false) (hOb : FO.body.isNone = true) (hOx : Extern.findNext FO = none) (hOe : Extern.find FO = some (Extern.SlicesOverlaps.overlaps #[tS, tS] #[4]))
  {t:Ty} {bytes:Nat} (hel:x7A T tS=some (t,bytes)) (htd:i0A T tS=some (.sl tE)) (h3:i0A T 3=some (.int .i64)) (h4:i0A T 4=some .bool) (s3:(d2A 3 T).map (·.size)=some 1) (s4:(d2A 4 T).map (·.size)=some 1) (sS:(d2A tS T).map (·.size)=some 1)
  (hwd:Nat.blt 0 (a0A t)=true):b7A P f [(false,.own t),(false,.int .i64),(false,.own t)] [(false,.own t)] fun x=>s4A bytes x.1 x.2.1 x.2.2:=by
 obtain ⟨e,inf,z,u1,u2,u3,u4,u5,u6,u7,u8⟩:=d8B hT hel
 obtain ⟨d,v1,v2⟩:=f7A hT htd
 have v2:d=.slice tE:=v2
 subst v2
 have e1:e=tE:=by rw [u1] at v1; simpa using v1
 subst e1
 obtain ⟨d3,w1,w2⟩:=f7A hT h3
 have w2:d3=.int .i64:=w2
 subst w2
 obtain ⟨d4,x1,x2⟩:=f7A hT h4
 have x2:d4=.bool:=x2
 subst x2
 have hw0:0<a0A t:=by simpa using hwd
 have hz:=a2A.length (u8 { w:={ heap := #[],os:=default,output:=default,tape:=fun _ _=>0,drawn:=0 },ro:=fun _=>True,M:=fun _=>⟨none,0,0,0,0⟩,N:=0 })
 subst hF
 rw [←u4]
 refine h3F (inf:=inf) (z:=z) ⟨mixed,⟨nm,fR,hf⟩,fun args w=>run_callFunc_extern hO hOn hOb hOx hOe args w,w1,fun w=>a6B w1,e3B hT s3,x1,fun w=>a6B x1,e3B hT s4,u1,fun w=>a6B u1,e3B hT sS,u2,u5,by rw [u3]; exact hw0⟩ hf hname rfl u6 u3 (by rw [u4]; exact u7) ?_
 rw [u3,←hz,An]
end Go.Rx
namespace Go.Rx
open Go.RowKit Go.Proofs
variable [Inhabited GW]
theorem h4F {E:Env} {t:Ty} {l:List (den t)} {S us:List Value} {k:Nat} {cs:List AV} (hS:a2A E (.arr l.length t) l S) (hk:k≤l.length) (hc:b0A E cs us) (hu:us.length=a0A t) :
  a5B E t (l.take k++(c4A t::l.drop k)) k cs (m1A S us (k*a0A t)):=by
 obtain ⟨_,e2,r⟩:=hS
 have hkw:k*a0A t≤l.length*a0A t:=Aw _ hk
 have htl:(S.take (k*a0A t)).length=k*a0A t:=by rw [Ap]; omega
 have hll:(l.take k++(c4A t::l.drop k)).length=l.length+1:=by simp only [Ak,Ap,Be,Ar]; omega
 have htk:(l.take k).length=k:=by rw [Ap]; omega
 unfold m1A
 refine ⟨?_,by rw [hll]; omega,fun i hi hik => ?_,us,hc,hu,fun j v hj => ?_⟩
 ·rw [hll,Ca]
  simp only [Ak,Ap,Ar]; omega
 ·rw [hll] at hi
  rcases Nat.lt_or_gt_of_ne hik with h | h
  ·obtain ⟨cs',r1,r2⟩:=r i (by omega)
   refine ⟨cs',?_,fun j v hj => ?_⟩
   ·rw [List.getElem_append_left (by rw [htk]; exact h),List.getElem_take]; exact r1
   ·have hjl:j<a0A t:=by rw [←a2A.length r1]; exact (Cl.1 hj).1
    have:i*a0A t+a0A t≤k*a0A t:=by rw [←Dw]; exact Aw _ h
    rw [Bd (by rw [htl]; omega),Et (by omega)]
    exact r2 j v hj
  ·obtain ⟨q,rfl⟩:∃ q,i=q+1:=⟨i - 1,by omega⟩
   obtain ⟨cs',r1,r2⟩:=r q (by omega)
   refine ⟨cs',?_,fun j v hj => ?_⟩
   ·rw [List.getElem_append_right (by rw [htk]; omega)]
    have e:q+1 - (l.take k).length=(q - k)+1:=by rw [htk]; omega
    simp only [e,List.getElem_cons_succ,List.getElem_drop]
    have e2:k+(q - k)=q:=by omega
    simp only [e2]; exact r1
   ·have:k*a0A t≤q*a0A t:=Aw _ (by omega)
    rw [Ca,Nat.one_mul,List.getElem?_append_right (by rw [htl]; omega),htl,List.getElem?_append_right (by omega),Bl,←r2 j v hj]
    congr 1; omega
 ·have hjl:j<us.length:=(Cl.1 hj).1
  rw [List.getElem?_append_right (by rw [htl]; omega),htl,Nat.add_sub_cancel_left,Bd hjl]
  exact hj
theorem h5F {P:Program} {f fO tS tE:Nat} {inf:TypeInfo} {z:Value} (L:t9B P f fO tS tE inf z) {t:Ty} (hw:inf.size=a0A t) (hby:0<inf.bytes) (hzl:z.cells.size=inf.size):o9B P f t inf.bytes:=by
 intro keep B objs a b k l m y g cs far vals hm ha hbl hm1 hr c1 c2 c4
 subst hm1
 have c4:(l.length+1)*inf.bytes≤140737488355328:=by simpa [c6A] using c4
 obtain ⟨k,rfl⟩:∃ q:Nat,k=(q:Int):=⟨k.toNat,(Int.toNat_of_nonneg c1).symm⟩
 rw [Ao]
 have hkl:k≤l.length:=by omega
 obtain ⟨v0,r0,rfl,s0,vi,r1,rfl,si,v2,r2,rfl,s2,s3⟩:=hr
 have s3:r2=[]:=s3
 subst s3
 have si:a6A B (.int .i64 (k:Int)) [vi]:=si
 have si:vi=.int .i64 (k:Int):=by simpa [a6A] using si
 subst si
 have s0:a6A B (.oref a none) [v0]:=s0
 have s2:a6A B (.oref b none) [v2]:=s2
 have o0:=(hm.rep _ _ ha).2
 have hab:a≠b:=fun e=>by rw [e,hbl] at ha; cases ha
 have hWp:0<a0A t:=by rw [←hw]; exact L.wE
 obtain ⟨h1len,h1wd,vb,vcur,ve,hvb,q1,q2,q3,⟨hsl,hg,_,us,hus,hul,huj⟩,_⟩:=c7D (hm.rep _ _ hbl).2
 have h1len:(B.M b).len=1:=h1len
 have hg0:g=0:=by have:g<1:=hg; omega
 subst hg0
 obtain ⟨_,g1⟩:=s2
 rw [hvb] at g1
 obtain ⟨vo,vc,e2,p1,p2,p3⟩:=g1
 have e2:v2=.slice (some ⟨vb,vo,none⟩) 1 vc:=by simpa [e9A,h1len] using e2
 subst e2
 have p1:1≤vc:=by simpa [e9A,h1len] using p1
 have hvo:vo=(B.M b).base:=by
  rcases p3 with p3 | p3
  ·omega
  ·simpa [d1A] using p3.1
 subst hvo
 have hmul:1*a0A t≤(B.M b).cap*a0A t:=Aw _ q2
 have hV:(vcur.toList.drop (B.M b).base).take (1*inf.size)=us:=by
  rw [hw]
  have hsl:((vcur.toList.drop (B.M b).base).take (1*a0A t)).length=1*a0A t:=hsl
  apply List.ext_getElem?
  intro j
  by_cases hj:j<us.length
  ·rw [Aq hj]
   have:=huj j _ (Aq hj)
   rw [Eb,Dk] at this
   exact this
  ·rw [Bq (by omega),Bq (by omega)]
 have hv1:∀ u∈(vcur.toList.drop (B.M b).base).take (1*inf.size),u.oneCell'=true:=by rw [hV]; exact b0A.one hus
 have hvfit:(B.M b).base+1*inf.size≤vcur.size:=by rw [hw]; omega
 have hmd:a4A B keep (b9A b objs):=s0A hm
 have fin:∀ {ob:Option Nat} {S:List Value},a2A B (.arr l.length t) l S→(∀ b,ob=some b→(B.M a).blk=some b)→∀ e w',b7B B.w ob l.length 1 inf.size (m1A S ((vcur.toList.drop (B.M b).base).take (1*inf.size)) (k*inf.size)) e w' →
   ∃ v E',e=.returned v∧E'.w=w'∧Later keep B E'∧a4A E' keep (a9A B.N (.hol t (l.take k++(c4A t::l.drop k)) k cs false) (b9A b (b9A a objs)))∧E'.N=B.N+1∧a3A E' (.oref B.N none) v:=by
  intro ob S hS hob e w' ⟨b',o',c',cur',ee',he,hc',hq,hsz,hb',hfit',hres,hold,hcase⟩
  rw [hV] at hres
  rw [hw] at hres hfit'
  have hnl:(l.take k++(c4A t::l.drop k)).length=l.length+1:=by simp only [Ak,Ap,Be,Ar]; omega
  have hor:∀ E:Env,E.w=w'→Later keep B E→c5A E ⟨some b',o',l.length+1,c',a0A t⟩ (.hol t (l.take k++(c4A t::l.drop k)) k cs false):=fun E hE hlat=>by
   refine ⟨hnl.symm,rfl,b',cur',ee',rfl,by rw [hE]; exact hb',by rw [hnl]; exact hc',hfit',?_⟩
   rw [hnl]
   show a5B E t _ k cs ((cur'.toList.drop o').take ((l.length+1)*a0A t))
   rw [hres]
   exact a5B.later hlat (h4F hS hkl hus hul)
  have hsr:∀ E:Env,E=B.new w' ⟨some b',o',l.length+1,c',a0A t⟩→a3A E (.oref B.N none) (.slice (some ⟨b',o',none⟩) (l.length+1) c'):=by
   rintro E rfl
   exact t1B (E:=B) (w:=w') (m:=⟨some b',o',l.length+1,c',a0A t⟩) rfl hc'
  rcases hcase with ⟨e1,hsz2⟩ | ⟨e1,hsz2⟩
  ·have hbk:=hob b' e1
   have hho:∀ k,k≠b'→w'.heap[k]? = B.w.heap[k]? := fun k hk=>by
    rcases Dh k B.w.heap.size with h | h
    ·exact hold k hk h
    ·rw [Eg (by omega),Eg (by omega)]
   have had:a1A a (b9A b objs)=some (.arr t l):=by rw [i3A,Ae hab]; exact ha
   obtain ⟨hlat,hM⟩:=c0C (E:=B) (keep:=keep) (w:=w') (m:=⟨some b',o',l.length+1,c',a0A t⟩) (j:=a) (b:=b') (oc':=.hol t (l.take k++(c4A t::l.drop k)) k cs false) hq hsz2 hho hmd had hbk rfl (fun hlat=>hor _ rfl hlat)
   refine ⟨_,B.new w' ⟨some b',o',l.length+1,c',a0A t⟩,he,rfl,hlat,t0B hM fun j oc hj => ?_,rfl,hsr _ rfl⟩
   rw [d4A] at hj ⊢
   by_cases e:j=B.N
   ·rw [Aj e] at hj ⊢; exact hj
   ·rw [Ae e] at hj ⊢
    rw [i3A,i3A] at hj ⊢
    by_cases ea:j=a <;> by_cases eb:j=b <;> simp [ea,eb] at hj ⊢ <;> exact hj
  ·subst e1
   have hpush:=c4E (a:=B.w.heap) (c:=w'.heap) hsz2 (fun k hk=>hold k (by omega) hk) hb'
   have hlat:=a7B (E:=B) (keep:=keep) (m:=⟨some B.w.heap.size,o',l.length+1,c',a0A t⟩) hpush hq hm
   have hM:=d6B (E:=B) (keep:=keep) (m:=⟨some B.w.heap.size,o',l.length+1,c',a0A t⟩) (oc:=.hol t (l.take k++(c4A t::l.drop k)) k cs false) hpush hq (s0A (id:=b) (s0A (id:=a) hm)) (fun b hb=>(Bp hb).symm) (hor _ rfl hlat)
   exact ⟨_,B.new w' ⟨some B.w.heap.size,o',l.length+1,c',a0A t⟩,he,rfl,hlat,hM,rfl,hsr _ rfl⟩
 obtain ⟨_,g0⟩:=s0
 have h0len:(B.M a).len=l.length:=o0.1
 cases hbk:(B.M a).blk with
 | none =>
  rw [hbk] at g0
  obtain ⟨e0,_,_⟩:=g0
  have e0:v0=.slice none 0 0:=by simpa using e0
  subst e0
  have hl0:l=[]:=by have:=o0.2.2; rw [hbk] at this; exact this
  subst hl0
  have hk0:k=0:=by simpa using hkl
  subst hk0
  refine (u0B (S:=[]) (sb:=none) (n:=0) (c:=0) L Fg (by omega) hby (by simpa using c4) hzl (Ay _) (by simp) (.inl rfl) (fun _=>rfl) q1 hvfit hv1 none).mono ?_
  intro e w' hp
  exact fin (ob:=none) (S:=[]) ⟨rfl,by simp,fun i h=>absurd h (Ch _)⟩ (fun b h=>nomatch h) e w' (by simpa using hp)
 | some b0 =>
  rw [hbk] at g0
  obtain ⟨cur,ee,f1,f2,f3,f4⟩:=b0B o0 hbk
  obtain ⟨o,c,e0,d1,d2,d3⟩:=g0
  have e0:v0=.slice (some ⟨b0,o,none⟩) l.length c:=by simpa [e9A,h0len] using e0
  subst e0
  have d1:l.length≤c:=by simpa [e9A,h0len] using d1
  have hne:vb≠b0:=fun e=>hab (hm.inj a b _ _ b0 ha hbl hbk (by rw [hvb,e]))
  rcases Nat.eq_zero_or_pos c with hc0 | hc0
  ·subst hc0
   have hl0:l=[]:=Br.1 (by omega)
   subst hl0
   have hk0:k=0:=by simpa using hkl
   subst hk0
   refine (u0B (S:=[]) (sb:=some ⟨b0,o,none⟩) (n:=0) (c:=0) L Fg (by omega) hby (by simpa using c4) hzl (Ay _) (by simp) (.inl rfl) (fun h=>nomatch h) q1 hvfit hv1 none).mono ?_
   intro e w' hp
   exact fin (ob:=none) (S:=[]) ⟨rfl,by simp,fun i h=>absurd h (Ch _)⟩ (fun b h=>nomatch h) e w' (by simpa using hp)
  ·obtain ⟨d4,d5⟩:=d3.resolve_left (by omega)
   have d4:o=(B.M a).base:=by simpa [d1A] using d4
   have d5:c≤(B.M a).cap:=by simpa [d1A] using d5
   subst d4
   have hmc:c*a0A t≤(B.M a).cap*a0A t:=Aw _ d5
   have hml:l.length*a0A t≤c*a0A t:=Aw _ d1
   have hfit:(B.M a).base+c*inf.size≤cur.size:=by rw [hw]; omega
   have h1c:∀ u∈(cur.toList.drop (B.M a).base).take (l.length*inf.size),u.oneCell'=true:=by rw [hw]; exact a2A.one f4
   have f4':a2A B (.arr l.length t) l ((cur.toList.drop (B.M a).base).take (l.length*inf.size)):=by rw [hw]; exact f4
   have h63:l.length+1≤9223372036854775807:=by
    have:=Nat.le_mul_of_pos_right (l.length+1) hby
    omega
   by_cases hkn:k=l.length
   ·subst hkn
    by_cases hroom:l.length+1≤c
    ·exact (c0E L Fg hroom hby c4 f1 hfit q1 hvfit hv1).mono (fin (ob:=some b0) f4' (fun b' h=>by cases h; exact hbk))
    ·refine (u0B (S:=(cur.toList.drop (B.M a).base).take (l.length*inf.size)) (sb:=some ⟨b0,(B.M a).base,none⟩) L Fg (by omega) hby c4 hzl d1 (by rw [hw]; exact f4.2.1) (.inr ⟨b0,_,rfl,b6B f1⟩) (fun h=>nomatch h) q1 hvfit hv1 none).mono (fin (ob:=none) f4' (fun b' h=>nomatch h))
   ·have hlt:k<l.length:=by omega
    by_cases hroom:l.length+1≤c
    ·exact (b8E L hlt Fg hroom h63 hne f1 hfit q1 hvfit h1c hv1).mono (fin (ob:=some b0) f4' (fun b' h=>by cases h; exact hbk))
    ·exact (c1E L hlt Fg (by omega) d1 hby c4 hzl f1 (by rw [hw]; omega) q1 hvfit h1c hv1 none).mono (fin (ob:=none) f4' (fun b' h=>nomatch h))
theorem e0E {P : Program} {T : Tab} (hT : TabOK P T) (mixed : P.follows .mixedOrders = true) {f fO fR tS tE : Nat} {nm : String} {F FO : Func} (hf : P.funcs[f]? = some F) (hF : F = z2A nm tS tE fO fR) (hname : (nm == "runtime.NumGoroutine") = false)
  (hO : P.funcs[fO]? = some FO) (hOn : (FO.name == "runtime.NumGoroutine") = false) (hOb : FO.body.isNone = true) (hOx : Extern.findNext FO = none) (hOe : Extern.find FO = some (Extern.SlicesOverlaps.overlaps #[tS, tS] #[4]))
  {t:Ty} {bytes:Nat} (hel:x7A T tS=some (t,bytes)) (htd:i0A T tS=some (.sl tE)) (h3:i0A T 3=some (.int .i64)) (h4:i0A T 4=some .bool) (s3:(d2A 3 T).map (·.size)=some 1) (s4:(d2A 4 T).map (·.size)=some 1) (sS:(d2A tS T).map (·.size)=some 1)
  (hwd:Nat.blt 0 (a0A t)=true):e5C P f∧o9B P f t bytes:=by
 obtain ⟨e,inf,z,u1,u2,u3,u4,u5,u6,u7,u8⟩:=d8B hT hel
 obtain ⟨d,v1,v2⟩:=f7A hT htd
 have v2:d=.slice tE:=v2
 subst v2
 have e1:e=tE:=by rw [u1] at v1; simpa using v1
 subst e1
 obtain ⟨d3,w1,w2⟩:=f7A hT h3
 have w2:d3=.int .i64:=w2
 subst w2
 obtain ⟨d4,x1,x2⟩:=f7A hT h4
 have x2:d4=.bool:=x2
 subst x2
 have hw0:0<a0A t:=by simpa using hwd
 have hz:=a2A.length (u8 { w:={ heap := #[],os:=default,output:=default,tape:=fun _ _=>0,drawn:=0 },ro:=fun _=>True,M:=fun _=>⟨none,0,0,0,0⟩,N:=0 })
 subst hF
 rw [←u4]
 refine ⟨⟨_,hf,hname,rfl⟩,h5F (inf:=inf) (z:=z) ⟨mixed,⟨nm,fR,hf⟩,fun args w=>run_callFunc_extern hO hOn hOb hOx hOe args w,w1,fun w=>a6B w1,e3B hT s3,x1,fun w=>a6B x1,e3B hT s4,u1,fun w=>a6B u1,e3B hT sS,u2,u5,by rw [u3]; exact hw0⟩ u3 (by rw [u4]; exact u7) ?_⟩
 rw [u3,←hz,An]
end Go.Rx
namespace Go.Rx
set_option maxRecDepth 10000 in
def e6C (s1 : String) (a2 a3 : Nat) : Func := { name := s1, origin := "slices.Delete", targs := #[a2, a3], params := #[a2, 3, 3], resultTypes := #[a2], nfree := 0, ntmps := 33, results := #[ResultVar.tmp 6], body := some ((Code.region 0 #[{ dst := some 6, op := .assign (.const (Value.slice none 0 0)), type := a2, pos := "slices.go:224", after := #[], guard := none }] false).seq ((Code.region 1 #[{ dst := some 8, op := .move (.tmp 0), type := a2, pos := "slices.go:225", after := #[], guard := none }, { dst := some 9, op := .move (.tmp 1), type := 3, pos := "slices.go:225", after := #[], guard := none }, { dst := some 10, op := .move (.tmp 2), type := 3, pos := "slices.go:225", after := #[], guard := none }, { dst := some 11, op := .move (.tmp 0), type := a2, pos := "slices.go:225", after := #[], guard := none }, { dst := some 12, op := .call { callee := .builtin .len, args := #[.tmp 11], argTypes := #[a2] }, type := 3, pos := "slices.go:225", after := #[{ on := 3, ground := .data }], guard := none }, { dst := some 13, op := .slice a2 (.tmp 8) (some (.tmp 9)) (some (.tmp 10)) (some (.tmp 12)), type := a2, pos := "slices.go:225", after := #[{ on := 0, ground := .data }, { on := 1, ground := .data }, { on := 2, ground := .data }, { on := 4, ground := .data }], guard := none }] false).seq (((Code.region 2 #[{ dst := some 14, op := .move (.tmp 1), type := 3, pos := "slices.go:227", after := #[], guard := none }, { dst := some 15, op := .move (.tmp 2), type := 3, pos := "slices.go:227", after := #[], guard := none }, { dst := some 16, op := .binOp .eql 3 (.tmp 14) (.tmp 15) 3, type := 4, pos := "slices.go:227", after := #[{ on := 0, ground := .data }, { on := 1, ground := .data }], guard := none }] false).seq (Code.cond (.tmp 16) ((Code.region 3 #[{ dst := some 17, op := .move (.tmp 0), type := a2, pos := "slices.go:228", after := #[], guard := none }, { dst := some 6, op := .assign (.tmp 17), type := a2, pos := "slices.go:228", after := #[{ on := 0, ground := .data }, { on := 0, ground := .phase }], guard := none }] false).seq Code.ret) Code.skip)).seq ((Code.region 4 #[{ dst := some 18, op := .move (.tmp 0), type := a2, pos := "slices.go:231", after := #[], guard := none }, { dst := some 19, op := .call { callee := .builtin .len, args := #[.tmp 18], argTypes := #[a2] }, type := 3, pos := "slices.go:231", after := #[{ on := 0, ground := .data }], guard := none }, { dst := some 7, op := .assign (.tmp 19), type := 3, pos := "slices.go:231", after := #[{ on := 1, ground := .data }, { on := 0, ground := .phase }, { on := 1, ground := .phase }], guard := none }] false).seq ((Code.region 5 #[{ dst := some 20, op := .move (.tmp 0), type := a2, pos := "slices.go:232", after := #[], guard := none }, { dst := some 21, op := .move (.tmp 1), type := 3, pos := "slices.go:232", after := #[], guard := none }, { dst := some 22, op := .slice a2 (.tmp 20) none (some (.tmp 21)) none, type := a2, pos := "slices.go:232", after := #[{ on := 0, ground := .data }, { on := 1, ground := .data }], guard := none }, { dst := some 23, op := .move (.tmp 0), type := a2, pos := "slices.go:232", after := #[], guard := none }, { dst := some 24, op := .move (.tmp 2), type := 3, pos := "slices.go:232", after := #[], guard := none }, { dst := some 25, op := .slice a2 (.tmp 23) (some (.tmp 24)) none none, type := a2, pos := "slices.go:232", after := #[{ on := 3, ground := .data }, { on := 4, ground := .data }], guard := none }, { dst := some 26, op := .call { callee := .builtin .append, args := #[.tmp 22, .tmp 25], argTypes := #[a2, a2] }, type := a2, pos := "slices.go:232", after := #[{ on := 2, ground := .data }, { on := 5, ground := .data }], guard := none }, { dst := some 0, op := .assign (.tmp 26), type := a2, pos := "slices.go:232", after := #[{ on := 6, ground := .data }, { on := 6, ground := .chain }, { on := 0, ground := .phase }, { on := 1, ground := .phase }, { on := 2, ground := .phase }, { on := 3, ground := .phase }, { on := 4, ground := .phase }, { on := 5, ground := .phase }, { on := 6, ground := .phase }], guard := none }] true).seq ((Code.region 6 #[{ dst := some 27, op := .move (.tmp 0), type := a2, pos := "slices.go:233", after := #[], guard := none }, { dst := some 28, op := .move (.tmp 0), type := a2, pos := "slices.go:233", after := #[], guard := none }, { dst := some 29, op := .call { callee := .builtin .len, args := #[.tmp 28], argTypes := #[a2] }, type := 3, pos := "slices.go:233", after := #[{ on := 1, ground := .data }], guard := none }, { dst := some 30, op := .move (.tmp 7), type := 3, pos := "slices.go:233", after := #[], guard := none }, { dst := some 31, op := .slice a2 (.tmp 27) (some (.tmp 29)) (some (.tmp 30)) none, type := a2, pos := "slices.go:233", after := #[{ on := 0, ground := .data }, { on := 2, ground := .data }, { on := 3, ground := .data }], guard := none }, { dst := none, op := .call { callee := .builtin .clear, args := #[.tmp 31], argTypes := #[a2] }, type := 0, pos := "slices.go:233", after := #[{ on := 4, ground := .data }], guard := none }] false).seq ((Code.region 7 #[{ dst := some 32, op := .move (.tmp 0), type := a2, pos := "slices.go:234", after := #[], guard := none }, { dst := some 6, op := .assign (.tmp 32), type := a2, pos := "slices.go:234", after := #[{ on := 0, ground := .data }, { on := 0, ground := .phase }], guard := none }] false).seq Code.ret))))))), norace := false, file := "slices/slices.go", endLine := 235, tmpNames := #["s", "i", "j", "s", "i", "j", "", "oldlen", "", "", "", "", "", "", "", "", "", "", "", "", "", "", "", "", "", "", "", "", "", "", "", "", ""] }
open Go.RowKit Go.Proofs
theorem r2C (nm:String) (tS tE:Nat):(e6C nm tS tE).ntmps=33:=rfl
variable [Inhabited GW]
omit [Inhabited GW] in
theorem h6F {P:Program} {ops:Array Oper} {o:Oper} {a:Act} {w:World} {K:Act→World→Prop} {Q:Exit→Act→World→Prop} {X:Prop}
  (hg:o.guard=none) (d x:Operand) (dT sT:TypeId) (hop:o.op=Op.call { callee:=Callee.builtin Builtin.append,args := #[d,x],argTypes := #[dT,sT] })
  (v u:Value) (hd:a.eval d=v) (hx:a.eval x=u) {v':Value} {w':World} (hr:(Builtin.append_ #[dT,sT] o.type #[v,u]).run P w=.ok v' w') (hK:K (a.put o.dst v') w') :
  if Region.wanted o (yielded ops a.tmps)=true then Oper.wp P o a w K Q else X:=by
 have hw:Region.wanted o (yielded ops a.tmps)=true:=by simp [Region.wanted,hg]
 rw [Aj hw]
 unfold Oper.wp
 simp [execOp,hop,resolve,invoke,builtin,hd,hx,hr,Result.andThen]
 exact hK
structure h5D (P:Program) (f tS tE:Nat) (inf:TypeInfo) (z:Value):Prop where
 mixed:P.follows .mixedOrders=true
 fn:∃ nm,P.funcs[f]? = some (e6C nm tS tE)
 t3:P.underlying 3=some (.int .i64)
 a3:∀ w,(isAgg 3).run P w=.ok false w
 z3:∀ w,(Go.sizeOf 3).run P w=.ok 1 w
 t4:P.underlying 4=some .bool
 a4:∀ w,(isAgg 4).run P w=.ok false w
 z4:∀ w,(Go.sizeOf 4).run P w=.ok 1 w
 uS:P.underlying tS=some (.slice tE)
 aS:∀ w,(isAgg tS).run P w=.ok false w
 zS:∀ w,(Go.sizeOf tS).run P w=.ok 1 w
 iE:P.info? tE=some inf
 zE:inf.zero=some z
 wE:0<inf.size
def c5E (w:World) (b o n c sz:Nat) (res:List Value) (cur:Array Value) (ee:TypeId) (e:Ending) (w':World):Prop:=
 e=.returned (.slice (some ⟨b,o,none⟩) n c)∧e1A w w'∧w'.heap.size=w.heap.size∧(∀ k,k≠b→w'.heap[k]? = w.heap[k]?)∧∃ cur',w'.heap[b]? = some (.cells cur' ee (0,0))∧cur'.size=cur.size∧(cur'.toList.drop o).take (n*sz)=res
set_option maxHeartbeats 4000000 in
set_option maxRecDepth 100000 in
theorem h7F {P:Program} {f tS tE:Nat} {inf:TypeInfo} {z:Value} (L:h5D P f tS tE inf z) {w:World} {a:Option Addr} {n c i:Nat} (hi:i≤n) (hn:n≤c) (hnil:a=none→c=0) :
  Calls P f #[.slice a n c,.int .i64 i,.int .i64 i] w fun e w'=>e=.returned (.slice a n c)∧w'=w:=by
 obtain ⟨nm,fn⟩:=L.fn
 have t3:=L.t3; have a3:=L.a3; have z3:=L.z3; have t4:=L.t4; have a4:=L.a4; have z4:=L.z4; have t22:=L.uS; have a22:=L.aS; have z22:=L.zS
 have u3:=run_underlying L.t3; have u4:=run_underlying L.t4; have u22:=run_underlying L.uS
 have mixed:=L.mixed
 have zE:∀ w,(Go.sizeOf tE).run P w=.ok inf.size w:=fun w=>n1A L.iE
 cases a with
 | none =>
  have hc0:=hnil rfl
  obtain rfl:n=0:=by omega
  obtain rfl:i=0:=by omega
  subst hc0
  go_enter fn,r2C nm tS tE
  go_wp2
  go_ret
  exact ⟨rfl,rfl⟩
 | some a =>
  obtain ⟨b,o,sp⟩:=a
  go_enter fn,r2C nm tS tE
  go_wp2
  all_goals (go_ret; exact ⟨rfl,rfl⟩)
set_option maxHeartbeats 4000000 in
set_option maxRecDepth 100000 in
theorem h8F {P:Program} {f tS tE:Nat} {inf:TypeInfo} {z:Value} (L:h5D P f tS tE inf z) {w:World} {b o n c i j:Nat} {cur:Array Value} {ee:TypeId} (hi:i<j) (hj:j≤n) (hn:n≤c) (hby:0<inf.bytes) (h48:n*inf.bytes≤140737488355328)
  (hzl:z.cells.size=inf.size) (hz1:∀ v∈z.cells.toList,v.oneCell'=true) (hb:w.heap[b]? = some (.cells cur ee (0,0))) (hfit:o+c*inf.size≤cur.size) (h1c:∀ v∈(cur.toList.drop o).take (n*inf.size),v.oneCell'=true) :
  Calls P f #[.slice (some ⟨b,o,none⟩) n c,.int .i64 i,.int .i64 j] w fun e w' =>
   c5E w b o (n - (j - i)) c inf.size (((cur.toList.drop o).take (n*inf.size)).take (i*inf.size)++((cur.toList.drop o).take (n*inf.size)).drop (j*inf.size)) cur ee e w':=by
 obtain ⟨nm,fn⟩:=L.fn
 have t3:=L.t3; have a3:=L.a3; have z3:=L.z3; have t4:=L.t4; have a4:=L.a4; have z4:=L.z4; have t22:=L.uS; have a22:=L.aS; have z22:=L.zS
 have u3:=run_underlying L.t3; have u4:=run_underlying L.t4; have u22:=run_underlying L.uS
 have mixed:=L.mixed
 have zE:∀ w,(Go.sizeOf tE).run P w=.ok inf.size w:=fun w=>n1A L.iE
 obtain ⟨sz,hsz⟩:∃ sz,sz=inf.size:=⟨_,rfl⟩
 have hW:0<sz:=by rw [hsz]; exact L.wE
 rw [←hsz] at hfit hzl zE h1c ⊢
 have hn63:n≤140737488355328:=Dz (Nat.le_mul_of_pos_right _ hby) h48
 obtain ⟨S,hS⟩:∃ l,l=(cur.toList.drop o).take (n*sz):=⟨_,rfl⟩
 rw [←hS] at h1c ⊢
 have e4:n*sz≤c*sz:=Aw _ hn
 have e5:j*sz≤n*sz:=Aw _ hj
 have e6:i*sz+(j - i)*sz=j*sz:=by rw [←Ca]; congr 1; omega
 have e7:(n - (j - i))*sz+(j - i)*sz=n*sz:=by rw [←Ca]; congr 1; omega
 have e8:(n - j)*sz+j*sz=n*sz:=by rw [←Ca]; congr 1; omega
 have e9:0<(j - i)*sz:=Nat.mul_pos (by omega) hW
 have hSl:S.length=n*sz:=by rw [hS,Ap,Ar,An]; omega
 have aS:At w b o S:=by rw [hS]; exact b6B hb
 obtain ⟨A,hA⟩:∃ l,l=S.take (i*sz):=⟨_,rfl⟩
 obtain ⟨B,hB⟩:∃ l,l=S.drop (j*sz):=⟨_,rfl⟩
 rw [←hA,←hB]
 have hAl:A.length=i*sz:=by rw [hA,Ap]; omega
 have hBl:B.length=(n - j)*sz:=by rw [hB,Ar]; omega
 have aA:At w b o A:=fun k v hk=>aS k v (by rw [hA,Bt] at hk; split at hk; exact hk; cases hk)
 have aB:At w b (o+j*sz) B:=fun k v hk=>by
  rw [hB,Bl] at hk
  have:=aS (j*sz+k) v hk
  rwa [←Dj] at this
 have hB1:∀ v∈B,v.oneCell'=true:=fun v h=>h1c v (by rw [hB] at h; exact List.mem_of_mem_drop h)
 obtain ⟨cur1,hcur1⟩:∃ l,l=(cur.toList.take (o+i*sz)++B++cur.toList.drop (o+i*sz+B.length)).toArray:=⟨_,rfl⟩
 have hz1':cur1.size=cur.size:=by
  rw [hcur1]
  simp only [Cy,Ak,Ap,Ar,An,hBl]
  omega
 have hrun:∀ (ty:TypeId) (ad:Option Addr) (xc:Nat),(n - j=0∨ad=some ⟨b,o+j*sz,none⟩)→(Builtin.append_ #[tS,tS] ty #[.slice (some ⟨b,o,none⟩) i c,.slice ad (n - j) xc]).run P w.drew=.ok (.slice (some ⟨b,o,none⟩) (i+(n - j)) c) (w.drew.setRow b cur1):=fun ty ad xc had=>by
  have hsrc:n - j=0∨∃ b' o',ad=some ⟨b',o',none⟩∧At w b' o' B:=had.imp id fun h=>⟨b,_,h,aB⟩
  rw [b9C (w:=w.drew) L.uS L.iE L.zE hby (by have:=Aw inf.bytes (show i+(n - j)≤n by omega); omega) (news:=B) (olds:=A) (l1A (by rw [hBl,hsz]) hsrc) (l1A (by rw [hAl,hsz]) (.inr ⟨b,o,rfl,aA⟩)) (l1A (by rw [hBl,hsz]) hsrc),Aj (by omega)]
  have hst:=run_storeCells_at (P:=P) b (o+i*sz) ee B 0 cur w.drew hb (by omega) hB1
  rw [Dx] at hst
  simp only
  rw [←hsz,show (⟨b,o,none⟩:Addr).add (i*sz)=⟨b,o+i*sz,none⟩ from Addr.add_lit _ _ _,hst,←hcur1]
  rfl
 obtain ⟨W1,hW1⟩:∃ W1,W1=w.drew.setRow b cur1:=⟨_,rfl⟩
 have hb1:W1.heap[b]? = some (.cells cur1 ee (0,0)):=by rw [hW1]; exact setRow_heap w.drew b cur cur1 ee _ hb
 obtain ⟨cells,hcells⟩:∃ l,l=(Builtin.zeroCells z.cells (j - i)).toList:=⟨_,rfl⟩
 have hcl:cells.length=(j - i)*sz:=by rw [hcells,An,t2B,hzl]
 have hc1:∀ v∈cells,v.oneCell'=true:=by
  intro v hv
  rw [hcells] at hv
  unfold Builtin.zeroCells at hv
  simp only [Array.toList_map,List.mem_map,Array.mem_toList_iff,Array.mem_range] at hv
  obtain ⟨k,hk,rfl⟩:=hv
  have hp:0<z.cells.size:=by omega
  have hlt:=Nat.mod_lt k hp
  exact hz1 _ (by simp [hlt])
 have ob:i+(n - j)=n - (j - i):=by omega
 obtain ⟨q,hq⟩:∃ q,q=o+(i+(n - j))*sz:=⟨_,rfl⟩
 have hq':q=o+(n - (j - i))*sz:=by rw [hq,ob]
 obtain ⟨cur2,hcur2⟩:∃ l,l=(cur1.toList.take q++(cells++cur1.toList.drop (q+cells.length))).toArray:=⟨_,rfl⟩
 have hz2:cur2.size=cur1.size:=by
  rw [hcur2]
  simp only [Cy,Ak,Ap,Ar,An,hcl]
  omega
 have hclr:∀ (W:World),W.heap=W1.heap→∀ ty xc,(Builtin.clear_ #[tS] ty #[.slice (some ⟨b,q,none⟩) (n - (i+(n - j))) xc]).run P W=.ok (.tuple #[]) (W.setRow b cur2):=fun W hWh ty xc=>by
  rw [show n - (i+(n - j))=j - i by omega,u2D L.uS L.iE L.zE (by omega),←hcells]
  have hst:=run_storeCells_at (P:=P) b q ee cells 0 cur1 W (by rw [hWh]; exact hb1) (by omega) hc1
  rw [Dx] at hst
  rw [Sem.run_bind,hst,Bz,←hcur2]
  rfl
 have hres:(cur2.toList.drop o).take ((n - (j - i))*sz)=A++B:=by
  have f1:cur1.toList.take q=cur.toList.take o++(A++B):=by
   rw [hcur1,List.toList_toArray,hq']
   have f2:cur.toList.take (o+i*sz)=cur.toList.take o++A:=by
    rw [List.take_add,hA,hS,List.take_take,Nat.min_eq_left (by omega)]
   rw [f2,Bz,Bz,←Bz A B,←Bz,List.take_append_of_le_length (by
    simp only [Ak,Ap,An,hAl,hBl]; omega),Bn (by
    simp only [Ak,Ap,An,hAl,hBl]; omega)]
  rw [hcur2,List.toList_toArray,f1,Bz,List.drop_append_of_le_length (by rw [Ap,An]; omega),List.drop_of_length_le (by rw [Ap]; omega),Cv,
   List.take_append_of_le_length (by rw [Ak]; omega),Bn (by rw [Ak]; omega)]
 have hfin:∀ W:World,W.heap=W1.heap→e1A w W→c5E w b o (n - (j - i)) c sz (A++B) cur ee (.returned (.slice (some ⟨b,o,none⟩) (i+(n - j)) c)) (W.setRow b cur2):=fun W hWh hqq=>by
  refine ⟨by rw [ob],⟨hqq.1,hqq.2⟩,?_,fun k hk => ?_,cur2,setRow_heap W b cur1 cur2 ee _ (by rw [hWh]; exact hb1),by rw [hz2,hz1'],hres⟩
  ·rw [size_setRow,hWh,hW1,size_setRow]; rfl
  ·rw [q1A _ _ _ _ hk,hWh,hW1,q1A _ _ _ _ hk]; rfl
 rw [←hW1] at hrun
 have hij:¬ ((i:Int)=(j:Int)):=by omega
 have hin:i≤n:=by omega
 have hji:i≤j:=by omega
 have hcw:IntKind.i64.wrap ((i:Int)+((n - j:Nat):Int))=(i:Int)+((n - j:Nat):Int):=by rw [IntKind.wrap_i64]; omega
 have hk1:i+(n - j)≤n:=by omega
 have hk2:¬ (c=i+(n - j)):=by omega
 have hQ1:e1A w W1:=by rw [hW1]; exact ⟨rfl,rfl⟩
 have hWd:c=j→w.drew.heap=W1.heap:=fun hc=>by
  have h0:B=[]:=Br.mp (by rw [hBl,show n - j=0 by omega,Eb])
  have h1:cur1=cur:=by rw [hcur1,h0,Bc,List.length_nil,Dx,Dt]
  rw [hW1,h1,setRow_self w.drew b cur ee _ hb]
 clear hsz e4 e5 e6 e7 e8 hS hSl hA hB hAl hBl hcur1 hz1' hW1 hcells hcl hcur2 hz2 hres ob
 have hic:i≤c:=by omega
 by_cases hcj:c=j
 ·have hnj:n - j=0:=by omega
  have hnc:n=j:=by omega
  subst hcj
  subst hnc
  rw [Nat.sub_self,Dx] at hq hclr hfin
  have hrun0:∀ (ty:TypeId) (ad:Option Addr) (xc:Nat),(Builtin.append_ #[tS,tS] ty #[.slice (some ⟨b,o,none⟩) i n,.slice ad 0 xc]).run P w.drew=.ok (.slice (some ⟨b,o,none⟩) i n) W1:=fun ty ad xc=>by
   have:=hrun ty ad xc (.inl hnj)
   rwa [hnj,Dx] at this
  subst hq
  have hEd:=hWd rfl
  have hfin0:=hfin w.drew hEd ⟨rfl,rfl⟩
  have hclr0:=hclr w.drew hEd
  clear hfin hclr hrun hrun0 hcw hk1 hk2 hq' hEd hWd
  go_enter fn,r2C nm tS tE
  go_wp2
  go_region_law_o (fail)
  go_wp2_with (at_builtin; refine wpList_clear_run _ rfl _ tS rfl _ rfl (hclr0 _ _) ?_)
  go_ret
  exact hfin0
 ·have hrun0:∀ (ty:TypeId) (xc:Nat),(Builtin.append_ #[tS,tS] ty #[.slice (some ⟨b,o,none⟩) i c,.slice (some ⟨b,o+j*sz,none⟩) (n - j) xc]).run P w.drew=.ok (.slice (some ⟨b,o,none⟩) (i+(n - j)) c) W1:=fun ty xc=>hrun ty _ xc (.inr rfl)
  subst hq
  clear hrun hq' hWd
  go_enter fn,r2C nm tS tE
  go_wp2
  go_region_law_o (refine h6F rfl _ _ tS tS rfl (.slice (some ⟨b,o,none⟩) i c) (.slice (some ⟨b,o+j*sz,none⟩) (n - j) (c - j)) (by simp [Act.eval,Act.put]) (by simp [Act.eval,Act.put]) (hrun0 tS (c - j)) ?_)
  go_wp2_with (at_builtin; refine wpList_clear_run _ rfl _ tS rfl _ rfl (hclr _ rfl _ _) ?_)
  go_ret
  exact hfin _ rfl hQ1
theorem h9F {E:Env} {t:Ty} {l:List (den t)} {S:List Value} {i j:Nat} (hS:a2A E (.arr l.length t) l S) (hi:i≤j) (hj:j≤l.length) :
  a2A E (.arr (l.take i++l.drop j).length t) (l.take i++l.drop j) (S.take (i*a0A t)++S.drop (j*a0A t)):=by
 have h1:=b1B hS (off:=0) (len:=i) (by omega)
 have h2:=b1B hS (off:=j) (len:=l.length - j) (by omega)
 rw [Eb,Do,Do] at h1
 have hl:S.length=l.length*a0A t:=hS.2.1
 rw [Bn (by rw [Ar]; exact Ay _),Bn (by rw [Ar,hl,Nat.sub_mul]; exact Ay _)] at h2
 have h3:=n8B h1 h2
 rw [show i+(l.length - j)=(l.take i++l.drop j).length by simp only [Ak,Ap,Ar]; omega] at h3
 exact h3
theorem i0F {P : Program} {f tS tE : Nat} {inf : TypeInfo} {z : Value} (L : h5D P f tS tE inf z) {F : Func} (hf : P.funcs[f]? = some F) (hname : (F.name == "runtime.NumGoroutine") = false) (hb : F.body.isNone = false)
  {t:Ty} (ht:t.pure=true) (hw:inf.size=a0A t) (hby:0<inf.bytes) (hzl:z.cells.size=inf.size) (hz1:∀ v∈z.cells.toList,v.oneCell'=true) :
  b7A P f [(false,.own t),(false,.int .i64),(false,.int .i64)] [(false,.own t)] fun x=>j3B inf.bytes x.1 x.2.1 x.2.2:=by
 refine c2E hf hname hb fun x y hxy keep B vals hm hs hN => ?_
 obtain ⟨l,i,j⟩:=x
 change List (den t) at l
 change Int at i
 change Int at j
 have hxy:j3B inf.bytes l i j=some y:=hxy
 unfold j3B at hxy
 rcases c2A hxy with ⟨hc,hxy⟩ | ⟨_,hxy⟩
 case inr=>cases hxy
 cases hxy
 simp only [Ac,Au] at hc
 obtain ⟨⟨c1,c2⟩,c3,c4⟩:=hc
 have c4:l.length*inf.bytes≤140737488355328:=by simpa [c6A] using c4
 obtain ⟨k,rfl⟩:∃ k:Nat,i=(k:Int):=⟨i.toNat,(Int.toNat_of_nonneg c1).symm⟩
 obtain ⟨q,rfl⟩:∃ q:Nat,j=(q:Int):=⟨j.toNat,(Int.toNat_of_nonneg (by omega)).symm⟩
 rw [Ao,Ao]
 obtain ⟨v0,r0,rfl,s0,vi,r1,rfl,si,vj,r2,rfl,sj,s3⟩:=hs
 have s3:r2=[]:=s3
 subst s3
 have si:a6A B (.int .i64 (k:Int)) [vi]:=si
 have si:vi=.int .i64 (k:Int):=by simpa [a6A] using si
 subst si
 have sj:a6A B (.int .i64 (q:Int)) [vj]:=sj
 have sj:vj=.int .i64 (q:Int):=by simpa [a6A] using sj
 subst sj
 have s0:a6A B (.oref 0 none) [v0]:=s0
 have l0:a1A 0 (f4A [(false,Ty.own t),(false,Ty.int .i64),(false,Ty.int .i64)] (l,(k:Int),(q:Int)) ⟨[],0⟩).2.objs=some (.arr t l):=rfl
 generalize (f4A [(false,Ty.own t),(false,Ty.int .i64),(false,Ty.int .i64)] (l,(k:Int),(q:Int)) ⟨[],0⟩).2.objs=objs at hm l0
 have o0:=(hm.rep _ _ l0).2
 have hWp:0<a0A t:=by rw [←hw]; exact L.wE
 have s0':=s0
 obtain ⟨_,g0⟩:=s0
 have h0len:(B.M 0).len=l.length:=o0.1
 have hpk:∀ (n:Nat) (nl:List (den t)) (ob:Objs),a1A n ob=some (.arr t nl)→f9A [(false,Ty.own t)] [.oref n none] ob=some (nl,b9A n ob):=by
  intro n nl ob hl
  have h1:(Ty.own t).okp=true:=ht
  simp only [f9A,k8A,h1,o1A,Ty.scalar,j6A,k3A,b2A,p9A,hl]
  simp [j1A,oM,h3A]
 have hkq:k≤q:=by omega
 have hql:q≤l.length:=by omega
 by_cases he:k=q
 ·subst he
  have hsame:∃ a n c,v0=.slice a n c∧k≤n∧n≤c∧(a=none→c=0):=by
   cases hbk:(B.M 0).blk with
   | none =>
    rw [hbk] at g0
    obtain ⟨e0,_,_⟩:=g0
    have hl0:l=[]:=by have:=o0.2.2; rw [hbk] at this; exact this
    subst hl0
    exact ⟨none,0,0,by simpa using e0,by simpa using hql,Ay _,fun _=>rfl⟩
   | some b =>
    rw [hbk] at g0
    obtain ⟨o,c,e0,d1,d2,d3⟩:=g0
    exact ⟨some ⟨b,o,none⟩,l.length,c,by simpa [e9A,h0len] using e0,hql,by simpa [e9A,h0len] using d1,fun h=>nomatch h⟩
  obtain ⟨a,n,c,rfl,h1,h2,h3⟩:=hsame
  refine (h7F L h1 h2 h3).mono ?_
  rintro e w' ⟨rfl,rfl⟩
  refine ⟨[.oref 0 none],_,objs,b9A 0 objs,B,rfl,rfl,⟨[_],⟨_,_,rfl,s0',rfl⟩,rfl⟩,hm,?_,Later.refl _ _⟩
  rw [Dt]
  exact hpk _ _ _ l0
 ·have hlt:k<q:=by omega
  cases hbk:(B.M 0).blk with
  | none =>
   have hl0:l=[]:=by have:=o0.2.2; rw [hbk] at this; exact this
   subst hl0
   have:q≤0:=hql
   omega
  | some b =>
   rw [hbk] at g0
   obtain ⟨cur,ee,f1,f2,f3,f4⟩:=b0B o0 hbk
   obtain ⟨o,c,e0,d1,d2,d3⟩:=g0
   have e0:v0=.slice (some ⟨b,o,none⟩) l.length c:=by simpa [e9A,h0len] using e0
   subst e0
   have d1:l.length≤c:=by simpa [e9A,h0len] using d1
   obtain ⟨d4,d5⟩:=d3.resolve_left (by omega)
   have d4:o=(B.M 0).base:=by simpa [d1A] using d4
   have d5:c≤(B.M 0).cap:=by simpa [d1A] using d5
   subst d4
   have hmc:c*a0A t≤(B.M 0).cap*a0A t:=Aw _ d5
   have hfit:(B.M 0).base+c*inf.size≤cur.size:=by rw [hw]; omega
   have h1c:∀ u∈(cur.toList.drop (B.M 0).base).take (l.length*inf.size),u.oneCell'=true:=by rw [hw]; exact a2A.one f4
   refine (h8F L hlt hql d1 hby c4 hzl hz1 f1 hfit h1c).mono ?_
   rintro e w' ⟨he,hq,hsz2,hho,cur',hb',hcs,hres⟩
   rw [hw] at hres
   have hrep:=h9F f4 hkq hql
   generalize hL:l.take k++l.drop q=nl at hrep ⊢
   have hnl:nl.length=l.length - (q - k):=by rw [←hL]; simp only [Ak,Ap,Ar]; omega
   have hor:∀ E:Env,E.w=w'→Later keep B E→c5A E ⟨some b,(B.M 0).base,nl.length,c,a0A t⟩ (.arr t nl):=fun E hE hlat =>
    c3E rfl rfl rfl (by rw [hE]; exact hb') (by show nl.length≤c; omega) (by show (B.M 0).base+c*a0A t≤cur'.size; rw [hcs]; rw [hw] at hfit; exact hfit) (by rw [hnl]; exact hres) (a2A.later hlat hrep)
   obtain ⟨hlat,hM⟩:=c0C (E:=B) (keep:=keep) (w:=w') (m:=⟨some b,(B.M 0).base,nl.length,c,a0A t⟩) (j:=0) (b:=b) (oc':=.arr t nl) hq hsz2 hho hm l0 hbk rfl (fun hlat=>hor _ rfl hlat)
   have hsr:q3A (B.new w' ⟨some b,(B.M 0).base,nl.length,c,a0A t⟩) [.oref B.N none] (.slice (some ⟨b,(B.M 0).base,none⟩) (l.length - (q - k)) c):=by
    have:=t1B (E:=B) (w:=w') (m:=⟨some b,(B.M 0).base,nl.length,c,a0A t⟩) rfl (by show nl.length≤c; omega)
    rw [←hnl]
    exact ⟨[_],⟨_,_,rfl,this,rfl⟩,rfl⟩
   refine ⟨_,_,_,_,B.new w' ⟨some b,(B.M 0).base,nl.length,c,a0A t⟩,he,rfl,hsr,hM,hpk _ _ _ ?_,hlat⟩
   rw [d4A,Aj rfl]
theorem e6E {P : Program} {T : Tab} (hT : TabOK P T) (mixed : P.follows .mixedOrders = true) {f tS tE : Nat} {nm : String} {F : Func} (hf : P.funcs[f]? = some F) (hF : F = e6C nm tS tE) (hname : (nm == "runtime.NumGoroutine") = false)
  {t:Ty} {bytes:Nat} (hel:x7A T tS=some (t,bytes)) (htd:i0A T tS=some (.sl tE)) (h3:i0A T 3=some (.int .i64)) (h4:i0A T 4=some .bool) (s3:(d2A 3 T).map (·.size)=some 1) (s4:(d2A 4 T).map (·.size)=some 1) (sS:(d2A tS T).map (·.size)=some 1)
  (hwd:Nat.blt 0 (a0A t)=true):b7A P f [(false,.own t),(false,.int .i64),(false,.int .i64)] [(false,.own t)] fun x=>j3B bytes x.1 x.2.1 x.2.2:=by
 obtain ⟨e,inf,z,u1,u2,u3,u4,u5,u6,u7,u8⟩:=d8B hT hel
 obtain ⟨d,v1,v2⟩:=f7A hT htd
 have v2:d=.slice tE:=v2
 subst v2
 have e1:e=tE:=by rw [u1] at v1; simpa using v1
 subst e1
 obtain ⟨d3,w1,w2⟩:=f7A hT h3
 have w2:d3=.int .i64:=w2
 subst w2
 obtain ⟨d4,x1,x2⟩:=f7A hT h4
 have x2:d4=.bool:=x2
 subst x2
 have hw0:0<a0A t:=by simpa using hwd
 have hz:=a2A.length (u8 { w:={ heap := #[],os:=default,output:=default,tape:=fun _ _=>0,drawn:=0 },ro:=fun _=>True,M:=fun _=>⟨none,0,0,0,0⟩,N:=0 })
 have hz1:=a2A.one (u8 { w:={ heap := #[],os:=default,output:=default,tape:=fun _ _=>0,drawn:=0 },ro:=fun _=>True,M:=fun _=>⟨none,0,0,0,0⟩,N:=0 })
 subst hF
 rw [←u4]
 refine i0F (inf:=inf) (z:=z) ⟨mixed,⟨nm,hf⟩,w1,fun w=>a6B w1,e3B hT s3,x1,fun w=>a6B x1,e3B hT s4,u1,fun w=>a6B u1,e3B hT sS,u2,u5,by rw [u3]; exact hw0⟩ hf hname rfl u6 u3 (by rw [u4]; exact u7) ?_ hz1
 rw [u3,←hz,An]
end Go.Rx
namespace Go.Rx
variable [Inhabited GW]
variable {H:Type}
def r3C:List (DataW H)→DataW H
 | [d]=>d
 | l=>.agg l
def u0A:(t:Ty)→DataW H→Option (den t)
 | .int k,d=>match d with
  | .lit (.int k' n)=>if k=k' then some n else none
  | _=>none
 | .bool,d=>match d with
  | .lit (.bool b)=>some b
  | _=>none
 | .str,d=>match d with
  | .lit (.string bs)=>some ⟨bs.toArray⟩
  | _=>none
 | .arr n t,d=>match d with
  | .agg ds=>if ds.length=n then ds.mapM (u0A t) else none
  | _=>none
 | .pair a b,d=>match d with
  | .agg (d1::r)=>(u0A a d1).bind fun x=>(u0A b (r3C r)).bind fun y=>some (x,y)
  | _=>none
 | .unit,d=>match d with
  | .agg []=>some ()
  | _=>none
 | _,_=>none
def d6C (P:Program):Nat→TypeId→Ty→Bool
 | 0,_,_=>false
 | n+1,t,ty=>match P.underlying t with
  | some .bool=>(match ty with
   | .bool=>true
   | _=>false)
  | some (.int k)=>(match ty with
   | .int k'=>decide (k=k')
   | _=>false)
  | some .string=>(match ty with
   | .str=>true
   | _=>false)
  | some (.array m e)=>(match ty with
   | .arr m' t'=>Nat.beq m m'&&d6C P n e t'&&Nat.beq (P.cellsOf e) (a0A t')&&Nat.beq (P.cellsOf t) (m*a0A t')
   | _=>false)
  | some (.struct fs)=>e2B P (d6C P n) fs.toList 0 ty&&Nat.beq (P.cellsOf t) (a0A ty)&&Nat.blt 1 fs.toList.length
  | _=>false
section
variable {enc:TypeId×Value→H} {P:Program} {E:Env} {base:Nat} {spare:Nat→Bool} {held:Bool}
theorem c6E {fuel:Nat} {r:TypeId→Ty→Bool} {cs:List Value}
  (ih:∀ {t:TypeId} {ty:Ty} {vs:List Value} {d:DataW H×List MemPlace},r t ty=true→DataW.trod enc P E.w base spare held fuel t vs=some d→∀ x,u0A ty d.1=some x→a2A E ty x vs) :
  ∀ (fs:List Field) (off:Nat) (ty:Ty) (ds:List (DataW H×List MemPlace)),e2B P r fs off ty=true→ds.length=fs.length →
   (∀ (i:Nat) (f:Field),fs[i]? = some f→DataW.trod enc P E.w base spare held fuel f.type ((cs.drop f.offset).take (P.cellsOf f.type))=ds[i]?) →
   cs.length=off+a0A ty→∀ x,u0A ty (r3C (ds.map (·.1)))=some x→a2A E ty x (cs.drop off)
 | [],off,ty,ds,h,hl,_,hc,x,hx=>by
  cases ty with
  | unit =>
   show cs.drop off=[]
   exact List.drop_eq_nil_of_le (by rw [hc]; exact Ay _)
  | _=>cases h
 | [f],off,ty,ds,h,hl,hf,hc,x,hx=>by
  simp only [e2B,Ac] at h
  obtain ⟨⟨h1,h2⟩,h3⟩:=h
  match ds,hl with
  | [d],_ =>
   have hy:=hf 0 f rfl
   rw [Ag h1,Ag h3,Bn (by rw [Ar,hc]; omega)] at hy
   exact ih h2 hy x hx
 | f::g::l,off,ty,ds,h,hl,hf,hc,x,hx=>by
  cases ty with
  | pair a b =>
   simp only [e2B,Ac] at h
   obtain ⟨⟨⟨h1,h2⟩,h3⟩,h4⟩:=h
   match ds,hl with
   | d::d'::r,hl =>
    have hy:=hf 0 f rfl
    rw [Ag h1,Ag h3] at hy
    have hx:((u0A a d.1).bind fun x=>(u0A b (r3C ((d'::r).map (·.1)))).bind fun y=>some (x,y))=some x:=hx
    rw [Option.bind_eq_some_iff] at hx
    obtain ⟨u,hu,hx⟩:=hx
    rw [Option.bind_eq_some_iff] at hx
    obtain ⟨v,hv,hx⟩:=hx
    cases hx
    have hz:=c6E ih (g::l) (off+a0A a) b (d'::r) h4 (by simpa using hl) (fun i f' hf'=>by simpa using hf (i+1) f' (by simpa using hf')) (by rw [hc]; simp only [a0A]; omega) v hv
    refine ⟨(cs.drop off).take (a0A a),cs.drop (off+a0A a),?_,ih h2 hy u hu,hz⟩
    rw [←List.drop_drop,Dt]
  | _=>cases h
theorem h6D:∀ (n fuel:Nat) {t:TypeId} {ty:Ty} {cs:List Value} {d:DataW H×List MemPlace},d6C P n t ty=true→DataW.trod enc P E.w base spare held fuel t cs=some d →
  ∀ x,u0A ty d.1=some x→a2A E ty x cs
 | 0,_,_,_,_,_,h,_,_,_=>nomatch h
 | n+1,fuel,t,ty,cs,d,h,hd,x,hx=>by
  unfold d6C at h
  split at h
  ·rename_i hu
   obtain ⟨b,rfl,rfl⟩:=DataW.trod_bool hu hd
   cases ty with
   | bool=>cases hx; rfl
   | _=>cases h
  ·rename_i k hu
   obtain ⟨m,rfl,rfl,hw⟩:=DataW.trod_int hu hd
   cases ty with
   | int k' =>
    have hk:k=k':=Dl h
    subst hk
    have hx:(if k=k then some m else none)=some x:=hx
    rw [Aj rfl] at hx
    cases hx; rfl
   | _=>cases h
  ·rename_i hu
   obtain ⟨s,rfl,rfl,hs⟩:=DataW.trod_string hu hd
   cases ty with
   | str =>
    have hx:some (⟨s.data.toList.toArray⟩:ByteArray)=some x:=hx
    cases hx
    show _=_
    simp
   | _=>cases h
  ·rename_i m e hu
   cases ty with
   | arr m' t' =>
    simp only [Ac] at h
    obtain ⟨⟨⟨h0,h1⟩,h2⟩,h3⟩:=h
    have h0:=Ag h0
    have h2:=Ag h2
    have h3:=Ag h3
    subst h0
    obtain ⟨xs,f,_,rfl,hlen,hxs,hget⟩:=DataW.trod_array hu hd
    rw [h2] at hget
    have hx:(if (xs.map (·.1)).length=m then (xs.map (·.1)).mapM (u0A t') else none)=some x:=hx
    rw [Aj (by rw [List.length_map,hxs])] at hx
    obtain ⟨hl,hp⟩:=h0D hx
    rw [List.length_map,hxs] at hl
    refine ⟨hl,by rw [hlen,h3],fun i hi => ?_⟩
    have him:i<m:=by omega
    have hg:=hget i him
    have hlt:i<xs.length:=by omega
    rw [Aq hlt] at hg
    obtain ⟨y,hy,hy2⟩:=hp i (xs[i].1) (by rw [List.getElem?_map,Aq hlt]; rfl)
    rw [Aq hi] at hy2
    cases hy2
    refine ⟨_,h6D n f h1 hg _ hy,fun j v hj => ?_⟩
    rw [Bt] at hj
    split at hj
    ·rwa [Bl] at hj
    ·cases hj
   | _=>cases h
  ·rename_i fs hu
   simp only [Ac] at h
   obtain ⟨⟨h1,h2⟩,h3⟩:=h
   have h3:1<fs.toList.length:=by simpa [Nat.blt_eq] using h3
   obtain ⟨xs,f,_,rfl,hlen,hxs,hget⟩:=DataW.trod_struct hu hd
   have hxl:xs.length=fs.toList.length:=by rw [hxs]; simp
   have hP:r3C (xs.map (·.1))=.agg (xs.map (·.1)):=by
    match xs,hxl with
    | [],e=>rw [←e] at h3; cases h3
    | [_],e=>rw [←e] at h3; simp at h3
    | _::_::_,_=>rfl
   have:=c6E (enc:=enc) (P:=P) (E:=E) (base:=base) (spare:=spare) (held:=held) (fuel:=f) (cs:=cs) (fun {t ty vs d} h3 h4=>h6D n f h3 h4) fs.toList 0 ty xs h1 hxl (fun i fl hfl=>hget i fl (by simpa using hfl)) (by rw [hlen,Dk]; exact Ag h2) x (by rw [hP]; exact hx)
   simpa using this
  ·cases h
end
structure l7B where
 name:String
 g:Nat
 t:TypeId
 ty:Ty
 x:den ty
def l7B.fits (P:Program) (v:l7B):Prop:=
 P.globalNamed v.name=some v.g∧(P.globals[v.g]?).map (·.type)=some v.t∧v.ty.flat=true∧0<a0A v.ty∧d6C P 4 v.t v.ty=true
abbrev i2C (W:World):Env:={ w:=W,ro:=fun b=>b<W.heap.size,M:=fun _=>⟨none,0,0,0,0⟩,N:=0 }
theorem c7E {P:Program} {W:World}:∀ {l:List (l7B×DataW Unit)} {ps:List MemPlace},DataW.LaidVars P W (l.map fun e=>(e.1.name,e.2)) ps→(∀ e∈l,e.1.fits P∧u0A e.1.ty e.2=some e.1.x) →
  ∀ e∈l,e.1.ty.flat=true∧e.1.g<W.heap.size∧∃ cs et fz,W.heap[e.1.g]? = some (.cells cs et fz)∧a2A (i2C W) e.1.ty e.1.x cs.toList
 | [],_,_,_,v,hv=>nomatch hv
 | e0::l,_,hL,hall,e,hv=>by
  obtain ⟨g,t,cs,fuel,p,q,e1,e2,e3,e4,e5,_⟩:=hL
  rcases Bf.1 hv with rfl | hv
  ·obtain ⟨⟨f1,f2,f3,f4,f5⟩,hu⟩:=hall e Ax
   have e1:P.globalNamed e.1.name=some g:=e1
   rw [f1] at e1; cases e1
   rw [f2] at e2; cases e2
   have hrep:=h6D (E:=i2C W) 4 fuel f5 e4 _ hu
   simp only [World.var?,f1,Aa] at e3
   split at e3
   ·rename_i c ty fz hc
    cases e3
    exact ⟨f3,(Cb.1 hc).1,_,_,_,hc,hrep⟩
   ·cases e3
  ·exact c7E e5 (fun e he=>hall e (Bb _ he)) e hv
theorem t2E {P:Program} {W:World} {l:List (l7B×DataW Unit)} (h:laidMetH P (l.map fun e=>(e.1.name,e.2)) W) (hn:(l.map fun e=>(e.1.name,e.2)).all (fun x=>x.2.handleName?.isNone)=true)
  (hall:∀ e∈l,e.1.fits P∧u0A e.1.ty e.2=some e.1.x) (hg:∀ g t x,d1B g=some ⟨t,x⟩→∃ e∈l,e.1.g=g∧(⟨e.1.ty,e.1.x⟩:(t:Ty)×den t)=⟨t,x⟩):k2A (i2C W):=by
 rw [MakeChecks.laidMetH_plain _ _ _ hn] at h
 obtain ⟨ps,hL,_⟩:=h
 intro g t x hf
 obtain ⟨e,he,rfl,ee⟩:=hg g t x hf
 obtain ⟨h1,h2,h3⟩:=c7E hL hall e he
 cases ee
 exact ⟨h1,h2,h3⟩
end Go.Rx
namespace Go.Rx
variable [Inhabited GW]
open Go.RowKit
end Go.Rx
