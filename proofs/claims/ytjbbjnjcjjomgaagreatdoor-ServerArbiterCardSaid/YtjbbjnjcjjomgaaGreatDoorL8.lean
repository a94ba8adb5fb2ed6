import Derived.Test.YtjbbjnjcjjomgaaGreatDoorL7
import Derived.Test.YtjbbjnjcjjomgaaGreatDoorL6
import Derived.Test.YtjbbjnjcjjomgaaGreatDoorF
import Derived.KernelRfl
set_option linter.unusedSimpArgs false
set_option linter.unusedVariables false
set_option linter.unusedSectionVars false
namespace Go.Sq
open Go.Rx
theorem u1C {X R A:Type} {f:X→Option (X⊕R)} (l:List A) (p:A→Bool) (st:Nat→X) (hit:Nat→R) (fin:R)
  (h:∀ i a,l[i]? = some a→f (st i)=some (bif p a then .inr (hit i) else .inl (st (i+1)))) (he:f (st l.length)=some (.inr fin)) :
  iter f (st 0)=some (if l.findIdx p<l.length then hit (l.findIdx p) else fin):=by
 have key:∀ (l2 l1:List A),l=l1++l2→iter f (st l1.length)=some (if l2.findIdx p<l2.length then hit (l1.length+l2.findIdx p) else fin):=by
  intro l2
  induction l2 with
  | nil =>
   intro l1 e
   rw [Bc] at e
   rw [←e,Ae (by simp)]
   exact m4A he
  | cons a l2 ih =>
   intro l1 e
   have hh:=h l1.length a (by rw [e]; simp)
   cases hp:p a with
   | true =>
    rw [hp,Al] at hh
    rw [m4A hh,List.findIdx_cons,hp,Al,Aj (by simp)]
    rfl
   | false =>
    rw [hp,Ai] at hh
    rw [l5A hh]
    have:=ih (l1++[a]) (by rw [e]; simp)
    rw [Ak,By] at this
    rw [this,List.findIdx_cons,hp,Ai,Be]
    by_cases hlt:l2.findIdx p<l2.length
    ·rw [Aj hlt,Aj (by omega),show l1.length+1+l2.findIdx p=l1.length+(l2.findIdx p+1) by omega]
    ·rw [Ae hlt,Ae (by omega)]
 have:=key l [] rfl
 rwa [List.length_nil,Dk] at this
theorem u2C {X R A:Type} {f:X→Option (X⊕R)} (l:List A) (p:A→Bool) (st:List A→Nat→Nat→X) (fin:List A→Nat→R)
  (h:∀ l' wr i a,l'[i]? = some a→wr≤i→l'.length=l.length→f (st l' wr i)=some (.inl (bif p a then st l' wr (i+1) else st (l'.set wr a) (wr+1) (i+1))))
  (he:∀ l' wr,l'.length=l.length→wr≤l.length→f (st l' wr l.length)=some (.inr (fin l' wr))) :
  ∀ (k:Nat) (l':List A) (wr i:Nat),i+k=l.length→wr≤i→l'.length=l.length→l'.take wr=(l.take i).filter (fun s=>!p s)→l'.drop i=l.drop i →
   ∃ (r:List A) (wr':Nat),iter f (st l' wr i)=some (fin r wr')∧r.length=l.length∧wr'≤l.length∧r.take wr'=l.filter (fun s=>!p s)
 | 0,l',wr,i,hk,hwr,hlen,ht,hd=>by
  have:i=l.length:=by omega
  subst this
  exact ⟨l',wr,m4A (he l' wr hlen hwr),hlen,hwr,by rw [ht,List.take_length]⟩
 | k+1,l',wr,i,hk,hwr,hlen,ht,hd=>by
  obtain ⟨a,ha⟩:∃ a,l[i]? = some a:=⟨_,Aq (by omega)⟩
  have ha':=s8C hd ha
  have hs:=h l' wr i a ha' hwr hlen
  cases hp:p a with
  | true =>
   rw [hp,Al] at hs
   rw [l5A hs]
   refine u2C l p st fin h he k l' wr (i+1) (by omega) (by omega) hlen ?_ (g7C hd)
   rw [m6A ha,List.filter_append,ht]
   simp [hp]
  | false =>
   rw [hp,Ai] at hs
   obtain ⟨c1,c2,c3⟩:=s9C ha hwr hlen ht hd
   rw [l5A hs]
   refine u2C l p st fin h he k _ (wr+1) (i+1) (by omega) (by omega) c3 ?_ c2
   rw [c1,m6A ha,List.filter_append]
   simp [hp]
abbrev j0A (W:List (Int×Int)) (x:Int):Nat:=W.findIdx (fun w=>w.1==x)
theorem m1D {f:FlT} {x:Int} (hl:f.2.2.2.2.2.2.2.1.length≤1000000):u2B f x=some (if j0A f.2.2.2.2.2.2.2.1 x<f.2.2.2.2.2.2.2.1.length then (j0A f.2.2.2.2.2.2.2.1 x:Int) else -1):=by
 generalize hW:f.2.2.2.2.2.2.2.1=W at hl ⊢
 have:=u1C (f:=f8C) W (fun w=>w.1==x) (fun i=>(W,(W.length:Int),(i:Int),x,())) (fun i=>.inr (W,(i:Int),x,())) (.inl (W,x,())) (by
  intro i a hi
  have:=g1A hi
  have ws:IntKind.i64.wrap ((i:Int)+1)=((i+1:Nat):Int):=by rw [b8A (by omega) (by omega)]; rfl
  simp (disch:=omega) only [f8C,dT,wT,Ao,gD hi,ws]
  cases (a.1==x) <;> rfl) (by simp (disch:=omega) only [f8C,dF])
 unfold u2B
 rw [hW]
 refine (Cp (fun z=>Option.bind z _) this).trans ?_
 rw [Aa]
 by_cases h:j0A W x<W.length
 ·rw [Aj h,Aj h]
 ·rw [Ae h,Ae h]
theorem u3C {f:FlT} {x:Int} (hl:f.2.2.2.2.2.2.2.2.length≤1000000) (hs:f.2.2.2.2.2.2.2.2.Pairwise (·<·)):o2B f x=some (decide (x∈f.2.2.2.2.2.2.2.2)):=by
 obtain ⟨p,h,_,_⟩:=x2B (x:=x) hl hs
 unfold o2B
 rw [h,Aa]
def z7A (f:FlT):Nat→Int→List (Int×Int)→Bool
 | _,_,[]=>true
 | i,p,w::r=>decide (w.1∈f.2.2.2.2.2.2.2.2)&&(w.1 != f.2.2.1)&&(decide (0≤w.2)&&decide (w.2≤p))&&decide (j0A f.2.2.2.2.2.2.2.1 w.1=i)&&z7A f (i+1) w.2 r
def in0 (x b:Int):Bool:=decide (0≤x)&&decide (x≤b)
def f5A (f:FlT):Bool:=
 in0 f.1 2&&in0 f.2.1 1099511627776&&in0 f.2.2.2.2.2.2.1 1099511627776&&in0 f.2.2.2.2.1 2199023255552&&in0 f.2.2.2.2.2.1 2199023255552 &&
 decide (f.2.2.2.2.2.2.2.2.length≤8)&&decide (f.2.2.2.2.2.2.2.1.length≤4)&&okL j9A (·) 0 f.2.2.2.2.2.2.2.2&&z7A f 0 7 f.2.2.2.2.2.2.2.1 &&
 (bif f.1==0 then (f.2.2.1==0)&&(f.2.2.2.1==0)&&(f.2.2.2.2.1==0)&&(f.2.2.2.2.2.1==0)&&decide (f.2.2.2.2.2.2.2.1.length=0)
  else decide (f.2.2.1∈f.2.2.2.2.2.2.2.2)&&in0 f.2.2.2.1 7&&decide (f.2.1>0))
theorem h0C (a b:Int):k4A a b=some (in0 a b):=k6E a b
theorem k8E {M:List Int} {f:FlT} {o:Bool} (hl:M.length≤1000000):iter w0B (o,0,M,(M.length:Int),0,f,())=some (o&&okL j9A (·) 0 M,f,()):=by
 have:=k0B (R':=Unit) (f:=w0B) M (fun i (s:Bool×Int)=>(s.1,s.2,M,(M.length:Int),(i:Int),f,())) (fun x a=>.inl (x.1&&j9A x.2 a,a)) (fun _=>(false,f,())) (fun s=>(s.1,f,())) (by
  intro i a s hi
  have:=g1A hi
  have ws:IntKind.i64.wrap ((i:Int)+1)=((i+1:Nat):Int):=by rw [b8A (by omega) (by omega)]; rfl
  simp (disch:=omega) only [w0B,dT,wT,Ao,gD hi]
  unfold j9A
  cases s.1 with
  | false =>
   rw [Ai,Aa]
   dsimp only
   rw [ws,Bh]
  | true =>
   rw [Al]
   by_cases h:a>s.2
   ·rw [dT h,Aa]
    dsimp only
    rw [ws,Ah h,Cs,Cs]
   ·rw [dF h,Aa]
    dsimp only
    rw [ws,Am h,Bh,Cs]) (by
  intro s
  simp (disch:=omega) only [w0B,dF]) (o,0)
 obtain ⟨p',hp⟩:=k1B j9A (fun x=>x) M o 0
 rw [hp] at this
 exact this
theorem k9E {W:List (Int×Int)} {f:FlT} {o:Bool} (hl:W.length≤1000000) (hM:f.2.2.2.2.2.2.2.2.length≤1000000) (hs:f.2.2.2.2.2.2.2.2.Pairwise (·<·)) (hW:f.2.2.2.2.2.2.2.1.length≤1000000) (hfw:∀ w∈W,j0A f.2.2.2.2.2.2.2.1 w.1<f.2.2.2.2.2.2.2.1.length) :
  iter p7B (o,7,W,(W.length:Int),0,f,())=some (o&&z7A f 0 7 W,f,()):=by
 have key:∀ (l2 l1:List (Int×Int)) (o:Bool) (p:Int),W=l1++l2→iter p7B (o,p,W,(W.length:Int),(l1.length:Int),f,())=some (o&&z7A f l1.length p l2,f,()):=by
  intro l2
  induction l2 with
  | nil =>
   intro l1 o p e
   rw [Bc] at e
   rw [←e]
   refine m4A ?_
   simp (disch:=omega) only [p7B,dF]
   unfold z7A
   rw [Bool.and_true]
  | cons a l2 ih =>
   intro l1 o p e
   have hi:W[l1.length]? = some a:=by rw [e]; simp
   have hlt:=g1A hi
   have ws:IntKind.i64.wrap ((l1.length:Int)+1)=((l1.length+1:Nat):Int):=by rw [b8A (by omega) (by omega)]; rfl
   have nx:p7B (o,p,W,(W.length:Int),(l1.length:Int),f,())=some (.inl (o&&(decide (a.1∈f.2.2.2.2.2.2.2.2)&&(a.1 != f.2.2.1)&&(decide (0≤a.2)&&decide (a.2≤p))&&decide (j0A f.2.2.2.2.2.2.2.1 a.1=l1.length)),a.2,W,(W.length:Int),((l1.length+1:Nat):Int),f,())):=by
    have fin:((if j0A f.2.2.2.2.2.2.2.1 a.1<f.2.2.2.2.2.2.2.1.length then (j0A f.2.2.2.2.2.2.2.1 a.1:Int) else -1)==(l1.length:Int))=decide (j0A f.2.2.2.2.2.2.2.1 a.1=l1.length):=by
     rw [Aj (hfw a (h6A hi))]
     by_cases h:j0A f.2.2.2.2.2.2.2.1 a.1=l1.length
     ·rw [Ah h,h,Dq]
     ·rw [Am h]; exact Bg (by omega)
    simp (disch:=omega) only [p7B,dT,wT,Ao,gD hi]
    cases o with
    | false =>
     rw [Ai,Aa]
     dsimp only
     rw [ws,Bh]
    | true =>
     rw [Al,u3C hM hs,Aa]
     cases decide (a.1∈f.2.2.2.2.2.2.2.2) with
     | false =>
      rw [Ai,Aa]
      dsimp only
      rw [ws]; rfl
     | true =>
      rw [Al]
      cases (a.1 != f.2.2.1) with
      | false =>
       rw [Ai,Aa]
       dsimp only
       rw [ws]; rfl
      | true =>
       rw [Al,h0C,Aa]
       unfold in0
       cases (decide (0≤a.2)&&decide (a.2≤p)) with
       | false =>
        rw [Ai,Aa]
        dsimp only
        rw [ws]; rfl
       | true =>
        rw [Al,m1D hW,Aa,Aa]
        dsimp only
        rw [ws,fin]; rfl
   rw [l5A nx]
   have:=ih (l1++[a]) (o&&(decide (a.1∈f.2.2.2.2.2.2.2.2)&&(a.1 != f.2.2.1)&&(decide (0≤a.2)&&decide (a.2≤p))&&decide (j0A f.2.2.2.2.2.2.2.1 a.1=l1.length))) a.2 (by rw [e]; simp)
   rw [Ak,By] at this
   rw [this]
   conv=>rhs; unfold z7A
   rw [Eo]
 exact key W [] o 7 rfl
theorem l0E {W:List (Int×Int)} {w:Int×Int} (h:w∈W):j0A W w.1<W.length:=List.findIdx_lt_length_of_exists ⟨w,h,by simp⟩
theorem g0B (f:FlT) (hM:f.2.2.2.2.2.2.2.2.length≤1000000) (hW:f.2.2.2.2.2.2.2.1.length≤1000000):v5A f=some (err (f5A f)):=by
 have s1:((k4A f.1 2).bind fun y1 =>
 bif y1 then
 (k4A f.2.1 1099511627776).bind fun y2 =>
 bif y2 then
 (k4A f.2.2.2.2.2.2.1 1099511627776).bind fun y3 =>
 bif y3 then
 (k4A f.2.2.2.2.1 2199023255552).bind fun y4 =>
 bif y4 then
 (k4A f.2.2.2.2.2.1 2199023255552).bind fun y5 =>
 some (y5,f,())
 else
 some (false,f,())
 else
 some (false,f,())
 else
 some (false,f,())
 else
 some (false,f,()):Option (Bool×FlT×Unit))=some (in0 f.1 2&&in0 f.2.1 1099511627776&&in0 f.2.2.2.2.2.2.1 1099511627776&&in0 f.2.2.2.2.1 2199023255552&&in0 f.2.2.2.2.2.1 2199023255552,f,()):=by
  simp only [h0C,Aa]
  cases in0 f.1 2 <;> cases in0 f.2.1 1099511627776 <;> cases in0 f.2.2.2.2.2.2.1 1099511627776 <;> cases in0 f.2.2.2.2.1 2199023255552 <;> rfl
 unfold v5A
 rw [s1,Aa]
 dsimp only
 unfold f5A
 generalize (in0 f.1 2&&in0 f.2.1 1099511627776&&in0 f.2.2.2.2.2.2.1 1099511627776&&in0 f.2.2.2.2.1 2199023255552&&in0 f.2.2.2.2.2.1 2199023255552)=c
 have s2:(bif c then bif (decide ((f.2.2.2.2.2.2.2.2.length:Int)≤8)) then some ((decide ((f.2.2.2.2.2.2.2.1.length:Int)≤4)),f,()) else some (false,f,()) else some (false,f,()):Option (Bool×FlT×Unit))=some (c&&decide (f.2.2.2.2.2.2.2.2.length≤8)&&decide (f.2.2.2.2.2.2.2.1.length≤4),f,()):=by
  cases c with
  | false=>rfl
  | true =>
   have e1:decide ((f.2.2.2.2.2.2.2.2.length:Int)≤8)=decide (f.2.2.2.2.2.2.2.2.length≤8):=decide_eq_decide.2 (by omega)
   have e2:decide ((f.2.2.2.2.2.2.2.1.length:Int)≤4)=decide (f.2.2.2.2.2.2.2.1.length≤4):=decide_eq_decide.2 (by omega)
   rw [e1,e2,Al]
   cases decide (f.2.2.2.2.2.2.2.2.length≤8) <;> rfl
 rw [s2,Aa]
 dsimp only
 generalize (c&&decide (f.2.2.2.2.2.2.2.2.length≤8)&&decide (f.2.2.2.2.2.2.2.1.length≤4))=c2
 rw [k8E hM,Aa]
 dsimp only
 cases hm:okL j9A (·) 0 f.2.2.2.2.2.2.2.2 with
 | false=>simp only [Bw,Bh,Cr,Al]; rfl
 | true =>
  have hs:=(z6A hm).1
  rw [Bool.and_true]
  cases c2 with
  | false=>simp only [Bh,Cr,Al]; rfl
  | true =>
   rw [Cc,Ai,k9E hW hM hs hW fun w hw=>l0E hw,Aa]
   dsimp only
   simp only [Cs]
   cases hw:z7A f 0 7 f.2.2.2.2.2.2.2.1 with
   | false =>
    rw [Bh]
    cases (f.1==0) <;> rfl
   | true =>
    rw [Cs]
    cases (f.1==0) with
    | true =>
     rw [Al,Al,Al]
     have e1:((f.2.2.2.2.2.2.2.1.length:Int)==0)=decide (f.2.2.2.2.2.2.2.1.length=0):=by
      by_cases h:f.2.2.2.2.2.2.2.1.length=0
      ·rw [Ah h,h]; rfl
      ·rw [Am h]; exact Bg (by omega)
     rw [e1]
     have e2:([f.2.2.1,f.2.2.2.1,f.2.2.2.2.1,f.2.2.2.2.2.1]==[0,0,0,0])=((f.2.2.1==0)&&(f.2.2.2.1==0)&&(f.2.2.2.2.1==0)&&(f.2.2.2.2.2.1==0)):=by
      show ((f.2.2.1==0)&&((f.2.2.2.1==0)&&((f.2.2.2.2.1==0)&&((f.2.2.2.2.2.1==0)&&true))))=_
      rw [Bool.and_true,Eo,Eo]
     rw [e2]
     cases ((f.2.2.1==0)&&(f.2.2.2.1==0)&&(f.2.2.2.2.1==0)&&(f.2.2.2.2.2.1==0)) with
     | false=>rfl
     | true=>cases decide (f.2.2.2.2.2.2.2.1.length=0) <;> rfl
    | false =>
     rw [Ai,Ai,Al,u3C hM hs,Aa,h0C]
     cases decide (f.2.2.1∈f.2.2.2.2.2.2.2.2) with
     | false=>rfl
     | true =>
      rw [Al,Aa]
      cases in0 f.2.2.2.1 7 with
      | false=>rfl
      | true=>cases decide (f.2.1>0) <;> rfl
theorem m2D {f:FlT} {W:List (Int×Int)} (hW:f.2.2.2.2.2.2.2.1=W):∀ {W2 W1:List (Int×Int)} {p:Int},W=W1++W2 →
  (z7A f W1.length p W2=true↔(∀ w∈W2,w.1∈f.2.2.2.2.2.2.2.2∧w.1≠f.2.2.1∧0≤w.2∧w.2≤p∧w.1 ∉ W1.map (·.1))∧W2.Pairwise (fun a b=>b.2≤a.2)∧(W2.map (·.1)).Nodup)
 | [],W1,p,e=>by simp [z7A]
 | a::W2,W1,p,e=>by
  have ih:=m2D hW (W2:=W2) (W1:=W1++[a]) (p:=a.2) (by rw [e]; simp)
  rw [Ak,By] at ih
  have hf:j0A W a.1=W1.length↔a.1 ∉ W1.map (·.1):=by
   rw [e]
   unfold j0A
   rw [List.findIdx_append]
   have h0:List.findIdx (fun w:Int×Int=>w.1==a.1) (a::W2)=0:=by rw [List.findIdx_cons]; simp
   rw [h0]
   constructor
   ·intro h hm
    obtain ⟨w,hw,hw2⟩:=List.mem_map.1 hm
    have:List.findIdx (fun w:Int×Int=>w.1==a.1) W1<W1.length:=List.findIdx_lt_length_of_exists ⟨w,hw,by simp [hw2]⟩
    rw [Aj this] at h
    omega
   ·intro h
    rw [Ae]
    ·omega
    ·intro hlt
     refine h ?_
     have:=List.findIdx_getElem (w:=hlt)
     rw [Cw] at this
     exact List.mem_map.2 ⟨_,List.getElem_mem hlt,this⟩
  unfold z7A
  rw [hW]
  simp only [Ac,Au,bne_iff_ne,hf,ih]
  simp only [Bf,forall_eq_or_imp,List.pairwise_cons,List.map_cons,List.nodup_cons,List.map_append,Ck,List.map_nil,List.not_mem_nil,or_false,not_or]
  constructor
  ·rintro ⟨⟨⟨⟨h1,h2⟩,h3,h4⟩,h5⟩,h6,h7,h8⟩
   refine ⟨⟨⟨h1,h2,h3,h4,h5⟩,fun w hw => ?_⟩,⟨fun w hw=>(h6 w hw).2.2.2.1,h7⟩,fun hm => ?_,h8⟩
   ·obtain ⟨q1,q2,q3,q4,q5,q6⟩:=h6 w hw
    exact ⟨q1,q2,q3,by omega,q5⟩
   ·obtain ⟨w,hw,hw2⟩:=List.mem_map.1 hm
    exact (h6 w hw).2.2.2.2.2 hw2
  ·rintro ⟨⟨⟨h1,h2,h3,h4,h5⟩,h6⟩,⟨h7,h8⟩,h9,h10⟩
   refine ⟨⟨⟨⟨h1,h2⟩,h3,h4⟩,h5⟩,fun w hw => ?_,h8,h10⟩
   obtain ⟨q1,q2,q3,q4,q5⟩:=h6 w hw
   exact ⟨q1,q2,q3,h7 w hw,q5,fun e=>h9 (List.mem_map.2 ⟨w,hw,e⟩)⟩
structure FlP (s e h p u l n:Int) (W:List (Int×Int)) (M:List Int):Prop where
 s0:0≤s
 s2:s≤2
 e0:0≤e
 e1:e≤1099511627776
 n0:0≤n
 n1:n≤1099511627776
 u0:0≤u
 u1:u≤2199023255552
 l0:0≤l
 l1:l≤2199023255552
 M8:M.length≤8
 W4:W.length≤4
 Mok:okL j9A (·) 0 M=true
 Wm:∀ w∈W,w.1∈M∧w.1≠h∧0≤w.2∧w.2≤7
 Ws:W.Pairwise (fun a b=>b.2≤a.2)
 Wn:(W.map (·.1)).Nodup
 idle:s=0→h=0∧p=0∧u=0∧l=0∧W=[]
 busy:s≠0→h∈M∧0≤p∧p≤7∧0<e
theorem FlP.Mpos {s e h p u l n:Int} {W:List (Int×Int)} {M:List Int} (o:FlP s e h p u l n W M):∀ x∈M,0<x∧x≤1073741824:=(z6A o.Mok).2
theorem FlP.Ms {s e h p u l n:Int} {W:List (Int×Int)} {M:List Int} (o:FlP s e h p u l n W M):M.Pairwise (·<·):=(z6A o.Mok).1
theorem h0A {s e h p u l n:Int} {W:List (Int×Int)} {M:List Int}:f5A (s,e,h,p,u,l,n,W,M)=true↔FlP s e h p u l n W M:=by
 have hw:=m2D (f:=(s,e,h,p,u,l,n,W,M)) (W:=W) rfl (W2:=W) (W1:=[]) (p:=7) rfl
 unfold f5A in0
 simp only [Ac,Au]
 simp only [List.length_nil] at hw
 rw [hw]
 simp only [List.map_nil,List.not_mem_nil,not_false_eq_true,and_true]
 by_cases hs:s=0
 ·rw [show (s==0)=true by rw [hs]; rfl,Al]
  simp only [Ac,Au,Cw,Br]
  constructor
  ·rintro ⟨⟨⟨⟨⟨⟨⟨⟨⟨⟨a1,a2⟩,a3,a4⟩,a5,a6⟩,a7,a8⟩,a9,a10⟩,a11⟩,a12⟩,a13⟩,⟨b1,b2,b3⟩⟩,⟨⟨⟨c1,c2⟩,c3⟩,c4⟩,c5⟩
   exact ⟨a1,a2,a3,a4,a5,a6,a7,a8,a9,a10,a11,a12,a13,b1,b2,b3,fun _=>⟨c1,c2,c3,c4,c5⟩,fun h=>absurd hs h⟩
  ·intro o
   obtain ⟨c1,c2,c3,c4,c5⟩:=o.idle hs
   exact ⟨⟨⟨⟨⟨⟨⟨⟨⟨⟨o.s0,o.s2⟩,o.e0,o.e1⟩,o.n0,o.n1⟩,o.u0,o.u1⟩,o.l0,o.l1⟩,o.M8⟩,o.W4⟩,o.Mok⟩,⟨o.Wm,o.Ws,o.Wn⟩⟩,⟨⟨⟨c1,c2⟩,c3⟩,c4⟩,c5⟩
 ·rw [show (s==0)=false from Bg hs,Ai]
  simp only [Ac,Au]
  constructor
  ·rintro ⟨⟨⟨⟨⟨⟨⟨⟨⟨⟨a1,a2⟩,a3,a4⟩,a5,a6⟩,a7,a8⟩,a9,a10⟩,a11⟩,a12⟩,a13⟩,⟨b1,b2,b3⟩⟩,⟨c1,c2,c3⟩,c4⟩
   exact ⟨a1,a2,a3,a4,a5,a6,a7,a8,a9,a10,a11,a12,a13,b1,b2,b3,fun h=>absurd h hs,fun _=>⟨c1,c2,c3,c4⟩⟩
  ·intro o
   obtain ⟨c1,c2,c3,c4⟩:=o.busy hs
   exact ⟨⟨⟨⟨⟨⟨⟨⟨⟨⟨o.s0,o.s2⟩,o.e0,o.e1⟩,o.n0,o.n1⟩,o.u0,o.u1⟩,o.l0,o.l1⟩,o.M8⟩,o.W4⟩,o.Mok⟩,⟨o.Wm,o.Ws,o.Wn⟩⟩,⟨c1,c2,c3⟩,c4⟩
abbrev j4A:=Int×Int×Int×Int×Int
def unW (W:List (Int×Int)) (x:Int):List (Int×Int):=W.filter (fun w=>!(w.1==x))
def onP:FlT→FlT×List Dc
 | (_,e,_,_,_,_,n,[],M)=>((0,e,0,0,0,0,n,[],M),[(10,0,e,0)])
 | (_,e,_,_,_,_,n,w::W,M)=>((1,e+1,w.1,w.2,n+60,n+12,n,W,M),[(5,w.1,e+1,0)])
def q9A (x:Int):FlT→FlT×List Dc
 | (s,e,h,p,u,l,n,W,M)=>if h=x then onP (s,e,h,p,u,l,n,unW W x,M) else ((s,e,h,p,u,l,n,unW W x,M),[])
def k4B (x:Int):FlT→FlT×List Dc
 | (s,e,h,p,u,l,n,W,M)=>if x∈M then ((s,e,h,p,u,l,n,W,M),[(15,x,e,0)]) else if 8≤M.length then ((s,e,h,p,u,l,n,W,M),[(6,x,0,0)]) else ((s,e,h,p,u,l,n,W,d9A x M),[(15,x,e,0)])
def k5B (x:Int):FlT→FlT×List Dc
 | (s,e,h,p,u,l,n,W,M)=>if x∈M then q9A x (s,e,h,p,u,l,n,W,M.filter (fun y=>!(y==x))) else ((s,e,h,p,u,l,n,W,M),[])
abbrev e7A (W:List (Int×Int)) (q:Int):Nat:=W.findIdx (fun w=>decide (w.2<q))
def k6B (x q:Int):FlT→FlT×List Dc
 | (s,e,h,p,u,l,n,W,M) =>
  if x ∉ M then ((s,e,h,p,u,l,n,W,M),[(6,x,0,0)])
  else if s=0 then ((1,e+1,x,q,n+60,n+12,n,W,M),[(5,x,e+1,0)])
  else if h=x then (if s=1 then ((s,e,h,p,u,l,n,W,M),[(5,x,e,0)]) else ((s,e,h,p,u,l,n,W,M),[(8,x,e,0)]))
  else if j0A W x<W.length then ((s,e,h,p,u,l,n,W,M),[(7,x,0,(j0A W x:Int)+1)])
  else if 4≤W.length then ((s,e,h,p,u,l,n,W,M),[(6,x,0,0)])
  else if s=1∧p<q then ((2,e,h,p,u,l,n,W.take (e7A W q)++(x,q)::W.drop (e7A W q),M),[(7,x,0,(e7A W q:Int)+1),(8,h,e,0)])
  else ((s,e,h,p,u,l,n,W.take (e7A W q)++(x,q)::W.drop (e7A W q),M),[(7,x,0,(e7A W q:Int)+1)])
def k7B (x ep:Int):FlT→FlT×List Dc
 | (s,e,h,p,u,l,n,W,M)=>if s=1∧h=x∧e=ep then ((s,e,h,p,u,n+12,n,W,M),[]) else ((s,e,h,p,u,l,n,W,M),[])
def k8B (t:Int):FlT→FlT×List Dc
 | (s,e,h,p,u,l,n,W,M) =>
  if s=1∧(l+3≤t∨u≤t) then
   (if l+3≤t then ((onP (2,e,h,p,u,l,t,W,M)).1,(8,h,e,0)::(onP (2,e,h,p,u,l,t,W,M)).2) else ((2,e,h,p,u,l,t,W,M),[(8,h,e,0)]))
  else if s=2∧l+3≤t then onP (s,e,h,p,u,l,t,W,M) else ((s,e,h,p,u,l,t,W,M),[])
def k7A (f:FlT) (a:j4A):Bool:=
 in0 (a.1 - 1) 5&&(bif a.1==6 then decide (f.2.2.2.2.2.2.1≤a.2.2.2.2)&&decide (a.2.2.2.2≤1099511627776) else
  (bif a.1==3 then in0 a.2.2.1 7 else true)&&(decide (0<a.2.1)&&decide (a.2.1≤1073741824)))
def doP (f:FlT) (a:j4A):FlT×List Dc:=
 if a.1=1 then k4B a.2.1 f else if a.1=2 then k5B a.2.1 f else if a.1=3 then k6B a.2.1 a.2.2.1 f else
 if a.1=4 then q9A a.2.1 f else if a.1=5 then k7B a.2.1 a.2.2.2.1 f else k8B a.2.2.2.2 f
def zFl:FlT:=(0,0,0,0,0,0,0,[],[])
def doR (f:FlT) (a:j4A):FlT×List Dc×Int:=bif f5A f&&k7A f a then ((doP f a).1,(doP f a).2,0) else (zFl,[],1)
variable {s e h p u l n a1 a2 a3 a4:Int} {W:List (Int×Int)} {M:List Int}
theorem c5B {b:Bool}:((err b)==0)=b:=by cases b <;> rfl
theorem q7B (hf:f5A (s,e,h,p,u,l,n,W,M)=false) (a:j4A):doR (s,e,h,p,u,l,n,W,M) a=(zFl,[],1):=by unfold doR; rw [hf]; rfl
theorem r0A {f:FlT} {a:j4A} (hf:k7A f a=false):doR f a=(zFl,[],1):=by unfold doR; rw [hf,Bw]; rfl
theorem k9B {f:FlT} {a:j4A} (h1:f5A f=true) (h2:k7A f a=true):doR f a=((doP f a).1,(doP f a).2,0):=by unfold doR; rw [h1,h2]; rfl
theorem h1C {f:FlT} {k a1 a2 a3 a4:Int} (h1:1≤k) (h6:k<6) (h3:k≠3):k7A f (k,a1,a2,a3,a4)=(decide (0<a1)&&decide (a1≤1073741824)):=by
 unfold k7A in0
 dsimp only
 rw [show (k==6)=false from Bg (by omega),show (k==3)=false from Bg h3,Ah (show 0≤k - 1 by omega),Ah (show k - 1≤5 by omega)]
 rfl
set_option maxHeartbeats 4000000 in
theorem l1E (hW:W.length≤1000) (hM:M.length≤1000):n3A (s,e,h,p,u,l,n,W,M) (1,a1,a2,a3,a4)=some (doR (s,e,h,p,u,l,n,W,M) (1,a1,a2,a3,a4)):=by
 have c1:=g0B (s,e,h,p,u,l,n,W,M) (show M.length≤1000000 by omega) (show W.length≤1000000 by omega)
 have ak:=h1C (f:=(s,e,h,p,u,l,n,W,M)) (k:=1) (a1:=a1) (a2:=a2) (a3:=a3) (a4:=a4) (by decide) (by decide) (by decide)
 unfold n3A
 dsimp only
 rw [f8B (by omega),Aa,f9B (by omega),Aa,dT rfl,c1,Aa,eF (by decide),eF (by decide),c5B]
 cases hf:f5A (s,e,h,p,u,l,n,W,M) with
 | false=>rw [q7B hf]; rfl
 | true =>
 rw [Al]
 by_cases ha:a1>0
 ·by_cases hb:a1≤1073741824
  ·rw [Ah hb,Ah (show 0<a1 from ha)] at ak
   rw [dT ha,Aa]
   dsimp only
   rw [Ah hb,Cc,Ai,k9B hf ak]
   have o:=h0A.1 hf
   obtain ⟨i,b1,b2,b3⟩:=x2B (l:=M) (x:=a1) (by omega) o.Ms
   have dp:doP (s,e,h,p,u,l,n,W,M) (1,a1,a2,a3,a4)=k4B a1 (s,e,h,p,u,l,n,W,M):=Aj rfl
   rw [dp]
   unfold k4B
   rw [b1,Aa]
   dsimp only
   by_cases hm:a1∈M
   ·rw [Aj hm,Ah hm,Cc,Ai,Aa]
    rfl
   ·rw [Ae hm,Am hm,Cr,Al,Aa]
    dsimp only
    by_cases h8:8≤M.length
    ·rw [Aj h8,dT (by omega)]
     rfl
    ·rw [Ae h8,dF (by omega),Cr,Al,t5C b2 (by omega) b3,Aa]
     rfl
  ·rw [Am hb,Bw] at ak
   rw [dT ha,Aa]
   dsimp only
   rw [Am hb,r0A ak]
   rfl
 ·rw [Am (show ¬ 0<a1 from ha),Bh] at ak
  rw [dF ha,Aa,r0A ak]
  rfl
set_option maxHeartbeats 4000000 in
theorem l2E (hW:W.length≤1000) (hM:M.length≤1000):n3A (s,e,h,p,u,l,n,W,M) (5,a1,a2,a3,a4)=some (doR (s,e,h,p,u,l,n,W,M) (5,a1,a2,a3,a4)):=by
 have c1:=g0B (s,e,h,p,u,l,n,W,M) (show M.length≤1000000 by omega) (show W.length≤1000000 by omega)
 have ak:=h1C (f:=(s,e,h,p,u,l,n,W,M)) (k:=5) (a1:=a1) (a2:=a2) (a3:=a3) (a4:=a4) (by decide) (by decide) (by decide)
 unfold n3A
 dsimp only
 rw [f8B (by omega),Aa,f9B (by omega),Aa,dF (by decide),dF (by decide),dF (by decide),dF (by decide),dT rfl,c1,Aa]
 rw [eF (by decide),eF (by decide),c5B]
 cases hf:f5A (s,e,h,p,u,l,n,W,M) with
 | false=>rw [q7B hf]; rfl
 | true =>
 rw [Al]
 by_cases ha:a1>0
 ·by_cases hb:a1≤1073741824
  ·rw [Ah hb,Ah (show 0<a1 from ha)] at ak
   rw [dT ha,Aa]
   dsimp only
   rw [Ah hb,Cc,Ai,k9B hf ak]
   have o:=h0A.1 hf
   have wn:IntKind.i64.wrap (n+12)=n+12:=by have:=o.n0; have:=o.n1; exact b8A (by omega) (by omega)
   have dp:doP (s,e,h,p,u,l,n,W,M) (5,a1,a2,a3,a4)=k7B a1 a3 (s,e,h,p,u,l,n,W,M):=rfl
   rw [dp]
   unfold k7B
   dsimp only
   by_cases h1:s=1
   ·rw [eT h1]
    by_cases h2:h=a1
    ·rw [eT h2,Aa]
     dsimp only
     by_cases h3:e=a3
     ·rw [eT h3,Aj ⟨h1,h2,h3⟩,wn]
     ·rw [eF h3,Ae fun q=>h3 q.2.2]
    ·rw [eF h2,Aa,Ae fun q=>h2 q.2.1]
     rfl
   ·rw [eF h1,Aa,Ae fun q=>h1 q.1]
    rfl
  ·rw [Am hb,Bw] at ak
   rw [dT ha,Aa]
   dsimp only
   rw [Am hb,r0A ak]
   rfl
 ·rw [Am (show ¬ 0<a1 from ha),Bh] at ak
  rw [dF ha,Aa,r0A ak]
  rfl
set_option maxHeartbeats 1000000 in
theorem onE {s e h p u l n a1:Int} {W:List (Int×Int)} {M:List Int} (h0:0≤e) (h1:e≤1099511627776) (n0:0≤n) (n1:n≤1099511627776) (hW:W.length≤4) :
  (bif (h==a1) then
 bif (decide ((W.length:Int)>0)) then
 bif (a7A 0 W.length) then
 bif (f3A 1 (W.length:Int) W.length) then
 bif (c6A 32 (([]:List Dc)++[(5,(((W.getD 0 (0,0))).1,((IntKind.i64.wrap (e+1)),0)))]).length) then
 some ((1,((IntKind.i64.wrap (e+1)),(((W.getD 0 (0,0))).1,(((W.getD 0 (0,0))).2,((IntKind.i64.wrap (n+60)),((IntKind.i64.wrap (n+12)),(n,(((W.drop 1).take ((W.length:Int).toNat - 1)),M)))))))),((([]:List Dc)++[(5,(((W.getD 0 (0,0))).1,((IntKind.i64.wrap (e+1)),0)))]),0))
 else none
 else none
 else none
 else
 bif (c6A 32 (([]:List Dc)++[(10,(0,(e,0)))]).length) then
 some ((0,(e,(0,(0,(0,(0,(n,(W,(M))))))))),((([]:List Dc)++[(10,(0,(e,0)))]),0))
 else none
 else
 some ((s,(e,(h,(p,(u,(l,(n,(W,(M))))))))),(([]:List Dc),0)):Option (FlT×List Dc×Int))=some (if h=a1 then ((onP (s,e,h,p,u,l,n,W,M)).1,(onP (s,e,h,p,u,l,n,W,M)).2,0) else ((s,e,h,p,u,l,n,W,M),[],0)):=by
 by_cases hh:h=a1
 ·subst hh
  rw [eT rfl,Aj rfl]
  have hr:IntKind.i64.wrap (e+1)=e+1:=b8A (by omega) (by omega)
  have hn:IntKind.i64.wrap (n+60)=n+60:=b8A (by omega) (by omega)
  have hm:IntKind.i64.wrap (n+12)=n+12:=b8A (by omega) (by omega)
  cases W with
  | nil =>
   rw [dF (by simp)]
   rfl
  | cons w W =>
   have hd:(((w::W).drop 1).take (((W.length+1:Nat):Int).toNat - 1))=W:=by
    show W.take (((W.length+1:Nat):Int).toNat - 1)=W
    exact Bn (by omega)
   simp only [Be] at hW ⊢
   rw [dT (by omega),wT (by omega) (by omega),gT (by omega) (by omega) (by omega),hr,hn,hm,hd]
   rfl
 ·rw [eF hh,Ae hh]
theorem r1E {W:List (Int×Int)} {x:N12} {M:List Int} {o:List Dc} (hl:W.length≤1000000) :
  iter j4B (W,(W.length:Int),0,x,M,o,())=some (if j0A W x.2.2.2.2.2.2.2.2.1<W.length then .inr (W,(j0A W x.2.2.2.2.2.2.2.2.1:Int),x,M,o,()) else .inl (W,x,M,o,())):=by
 exact u1C (f:=j4B) W (fun w=>w.1==x.2.2.2.2.2.2.2.2.1) (fun i=>(W,(W.length:Int),(i:Int),x,M,o,())) (fun i=>.inr (W,(i:Int),x,M,o,())) (.inl (W,x,M,o,())) (by
  intro i a hi
  have:=g1A hi
  have ws:IntKind.i64.wrap ((i:Int)+1)=((i+1:Nat):Int):=by rw [b8A (by omega) (by omega)]; rfl
  simp (disch:=omega) only [j4B,dT,wT,Ao,gD hi,ws]
  cases (a.1==x.2.2.2.2.2.2.2.2.1) <;> rfl) (by simp (disch:=omega) only [j4B,dF])
theorem r2E {W:List (Int×Int)} {k:Nat} {x:N12} {M:List Int} {o:List Dc} (hl:W.length≤1000000) (hk:k<W.length) (hb:∀ w∈W.take k,(w.1==x.2.2.2.2.2.2.2.2.1)=false) (hx:((W.getD k (0,0)).1==x.2.2.2.2.2.2.2.2.1)=true) :
  ∃ (V:List (Int×Int)) (i:Nat),iter f0B (W,(k:Int),((k+1:Nat):Int),x,M,o,())=some (V,(i:Int),x,M,o,())∧V.length=W.length∧i≤W.length∧V.take i=unW W x.2.2.2.2.2.2.2.2.1:=by
 obtain ⟨a,ha⟩:∃ a,W[k]? = some a:=⟨_,Aq hk⟩
 rw [gD ha] at hx
 refine u2C (f:=f0B) W (fun w=>w.1==x.2.2.2.2.2.2.2.2.1) (fun V wr i=>(V,(wr:Int),(i:Int),x,M,o,())) (fun V wr=>(V,(wr:Int),x,M,o,())) ?_ ?_ (W.length - (k+1)) W k (k+1) (by omega) (by omega) rfl ?_ rfl
 ·intro V wr i a hi hwr hlen
  have:=g1A hi
  have ws:IntKind.i64.wrap ((i:Int)+1)=((i+1:Nat):Int):=by rw [b8A (by omega) (by omega)]; rfl
  have ww:IntKind.i64.wrap ((wr:Int)+1)=((wr+1:Nat):Int):=by rw [b8A (by omega) (by omega)]; rfl
  cases hc:(a.1==x.2.2.2.2.2.2.2.2.1) with
  | true =>
   simp (disch:=omega) only [f0B,dT,wT,Ao,gD hi,hc,Cc,Ai,Aa,ws,Al]
  | false =>
   simp (disch:=omega) only [f0B,dT,wT,Ao,gD hi,hc,Cr,Al,Aa,ws,ww,Ai]
 ·intro V wr hlen hwr
  simp (disch:=omega) only [f0B,dF]
 ·rw [m6A ha,List.filter_append,List.filter_cons,hx,List.filter_nil]
  rw [Eu.2 fun w hw=>by rw [hb w hw]; rfl]
  simp
theorem l3E {W:List (Int×Int)} {x:Int} (h:¬ j0A W x<W.length):unW W x=W:=by
 refine Eu.2 fun w hw => ?_
 cases hc:(w.1==x) with
 | true=>exact absurd (List.findIdx_lt_length_of_exists ⟨w,hw,hc⟩) h
 | false=>rfl
set_option maxHeartbeats 1000000 in
theorem x9B {s e h p u l n a0 a1 a2 a3 a4:Int} {W:List (Int×Int)} {M:List Int} (h0:0≤e) (h1:e≤1099511627776) (n0:0≤n) (n1:n≤1099511627776) (hW:W.length≤4) :
  ((((iter (j4B) (W,(W.length:Int),0,(s,e,h,p,u,l,n,a0,a1,a2,a3,a4,()),M,([]:List Dc),())).bind fun j19 =>
 (match j19 with
 | .inl j20 =>
 (some (j20.1,(-1),(j20.2.1.1,j20.2.1.2.1,j20.2.1.2.2.1,j20.2.1.2.2.2.1,j20.2.1.2.2.2.2.1,j20.2.1.2.2.2.2.2.1,j20.2.1.2.2.2.2.2.2.1,j20.2.1.2.2.2.2.2.2.2.1,j20.2.1.2.2.2.2.2.2.2.2.1,j20.2.1.2.2.2.2.2.2.2.2.2.1,j20.2.1.2.2.2.2.2.2.2.2.2.2.1,j20.2.1.2.2.2.2.2.2.2.2.2.2.2.1,()),j20.2.2.1,j20.2.2.2.1,()))
 | .inr j21 =>
 (some (j21.1,j21.2.1,(j21.2.2.1.1,j21.2.2.1.2.1,j21.2.2.1.2.2.1,j21.2.2.1.2.2.2.1,j21.2.2.1.2.2.2.2.1,j21.2.2.1.2.2.2.2.2.1,j21.2.2.1.2.2.2.2.2.2.1,j21.2.2.1.2.2.2.2.2.2.2.1,j21.2.2.1.2.2.2.2.2.2.2.2.1,j21.2.2.1.2.2.2.2.2.2.2.2.2.1,j21.2.2.1.2.2.2.2.2.2.2.2.2.2.1,j21.2.2.1.2.2.2.2.2.2.2.2.2.2.2.1,()),j21.2.2.2.1,j21.2.2.2.2.1,()))):Option ((List (Int×Int)×Int×(Int×Int×Int×Int×Int×Int×Int×Int×Int×Int×Int×Int×Unit)×List Int×List (Int×Int×Int×Int)×Unit))).bind fun j22 =>
 bif (j22.2.1==(-1)) then
 some (((j22.2.2.1.1,(j22.2.2.1.2.1,(j22.2.2.1.2.2.1,(j22.2.2.1.2.2.2.1,(j22.2.2.1.2.2.2.2.1,(j22.2.2.1.2.2.2.2.2.1,(j22.2.2.1.2.2.2.2.2.2.1,(j22.1,j22.2.2.2.1)))))))),((j22.2.2.1.2.2.2.2.2.2.2.1,(j22.2.2.1.2.2.2.2.2.2.2.2.1,(j22.2.2.1.2.2.2.2.2.2.2.2.2.1,(j22.2.2.1.2.2.2.2.2.2.2.2.2.2.1,j22.2.2.1.2.2.2.2.2.2.2.2.2.2.2.1)))),j22.2.2.2.2.1)),())
 else
 (iter (f0B) (j22.1,j22.2.1,(IntKind.i64.wrap (j22.2.1+1)),(j22.2.2.1.1,j22.2.2.1.2.1,j22.2.2.1.2.2.1,j22.2.2.1.2.2.2.1,j22.2.2.1.2.2.2.2.1,j22.2.2.1.2.2.2.2.2.1,j22.2.2.1.2.2.2.2.2.2.1,j22.2.2.1.2.2.2.2.2.2.2.1,j22.2.2.1.2.2.2.2.2.2.2.2.1,j22.2.2.1.2.2.2.2.2.2.2.2.2.1,j22.2.2.1.2.2.2.2.2.2.2.2.2.2.1,j22.2.2.1.2.2.2.2.2.2.2.2.2.2.2.1,()),j22.2.2.2.1,j22.2.2.2.2.1,())).bind fun j25 =>
 bif (f3A j25.2.1 (j25.1.length:Int) j25.1.length) then
 bif (f3A 0 j25.2.1 ((h5A j25.1 j25.2.1.toNat (List.replicate ((j25.1.length:Int).toNat - j25.2.1.toNat) (0,0))).length)) then
 some (((j25.2.2.1.1,(j25.2.2.1.2.1,(j25.2.2.1.2.2.1,(j25.2.2.1.2.2.2.1,(j25.2.2.1.2.2.2.2.1,(j25.2.2.1.2.2.2.2.2.1,(j25.2.2.1.2.2.2.2.2.2.1,((((h5A j25.1 j25.2.1.toNat (List.replicate ((j25.1.length:Int).toNat - j25.2.1.toNat) (0,0))).drop 0).take (j25.2.1.toNat - 0)),j25.2.2.2.1)))))))),((j25.2.2.1.2.2.2.2.2.2.2.1,(j25.2.2.1.2.2.2.2.2.2.2.2.1,(j25.2.2.1.2.2.2.2.2.2.2.2.2.1,(j25.2.2.1.2.2.2.2.2.2.2.2.2.2.1,j25.2.2.1.2.2.2.2.2.2.2.2.2.2.2.1)))),j25.2.2.2.2.1)),())
 else none
 else none:Option ((((Int×Int×Int×Int×Int×Int×Int×List (Int×Int)×List Int)×(Int×Int×Int×Int×Int)×List (Int×Int×Int×Int))×Unit))).bind fun j26 =>
 bif (j26.1.1.2.2.1==j26.1.2.1.2.1) then
 bif (decide ((j26.1.1.2.2.2.2.2.2.2.1.length:Int)>0)) then
 bif (a7A 0 j26.1.1.2.2.2.2.2.2.2.1.length) then
 bif (f3A 1 (j26.1.1.2.2.2.2.2.2.2.1.length:Int) j26.1.1.2.2.2.2.2.2.2.1.length) then
 bif (c6A 32 (j26.1.2.2++[(5,(((j26.1.1.2.2.2.2.2.2.2.1.getD 0 (0,0))).1,((IntKind.i64.wrap (j26.1.1.2.1+1)),0)))]).length) then
 some ((1,((IntKind.i64.wrap (j26.1.1.2.1+1)),(((j26.1.1.2.2.2.2.2.2.2.1.getD 0 (0,0))).1,(((j26.1.1.2.2.2.2.2.2.2.1.getD 0 (0,0))).2,((IntKind.i64.wrap (j26.1.1.2.2.2.2.2.2.1+60)),((IntKind.i64.wrap (j26.1.1.2.2.2.2.2.2.1+12)),(j26.1.1.2.2.2.2.2.2.1,(((j26.1.1.2.2.2.2.2.2.2.1.drop 1).take ((j26.1.1.2.2.2.2.2.2.2.1.length:Int).toNat - 1)),j26.1.1.2.2.2.2.2.2.2.2)))))))),((j26.1.2.2++[(5,(((j26.1.1.2.2.2.2.2.2.2.1.getD 0 (0,0))).1,((IntKind.i64.wrap (j26.1.1.2.1+1)),0)))]),0))
 else none
 else none
 else none
 else
 bif (c6A 32 (j26.1.2.2++[(10,(0,(j26.1.1.2.1,0)))]).length) then
 some ((0,(j26.1.1.2.1,(0,(0,(0,(0,j26.1.1.2.2.2.2.2.2)))))),((j26.1.2.2++[(10,(0,(j26.1.1.2.1,0)))]),0))
 else none
 else
 some (j26.1.1,(j26.1.2.2,0)):Option (FlT×List Dc×Int))=some ((q9A a1 (s,e,h,p,u,l,n,W,M)).1,(q9A a1 (s,e,h,p,u,l,n,W,M)).2,0):=by
 have fin:∀ V:List (Int×Int),V=unW W a1→(bif (h==a1) then
 bif (decide ((V.length:Int)>0)) then
 bif (a7A 0 V.length) then
 bif (f3A 1 (V.length:Int) V.length) then
 bif (c6A 32 (([]:List Dc)++[(5,(((V.getD 0 (0,0))).1,((IntKind.i64.wrap (e+1)),0)))]).length) then
 some ((1,((IntKind.i64.wrap (e+1)),(((V.getD 0 (0,0))).1,(((V.getD 0 (0,0))).2,((IntKind.i64.wrap (n+60)),((IntKind.i64.wrap (n+12)),(n,(((V.drop 1).take ((V.length:Int).toNat - 1)),M)))))))),((([]:List Dc)++[(5,(((V.getD 0 (0,0))).1,((IntKind.i64.wrap (e+1)),0)))]),0))
 else none
 else none
 else none
 else
 bif (c6A 32 (([]:List Dc)++[(10,(0,(e,0)))]).length) then
 some ((0,(e,(0,(0,(0,(0,(n,(V,(M))))))))),((([]:List Dc)++[(10,(0,(e,0)))]),0))
 else none
 else
 some ((s,(e,(h,(p,(u,(l,(n,(V,(M))))))))),(([]:List Dc),0)):Option (FlT×List Dc×Int))=some ((q9A a1 (s,e,h,p,u,l,n,W,M)).1,(q9A a1 (s,e,h,p,u,l,n,W,M)).2,0):=by
  intro V hV
  have hl:V.length≤4:=by rw [hV]; exact Dz (Cm _ _) hW
  rw [onE h0 h1 n0 n1 hl,hV]
  unfold q9A
  dsimp only
  by_cases hh:h=a1
  ·rw [Aj hh,Aj hh]
  ·rw [Ae hh,Ae hh]
 rw [r1E (by omega),Aa]
 dsimp only
 by_cases hk:j0A W a1<W.length
 ·rw [Aj hk]
  dsimp only
  rw [Aa]
  dsimp only
  obtain ⟨k,ek⟩:∃ k,k=j0A W a1:=⟨_,rfl⟩
  rw [←ek] at hk ⊢
  have hb:∀ w∈W.take k,(w.1==a1)=false:=by
   intro w hw
   obtain ⟨j,hj,rfl⟩:=List.mem_iff_getElem.1 hw
   rw [Ap] at hj
   rw [List.getElem_take]
   have:=List.not_of_lt_findIdx (p:=fun w:Int×Int=>w.1==a1) (xs:=W) (i:=j) (by show j<j0A W a1; omega)
   simpa using this
  have hx:((W.getD k (0,0)).1==a1)=true:=by
   have q:j0A W a1<W.length:=by omega
   rw [ek,gD (Aq q)]
   exact List.findIdx_getElem (p:=fun w:Int×Int=>w.1==a1) (xs:=W) (w:=q)
  obtain ⟨V,i,v1,v2,v3,v4⟩:=r2E (W:=W) (k:=k) (x:=(s,e,h,p,u,l,n,a0,a1,a2,a3,a4,())) (M:=M) (o:=[]) (by omega) hk hb hx
  rw [eF (by omega),show IntKind.i64.wrap ((k:Int)+1)=((k+1:Nat):Int) by rw [b8A (by omega) (by omega)]; rfl,v1,Aa]
  dsimp only
  rw [gT (by omega) (by omega) (by omega),Ao,gT (by omega) (by omega) (by
   unfold h5A
   simp only [Ak,Ap]
   omega),Aa]
  dsimp only
  have hV:((h5A V i (List.replicate ((V.length:Int).toNat - i) (0,0))).drop 0).take (i - 0)=V.take i:=by
   unfold h5A
   rw [Do,Nat.sub_zero,List.take_append_of_le_length (by rw [Ap]; omega),List.take_take,Nat.min_self]
  rw [hV]
  exact fin (V.take i) v4
 ·rw [Ae hk]
  dsimp only
  rw [Aa]
  dsimp only
  rw [eT rfl,Aa]
  exact fin W (l3E hk).symm
theorem m3D {x:Int}:∀ {l:List Int} {p:Nat},l.Pairwise (·<·)→s6A id x l p→x∈l→l.take p++l.drop (p+1)=l.filter (fun y=>!(y==x))
 | [],_,_,_,h=>by cases h
 | a::l,0,hs,hc,h=>by
  have h2:=List.pairwise_cons.1 hs
  have ha:x≤a:=hc.2 a (by simp)
  have e:a=x:=by
   rcases Bf.1 h with h | h
   ·exact h.symm
   ·have:=h2.1 x h; omega
  subst e
  rw [List.filter_cons,Dq]
  show l=_
  symm
  refine Eu.2 fun y hy => ?_
  have:=h2.1 y hy
  rw [Bg (by omega)]; rfl
 | a::l,p+1,hs,hc,h=>by
  have h2:=List.pairwise_cons.1 hs
  have ha:a<x:=hc.1 a (by simp)
  have hm:x∈l:=by
   rcases Bf.1 h with h | h
   ·omega
   ·exact h
  rw [List.filter_cons,Bg (by omega)]
  show a::(l.take p++l.drop (p+1))=a::_
  rw [m3D h2.2 ⟨fun b hb=>hc.1 b (by simp [hb]),fun b hb=>hc.2 b (by simpa using hb)⟩ hm]
variable {s e h p u l n a1 a2 a3 a4:Int} {W:List (Int×Int)} {M:List Int}
set_option maxHeartbeats 4000000 in
theorem l4E (hW:W.length≤1000) (hM:M.length≤1000):n3A (s,e,h,p,u,l,n,W,M) (2,a1,a2,a3,a4)=some (doR (s,e,h,p,u,l,n,W,M) (2,a1,a2,a3,a4)):=by
 have c1:=g0B (s,e,h,p,u,l,n,W,M) (show M.length≤1000000 by omega) (show W.length≤1000000 by omega)
 have ak:=h1C (f:=(s,e,h,p,u,l,n,W,M)) (k:=2) (a1:=a1) (a2:=a2) (a3:=a3) (a4:=a4) (by decide) (by decide) (by decide)
 unfold n3A
 dsimp only
 rw [f8B (by omega),Aa,f9B (by omega),Aa,dF (by decide),dT rfl,c1,Aa,eF (by decide),eF (by decide),c5B]
 cases hf:f5A (s,e,h,p,u,l,n,W,M) with
 | false=>rw [q7B hf]; rfl
 | true =>
 rw [Al]
 by_cases ha:a1>0
 ·by_cases hb:a1≤1073741824
  ·rw [Ah hb,Ah (show 0<a1 from ha)] at ak
   rw [dT ha,Aa]
   dsimp only
   rw [Ah hb,Cc,Ai,k9B hf ak]
   have o:=h0A.1 hf
   obtain ⟨i,b1,b2,b3⟩:=x2B (l:=M) (x:=a1) (by omega) o.Ms
   have dp:doP (s,e,h,p,u,l,n,W,M) (2,a1,a2,a3,a4)=k5B a1 (s,e,h,p,u,l,n,W,M):=rfl
   rw [dp]
   unfold k5B
   dsimp only
   rw [b1,Aa]
   dsimp only
   by_cases hm:a1∈M
   ·rw [Aj hm,Ah hm,Cc,Ai]
    have hi:i<M.length:=by
     refine Nat.lt_of_not_le fun hge => ?_
     have:=b3.1 a1 (by rw [Bn (by omega)]; exact hm)
     simp only [id_eq] at this
     omega
    rw [show IntKind.i64.wrap ((i:Int)+1)=((i+1:Nat):Int) by rw [b8A (by omega) (by omega)]; rfl]
    unfold r8C
    rw [k7E (by omega) (by omega) (by omega),Aa,m3D o.Ms b3 hm]
    exact x9B (a0:=2) (a2:=a2) (a3:=a3) (a4:=a4) o.e0 o.e1 o.n0 o.n1 o.W4
   ·rw [Ae hm,Am hm,Cr,Al]
  ·rw [Am hb,Bw] at ak
   rw [dT ha,Aa]
   dsimp only
   rw [Am hb,r0A ak]
   rfl
 ·rw [Am (show ¬ 0<a1 from ha),Bh] at ak
  rw [dF ha,Aa,r0A ak]
  rfl
set_option maxHeartbeats 4000000 in
theorem l5E (hW:W.length≤1000) (hM:M.length≤1000):n3A (s,e,h,p,u,l,n,W,M) (4,a1,a2,a3,a4)=some (doR (s,e,h,p,u,l,n,W,M) (4,a1,a2,a3,a4)):=by
 have c1:=g0B (s,e,h,p,u,l,n,W,M) (show M.length≤1000000 by omega) (show W.length≤1000000 by omega)
 have ak:=h1C (f:=(s,e,h,p,u,l,n,W,M)) (k:=4) (a1:=a1) (a2:=a2) (a3:=a3) (a4:=a4) (by decide) (by decide) (by decide)
 unfold n3A
 dsimp only
 rw [f8B (by omega),Aa,f9B (by omega),Aa,dF (by decide),dF (by decide),dF (by decide),dT rfl,c1,Aa]
 rw [eF (by decide),eF (by decide),c5B]
 cases hf:f5A (s,e,h,p,u,l,n,W,M) with
 | false=>rw [q7B hf]; rfl
 | true =>
 rw [Al]
 by_cases ha:a1>0
 ·by_cases hb:a1≤1073741824
  ·rw [Ah hb,Ah (show 0<a1 from ha)] at ak
   rw [dT ha,Aa]
   dsimp only
   rw [Ah hb,Cc,Ai,k9B hf ak]
   have o:=h0A.1 hf
   rw [r41,r52]
   exact x9B (a0:=4) (a2:=a2) (a3:=a3) (a4:=a4) o.e0 o.e1 o.n0 o.n1 o.W4
  ·rw [Am hb,Bw] at ak
   rw [dT ha,Aa]
   dsimp only
   rw [Am hb,r0A ak]
   rfl
 ·rw [Am (show ¬ 0<a1 from ha),Bh] at ak
  rw [dF ha,Aa,r0A ak]
  rfl
theorem r3E {W:List (Int×Int)} {x:Int×Int} (hl:W.length≤1000000) :
  iter w1B (W,(W.length:Int),0,x,())=some (if e7A W x.2<W.length then .inr (W,(e7A W x.2:Int),x,()) else .inl (W,x,())):=by
 exact u1C (f:=w1B) W (fun w=>decide (w.2<x.2)) (fun i=>(W,(W.length:Int),(i:Int),x,())) (fun i=>.inr (W,(i:Int),x,())) (.inl (W,x,())) (by
  intro i a hi
  have:=g1A hi
  have ws:IntKind.i64.wrap ((i:Int)+1)=((i+1:Nat):Int):=by rw [b8A (by omega) (by omega)]; rfl
  simp (disch:=omega) only [w1B,dT,wT,Ao,gD hi,ws]
  cases decide (a.2<x.2) <;> rfl) (by simp (disch:=omega) only [w1B,dF])
variable {s e h p u l n a1 a2 a3 a4:Int} {W:List (Int×Int)} {M:List Int}
theorem l6E {f:FlT} {a1 a2 a3 a4:Int}:k7A f (3,a1,a2,a3,a4)=(in0 a2 7&&(decide (0<a1)&&decide (a1≤1073741824))):=rfl
set_option maxHeartbeats 4000000 in
theorem l7E (hW:W.length≤1000) (hM:M.length≤1000):n3A (s,e,h,p,u,l,n,W,M) (3,a1,a2,a3,a4)=some (doR (s,e,h,p,u,l,n,W,M) (3,a1,a2,a3,a4)):=by
  have c1:=g0B (s,e,h,p,u,l,n,W,M) (show M.length≤1000000 by omega) (show W.length≤1000000 by omega)
  have ak:=l6E (f:=(s,e,h,p,u,l,n,W,M)) (a1:=a1) (a2:=a2) (a3:=a3) (a4:=a4)
  unfold n3A
  dsimp only
  rw [f8B (by omega),Aa,f9B (by omega),Aa,dF (by decide),dF (by decide),dT rfl,c1,Aa]
  rw [eF (by decide),eT rfl,c5B]
  cases hf:f5A (s,e,h,p,u,l,n,W,M) with
  | false=>rw [q7B hf]; rfl
  | true =>
  rw [Al,h0C,Aa]
  cases hq:in0 a2 7 with
  | false =>
    rw [hq,Bh] at ak
    rw [r0A ak]; rfl
  | true =>
  rw [hq,Cs] at ak
  rw [Al]
  by_cases ha:¬ a1>0
  · rw [Am (show ¬ 0<a1 from ha),Bh] at ak
    rw [dF ha,Aa,r0A ak]
    rfl
  have ha:=Decidable.of_not_not ha
  rw [dT ha,Aa]
  dsimp only
  by_cases hb:¬ a1≤1073741824
  · rw [Am hb,Bw] at ak
    rw [Am hb,r0A ak]
    rfl
  have hb:=Decidable.of_not_not hb
  rw [Ah hb,Ah (show 0<a1 from ha)] at ak
  rw [Ah hb,Cc,Ai,k9B hf ak]
  have o:=h0A.1 hf
  have hW4:=o.W4
  rw [m1D (f:=(s,e,h,p,u,l,n,W,M)) (x:=a1) (show W.length≤1000000 by omega),Aa,u3C (f:=(s,e,h,p,u,l,n,W,M)) (x:=a1) (show M.length≤1000000 by omega) o.Ms,Aa]
  dsimp only
  have we:IntKind.i64.wrap (e+1)=e+1:=by have:=o.e0; have:=o.e1; exact b8A (by omega) (by omega)
  have wn:IntKind.i64.wrap (n+12)=n+12:=by have:=o.n0; have:=o.n1; exact b8A (by omega) (by omega)
  have wm:IntKind.i64.wrap (n+60)=n+60:=by have:=o.n0; have:=o.n1; exact b8A (by omega) (by omega)
  have dp:doP (s,e,h,p,u,l,n,W,M) (3,a1,a2,a3,a4)=k6B a1 a2 (s,e,h,p,u,l,n,W,M):=rfl
  rw [dp]
  unfold k6B
  dsimp only
  have rm:∀ d:Dc,c6A 32 (([]:List Dc)++[d]).length=true:=fun _=>rfl
  by_cases hm:a1∈M
  · rw [Ah hm,Cc,Ai,Ae (show ¬ (a1 ∉ M) from fun q=>q hm)]
    by_cases hs0:s=0
    · rw [eT hs0,Aj hs0,we,wn,wm]
      rfl
    rw [eF hs0,Ae hs0]
    by_cases hh:h=a1
    · rw [eT hh,Aa,Aj hh]
      dsimp only
      by_cases hs1:s=1
      · rw [Aj hs1,eT hs1]
        rfl
      · rw [Ae hs1,eF hs1,eT hh]
        rfl
    · rw [eF hh,Aa,Ae hh]
      dsimp only
      rw [Ai,eF hh]
      by_cases hk:j0A W a1<W.length
      · rw [Aj hk,Aj hk,dT (by omega),b8A (by omega) (by omega)]
        rfl
      · rw [Ae hk,Ae hk,dF (by omega)]
        by_cases h4:4≤W.length
        · rw [Aj h4,dT (by omega)]
          rfl
        · rw [Ae h4,dF (by omega),r3E (by omega),Aa]
          have fin:((e7C W (e7A W a2:Int) [(a1,a2)]).bind fun y30 =>
      bif c6A 32 (([]:List Dc)++[(7,(a1,(0,IntKind.i64.wrap ((e7A W a2:Int)+1))))]).length then
      (bif (s==1) then
      some ((a1,a2),(decide (p<a2)),((s,(e,(h,(p,(u,(l,(n,(y30,M)))))))),((3,(a1,(a2,(a3,a4)))),(([]:List Dc)++[(7,(a1,(0,IntKind.i64.wrap ((e7A W a2:Int)+1))))]))),())
      else
      some ((a1,a2),false,((s,(e,(h,(p,(u,(l,(n,(y30,M)))))))),((3,(a1,(a2,(a3,a4)))),(([]:List Dc)++[(7,(a1,(0,IntKind.i64.wrap ((e7A W a2:Int)+1))))]))),()):Option ((Int×Int)×Bool×(FlT×(Int×Int×Int×Int×Int)×List Dc)×Unit)).bind fun j31 =>
      bif j31.2.1 then
      bif c6A 32 (j31.2.2.1.2.2++[(8,(j31.2.2.1.1.2.2.1,(j31.2.2.1.1.2.1,0)))]).length then
      some ((2,j31.2.2.1.1.2),((j31.2.2.1.2.2++[(8,(j31.2.2.1.1.2.2.1,(j31.2.2.1.1.2.1,0)))]),0))
      else none
      else
      some (j31.2.2.1.1,(j31.2.2.1.2.2,0))
      else none:Option (FlT×List Dc×Int)) =
            some ((if s=1∧p<a2 then (((2,e,h,p,u,l,n,W.take (e7A W a2)++(a1,a2)::W.drop (e7A W a2),M),[(7,a1,0,(e7A W a2:Int)+1),(8,h,e,0)]):FlT×List Dc)
              else ((s,e,h,p,u,l,n,W.take (e7A W a2)++(a1,a2)::W.drop (e7A W a2),M),[(7,a1,0,(e7A W a2:Int)+1)])).1,
              (if s=1∧p<a2 then (((2,e,h,p,u,l,n,W.take (e7A W a2)++(a1,a2)::W.drop (e7A W a2),M),[(7,a1,0,(e7A W a2:Int)+1),(8,h,e,0)]):FlT×List Dc)
              else ((s,e,h,p,u,l,n,W.take (e7A W a2)++(a1,a2)::W.drop (e7A W a2),M),[(7,a1,0,(e7A W a2:Int)+1)])).2,0):=by
            have hi:e7A W a2≤W.length:=List.findIdx_le_length
            unfold e7C
            rw [m0D hi (by simp) (by simp; omega),Aa,b8A (by omega) (by omega),rm,Al]
            by_cases hs1:s=1
            · rw [eT hs1,Aa]
              dsimp only
              by_cases hp:p<a2
              · rw [Ah hp,Aj ⟨hs1,hp⟩]
                rfl
              · rw [Am hp,Ae fun q=>hp q.2]
                rfl
            · rw [eF hs1,Aa,Ae fun q=>hs1 q.1]
              rfl
          by_cases hsl:e7A W a2<W.length
          · rw [Aj hsl]
            dsimp only
            rw [Aa]
            dsimp only
            rw [dF (by omega),Aa]
            exact fin
          · rw [Ae hsl]
            dsimp only
            rw [Aa]
            dsimp only
            rw [dT (by decide),Aa]
            have hi:e7A W a2=W.length:=Nat.le_antisymm List.findIdx_le_length (by omega)
            rw [hi] at fin
            rw [hi]
            exact fin
  · rw [Am hm,Cr,Al,Aj hm]
    rfl
theorem l8E {a1 a2 a3 a4:Int}:k7A (s,e,h,p,u,l,n,W,M) (6,a1,a2,a3,a4)=(decide (n≤a4)&&decide (a4≤1099511627776)):=rfl
set_option maxHeartbeats 4000000 in
theorem l9E (hW:W.length≤1000) (hM:M.length≤1000):n3A (s,e,h,p,u,l,n,W,M) (6,a1,a2,a3,a4)=some (doR (s,e,h,p,u,l,n,W,M) (6,a1,a2,a3,a4)):=by
 have c1:=g0B (s,e,h,p,u,l,n,W,M) (show M.length≤1000000 by omega) (show W.length≤1000000 by omega)
 have ak:=l8E (s:=s) (e:=e) (h:=h) (p:=p) (u:=u) (l:=l) (n:=n) (W:=W) (M:=M) (a1:=a1) (a2:=a2) (a3:=a3) (a4:=a4)
 unfold n3A
 dsimp only
 rw [f8B (by omega),Aa,f9B (by omega),Aa,dF (by decide),dF (by decide),dF (by decide),dF (by decide),dF (by decide),dT rfl,c1,Aa]
 rw [eT rfl,c5B]
 cases hf:f5A (s,e,h,p,u,l,n,W,M) with
 | false=>rw [q7B hf]; rfl
 | true =>
 rw [Al]
 by_cases ha:¬ a4≥n
 ·rw [Am (show ¬ n≤a4 from ha),Bh] at ak
  rw [dF ha,Aa,r0A ak]
  rfl
 have ha:=Decidable.of_not_not ha
 rw [dT ha,Aa]
 dsimp only
 by_cases hb:¬ a4≤1099511627776
 ·rw [Am hb,Bw] at ak
  rw [Am hb,r0A ak]
  rfl
 have hb:=Decidable.of_not_not hb
 rw [Ah hb,Ah (show n≤a4 from ha)] at ak
 rw [Ah hb,Cc,Ai,k9B hf ak]
 have o:=h0A.1 hf
 have hW4:=o.W4
 have hn0:=o.n0
 have we:IntKind.i64.wrap (e+1)=e+1:=by have:=o.e0; have:=o.e1; exact b8A (by omega) (by omega)
 have wn:IntKind.i64.wrap (a4+12)=a4+12:=b8A (by omega) (by omega)
 have wm:IntKind.i64.wrap (a4+60)=a4+60:=b8A (by omega) (by omega)
 have wl:IntKind.i64.wrap (l+3)=l+3:=by have:=o.l0; have:=o.l1; exact b8A (by omega) (by omega)
 have dp:doP (s,e,h,p,u,l,n,W,M) (6,a1,a2,a3,a4)=k8B a4 (s,e,h,p,u,l,n,W,M):=rfl
 rw [dp,wl]
 unfold k8B
 dsimp only
 by_cases hs1:s=1
 ·subst hs1
  rw [eT rfl]
  by_cases ho:l+3≤a4
  ·rw [dT (show a4≥l+3 from ho),Aa,Ah (show a4≥l+3 from ho),Aj ⟨rfl,.inl ho⟩,Aj ho]
   cases W with
   | nil=>rfl
   | cons w W =>
    have hd:(((w::W).drop 1).take (((W.length+1:Nat):Int).toNat - 1))=W:=by
     show W.take (((W.length+1:Nat):Int).toNat - 1)=W
     exact Bn (by omega)
    dsimp only
    rw [Al,show c6A 32 (([]:List Dc)++[((8:Int),(h,(e,(0:Int))))]).length=true from rfl,Al,Aa]
    dsimp only
    rw [eT rfl,Aa]
    dsimp only
    simp only [Be] at hW4 ⊢
    rw [Al,dT (by omega),wT (by omega) (by omega),gT (by omega) (by omega) (by omega),we,wn,wm,hd]
    rfl
  ·rw [dF (show ¬ a4≥l+3 from ho),Aa,Am (show ¬ a4≥l+3 from ho)]
   dsimp only
   by_cases hu:u≤a4
   ·rw [Ah (show a4≥u from hu),Aj ⟨rfl,.inr hu⟩,Ae ho]
    rfl
   ·rw [Am (show ¬ a4≥u from hu),Ae (fun q=>by omega),Ae (fun q=>by omega)]
    rfl
 ·rw [eF hs1,Aa,Ae fun q=>hs1 q.1]
  dsimp only
  rw [Ai,Aa]
  dsimp only
  by_cases hs2:s=2
  ·subst hs2
   rw [eT rfl,Aa]
   by_cases ho:l+3≤a4
   ·rw [Ah (show a4≥l+3 from ho),Aj ⟨rfl,ho⟩]
    cases W with
    | nil=>rfl
    | cons w W =>
     have hd:(((w::W).drop 1).take (((W.length+1:Nat):Int).toNat - 1))=W:=by
      show W.take (((W.length+1:Nat):Int).toNat - 1)=W
      exact Bn (by omega)
     dsimp only
     simp only [Be] at hW4 ⊢
     rw [Al,dT (by omega),wT (by omega) (by omega),gT (by omega) (by omega) (by omega),we,wn,wm,hd]
     rfl
   ·rw [Am (show ¬ a4≥l+3 from ho),Ae fun q=>ho q.2]
    rfl
  ·rw [eF hs2,Aa,Ae fun q=>hs2 q.1]
   rfl
set_option maxHeartbeats 4000000 in
theorem m0E {a0:Int} (hW:W.length≤1000) (hM:M.length≤1000) (h0:a0<1∨6<a0):n3A (s,e,h,p,u,l,n,W,M) (a0,a1,a2,a3,a4)=some (doR (s,e,h,p,u,l,n,W,M) (a0,a1,a2,a3,a4)):=by
 have ak:k7A (s,e,h,p,u,l,n,W,M) (a0,a1,a2,a3,a4)=false:=by
  unfold k7A in0
  dsimp only
  have:(decide (0≤a0 - 1)&&decide (a0 - 1≤5))=false:=by
   rcases h0 with h0 | h0
   ·rw [Am (by omega)]; rfl
   ·rw [Am (p:=a0 - 1≤5) (by omega),Bw]
  rw [this]; rfl
 unfold n3A
 dsimp only
 rw [f8B (by omega),Aa,f9B (by omega),Aa,dF (by omega),dF (by omega),dF (by omega),dF (by omega),dF (by omega),dF (by omega),eF (by omega),eF (by omega),Aa,r0A ak]
 rfl
theorem m1E {f:FlT} {a:j4A} (hW:f.2.2.2.2.2.2.2.1.length≤1000) (hM:f.2.2.2.2.2.2.2.2.length≤1000):n3A f a=some (doR f a):=by
 obtain ⟨s,e,h,p,u,l,n,W,M⟩:=f
 obtain ⟨a0,a1,a2,a3,a4⟩:=a
 by_cases h0:a0<1∨6<a0
 ·exact m0E hW hM h0
 ·rcases (by omega:a0=1∨a0=2∨a0=3∨a0=4∨a0=5∨a0=6) with rfl | rfl | rfl | rfl | rfl | rfl
  ·exact l1E hW hM
  ·exact l4E hW hM
  ·exact l7E hW hM
  ·exact l5E hW hM
  ·exact l2E hW hM
  ·exact l9E hW hM
variable {s e h p u l n:Int} {W:List (Int×Int)} {M:List Int}
def c6B (f:FlT) (d:Dc):Prop:=
 (d.1=10∧d.2.1=0∨(d.1=5∨d.1=6∨d.1=7∨d.1=8∨d.1=15)∧0<d.2.1∧d.2.1≤1073741824) ∧
 0≤d.2.2.1∧d.2.2.1≤f.2.1∧0≤d.2.2.2∧d.2.2.2≤4 ∧
 (d.1=5→f.1=1∧f.2.1=d.2.2.1∧f.2.2.1=d.2.1)
structure DoK (f:FlT) (r:FlT×List Dc):Prop where
 ok:f.2.1<1099511627776→f5A r.1=true
 ep:r.1.2.1≤f.2.1+1
 ep0:f.2.1≤r.1.2.1
 dc:∀ d∈r.2,c6B r.1 d
 len:r.2.length≤2
theorem u4C (W:List (Int×Int)) (x:Int):(unW W x).Sublist W:=List.filter_sublist
theorem FlP.unw (o:FlP s e h p u l n W M) (x:Int):FlP s e h p u l n (unW W x) M:=
 { o with
  W4:=Dz (Cm _ _) o.W4
  Wm:=fun w hw=>o.Wm w ((u4C W x).subset hw)
  Ws:=o.Ws.sublist (u4C W x)
  Wn:=o.Wn.sublist ((u4C W x).map _)
  idle:=fun h0=>by
   obtain ⟨a,b,c,d,q⟩:=o.idle h0
   exact ⟨a,b,c,d,by rw [q]; rfl⟩ }
theorem dcI {f:FlT} (h0:0≤f.2.1):c6B f (10,0,f.2.1,0):=⟨.inl ⟨rfl,rfl⟩,h0,Df _,Df _,by show (0:Int)≤4; decide,fun h=>by cases h⟩
theorem u5C (e0:0≤e) (e1:e≤1099511627776) (n0:0≤n) (n1:n≤1099511627776) (M8:M.length≤8) (W4:W.length≤4) (Mok:okL j9A (·) 0 M=true)
  (Wm:∀ w∈W,w.1∈M∧0≤w.2∧w.2≤7) (Ws:W.Pairwise (fun a b=>b.2≤a.2)) (Wn:(W.map (·.1)).Nodup) (f:FlT) (hf:f.2.1=e):DoK f (onP (s,e,h,p,u,l,n,W,M)):=by
 cases W with
 | nil =>
  refine ⟨fun _=>h0A.2 ⟨Df _,by decide,e0,e1,n0,n1,Df _,by decide,Df _,by decide,M8,W4,Mok,(fun w hw=>by cases hw),Ws,Wn,fun _=>⟨rfl,rfl,rfl,rfl,rfl⟩,fun q=>absurd rfl q⟩,?_,?_,?_,?_⟩
  ·show e≤_; omega
  ·show _≤e; omega
  ·intro d hd
   rw [show d=(10,0,e,0) from Bo.1 hd]
   exact dcI (f:=(0,e,0,0,0,0,n,[],M)) e0
  ·show 1≤2; decide
 | cons w W =>
  have hw:=Wm w Ax
  have hM:=(z6A Mok).2 w.1 hw.1
  have hn:=List.nodup_cons.1 Wn
  refine ⟨fun he=>h0A.2 ⟨by decide,by decide,by omega,by omega,n0,n1,by omega,by omega,by omega,by omega,M8,?_,Mok,?_,(List.pairwise_cons.1 Ws).2,hn.2,fun q=>absurd q (by decide),fun _=>⟨hw.1,hw.2.1,hw.2.2,by omega⟩⟩,?_,?_,?_,?_⟩
  ·rw [Be] at W4; omega
  ·intro x hx
   obtain ⟨a,b,c⟩:=Wm x (Bb _ hx)
   exact ⟨a,fun q=>hn.1 (List.mem_map.2 ⟨x,hx,q⟩),b,c⟩
  ·show e+1≤_; omega
  ·show _≤e+1; omega
  ·intro d hd
   rw [show d=(5,w.1,e+1,0) from Bo.1 hd]
   exact ⟨.inr ⟨.inl rfl,hM.1,hM.2⟩,by show 0≤e+1; omega,Df _,Df _,by show (0:Int)≤4; decide,fun _=>⟨rfl,rfl,rfl⟩⟩
  ·show 1≤2; decide
theorem n6A {f g:FlT} {ds:List Dc} (h1:f.2.1<1099511627776→f5A g=true) (h2:g.2.1=f.2.1) (h3:∀ d∈ds,c6B g d) (h4:ds.length≤2):DoK f (g,ds):=
 ⟨h1,by show g.2.1≤_; omega,by show _≤g.2.1; omega,h3,h4⟩
theorem dc1 {f:FlT} {d:Dc} (h:c6B f d):∀ d'∈[d],c6B f d':=fun d' hd=>by rw [Bo.1 hd]; exact h
theorem dcN {f:FlT} {k x ep q:Int} (hk:k=6∨k=7∨k=8∨k=15) (h0:0<x) (h1:x≤1073741824) (h2:0≤ep) (h3:ep≤f.2.1) (h4:0≤q) (h5:q≤4):c6B f (k,x,ep,q):=
 ⟨.inr ⟨.inr hk,h0,h1⟩,h2,h3,h4,h5,fun h=>by have h:k=5:=h; omega⟩
theorem m2E {x:Int} (h0:0<x) (h1:x≤1073741824) (Mok:okL j9A (·) 0 M=true) (hx:x ∉ M):okL j9A (·) 0 (d9A x M)=true:=by
 have hs:=z6A Mok
 refine g8C (t4C hs.1 hx) fun y hy => ?_
 rcases c3B.1 hy with rfl | hy
 ·exact ⟨h0,h1⟩
 ·exact hs.2 y hy
theorem m3E {x:Int} (o:FlP s e h p u l n W M) (h0:0<x) (h1:x≤1073741824):DoK (s,e,h,p,u,l,n,W,M) (k4B x (s,e,h,p,u,l,n,W,M)):=by
 have e0:=o.e0
 unfold k4B
 dsimp only
 by_cases hx:x∈M
 ·rw [Aj hx]
  exact n6A (fun _=>h0A.2 o) rfl (dc1 (dcN (by omega) h0 h1 e0 (Df _) (by decide) (by decide))) (by simp)
 ·rw [Ae hx]
  by_cases h8:8≤M.length
  ·rw [Aj h8]
   exact n6A (fun _=>h0A.2 o) rfl (dc1 (dcN (by omega) h0 h1 (by decide) e0 (by decide) (by decide))) (by simp)
  ·rw [Ae h8]
   refine n6A (fun _=>h0A.2 { o with M8 := ?_,Mok:=m2E h0 h1 o.Mok hx,Wm := ?_,busy := ?_ }) rfl (dc1 (dcN (by omega) h0 h1 e0 (Df _) (by decide) (by decide))) (by simp)
   ·rw [x3B]; omega
   ·intro w hw
    obtain ⟨a,b⟩:=o.Wm w hw
    exact ⟨c3B.2 (.inr a),b⟩
   ·intro hs
    obtain ⟨a,b⟩:=o.busy hs
    exact ⟨c3B.2 (.inr a),b⟩
theorem m4E {x:Int} (o:FlP s e h p u l n W M):DoK (s,e,h,p,u,l,n,W,M) (q9A x (s,e,h,p,u,l,n,W,M)):=by
 unfold q9A
 dsimp only
 have q:=o.unw x
 by_cases hh:h=x
 ·rw [Aj hh]
  exact u5C q.e0 q.e1 q.n0 q.n1 q.M8 q.W4 q.Mok (fun w hw=>by obtain ⟨a,_,b⟩:=q.Wm w hw; exact ⟨a,b⟩) q.Ws q.Wn _ rfl
 ·rw [Ae hh]
  exact n6A (fun _=>h0A.2 q) rfl (fun d hd=>by cases hd) (by simp)
theorem m5E {x:Int} (o:FlP s e h p u l n W M) (h0:0<x):DoK (s,e,h,p,u,l,n,W,M) (k5B x (s,e,h,p,u,l,n,W,M)):=by
 unfold k5B
 dsimp only
 by_cases hx:x∈M
 ·rw [Aj hx]
  unfold q9A
  dsimp only
  have q:=o.unw x
  have Mk:okL j9A (·) 0 (M.filter (fun y=>!(y==x)))=true:=g8C ((z6A o.Mok).1.sublist List.filter_sublist) fun y hy=>(z6A o.Mok).2 y ((Dd.1 hy).1)
  have Ml:(M.filter (fun y=>!(y==x))).length≤8:=Dz (Cm _ _) o.M8
  have Wk:∀ w∈unW W x,w.1∈M.filter (fun y=>!(y==x)):=fun w hw=>Dd.2 ⟨(q.Wm w hw).1,(Dd.1 hw).2⟩
  by_cases hh:h=x
  ·rw [Aj hh]
   exact u5C q.e0 q.e1 q.n0 q.n1 Ml q.W4 Mk (fun w hw=>by obtain ⟨a,_,b⟩:=q.Wm w hw; exact ⟨Wk w hw,b⟩) q.Ws q.Wn _ rfl
  ·rw [Ae hh]
   refine n6A (fun _=>h0A.2 { q with M8:=Ml,Mok:=Mk,Wm := ?_,busy := ?_ }) rfl (fun d hd=>by cases hd) (by simp)
   ·intro w hw
    exact ⟨Wk w hw,(q.Wm w hw).2⟩
   ·intro hs
    obtain ⟨a,b⟩:=q.busy hs
    exact ⟨Dd.2 ⟨a,by rw [Bg hh]; rfl⟩,b⟩
 ·rw [Ae hx]
  exact n6A (fun _=>h0A.2 o) rfl (fun d hd=>by cases hd) (by simp)
theorem m6E {x ep:Int} (o:FlP s e h p u l n W M):DoK (s,e,h,p,u,l,n,W,M) (k7B x ep (s,e,h,p,u,l,n,W,M)):=by
 unfold k7B
 dsimp only
 have n0:=o.n0
 have n1:=o.n1
 by_cases hh:s=1∧h=x∧e=ep
 ·rw [Aj hh]
  exact n6A (fun _=>h0A.2 { o with l0:=by omega,l1:=by omega,idle:=fun q=>by omega }) rfl (fun d hd=>by cases hd) (by simp)
 ·rw [Ae hh]
  exact n6A (fun _=>h0A.2 o) rfl (fun d hd=>by cases hd) (by simp)
theorem m7E {x q:Int} (o:FlP s e h p u l n W M) (hs:s≠0) (hm:x∈M) (hh:h≠x) (h0:0≤q) (h7:q≤7) (hw:¬ j0A W x<W.length) (h4:¬ 4≤W.length) :
  FlP s e h p u l n (W.take (e7A W q)++(x,q)::W.drop (e7A W q)) M:=by
 have hin:∀ w,w∈W.take (e7A W q)++(x,q)::W.drop (e7A W q)→w=(x,q)∨w∈W:=by
  intro w hw
  rcases Ck.1 hw with hw | hw
  ·exact .inr (List.mem_of_mem_take hw)
  ·rcases Bf.1 hw with hw | hw
   ·exact .inl hw
   ·exact .inr (List.mem_of_mem_drop hw)
 have before:∀ w∈W.take (e7A W q),q≤w.2:=by
  intro w hw
  obtain ⟨j,hj,rfl⟩:=List.mem_iff_getElem.1 hw
  rw [Ap] at hj
  rw [List.getElem_take]
  have:=List.not_of_lt_findIdx (p:=fun w:Int×Int=>decide (w.2<q)) (xs:=W) (i:=j) (by show j<e7A W q; omega)
  simp only [Ee] at this
  omega
 have behind:∀ w∈W.drop (e7A W q),w.2≤q:=by
  intro w hw
  obtain ⟨j,hj,rfl⟩:=List.mem_iff_getElem.1 hw
  rw [Ar] at hj
  rw [List.getElem_drop]
  have hlt:e7A W q<W.length:=by omega
  have h1:=List.findIdx_getElem (p:=fun w:Int×Int=>decide (w.2<q)) (xs:=W) (w:=hlt)
  simp only [Au] at h1
  have h1:(W[e7A W q]'hlt).2<q:=h1
  by_cases hj0:j=0
  ·subst hj0
   simp only [Dx]
   omega
  ·have:=List.pairwise_iff_getElem.1 o.Ws (e7A W q) (e7A W q+j) hlt (by omega) (by omega)
   omega
 have nx:x ∉ W.map (·.1):=by
  intro hx
  obtain ⟨w,hw1,hw2⟩:=List.mem_map.1 hx
  exact hw (List.findIdx_lt_length_of_exists ⟨w,hw1,by simp [hw2]⟩)
 refine { o with W4 := ?_,Wm := ?_,Ws := ?_,Wn := ?_,idle:=fun q=>absurd q hs }
 ·simp only [Ak,Be,Ap,Ar]; omega
 ·intro w hw
  rcases hin w hw with rfl | hw
  ·exact ⟨hm,fun z=>hh z.symm,h0,h7⟩
  ·exact o.Wm w hw
 ·refine List.pairwise_append.2 ⟨o.Ws.sublist (List.take_sublist _ _),List.pairwise_cons.2 ⟨behind,o.Ws.sublist (List.drop_sublist _ _)⟩,fun a ha b hb => ?_⟩
  rcases Bf.1 hb with rfl | hb
  ·exact before a ha
  ·exact Int.le_trans (behind b hb) (before a ha)
 ·have hp:((W.take (e7A W q)++(x,q)::W.drop (e7A W q)).map (·.1)).Perm (((x,q)::W).map (·.1)):=by
   refine List.Perm.map _ ?_
   refine List.perm_middle.trans ?_
   rw [Dt]
  exact hp.nodup_iff.2 (List.nodup_cons.2 ⟨nx,o.Wn⟩)
theorem m8E {x q:Int} (o:FlP s e h p u l n W M) (h0:0<x) (h1:x≤1073741824) (q0:0≤q) (q7:q≤7):DoK (s,e,h,p,u,l,n,W,M) (k6B x q (s,e,h,p,u,l,n,W,M)):=by
 have e0:=o.e0
 have e1:=o.e1
 have n0:=o.n0
 have n1:=o.n1
 have W4:=o.W4
 unfold k6B
 dsimp only
 by_cases hx:x∈M
 ·rw [Ae (show ¬ (x ∉ M) from fun z=>z hx)]
  by_cases hs0:s=0
  ·rw [Aj hs0]
   refine ⟨fun he=>h0A.2 { o with s0:=by decide,s2:=by decide,e0:=by omega,e1 := ?_,u0:=by omega,u1:=by omega,l0:=by omega,l1:=by omega,Wm := ?_,idle:=fun z=>absurd z (by decide),busy:=fun _=>⟨hx,q0,q7,by omega⟩ },Df _,by show e≤e+1; omega,dc1 ⟨.inr ⟨.inl rfl,h0,h1⟩,by show 0≤e+1; omega,Df _,Df _,by show (0:Int)≤4; decide,fun _=>⟨rfl,rfl,rfl⟩⟩,by show 1≤2; decide⟩
   ·have he:e<1099511627776:=he
    omega
   ·intro w hw
    rw [(o.idle hs0).2.2.2.2] at hw
    cases hw
  ·rw [Ae hs0]
   by_cases hh:h=x
   ·rw [Aj hh]
    by_cases hs1:s=1
    ·rw [Aj hs1]
     exact n6A (fun _=>h0A.2 o) rfl (dc1 ⟨.inr ⟨.inl rfl,h0,h1⟩,e0,Df _,Df _,by show (0:Int)≤4; decide,fun _=>⟨hs1,rfl,hh⟩⟩) (by simp)
    ·rw [Ae hs1]
     exact n6A (fun _=>h0A.2 o) rfl (dc1 (dcN (by omega) h0 h1 e0 (Df _) (by decide) (by decide))) (by simp)
   ·rw [Ae hh]
    by_cases hk:j0A W x<W.length
    ·rw [Aj hk]
     exact n6A (fun _=>h0A.2 o) rfl (dc1 (dcN (by omega) h0 h1 (by decide) e0 (by omega) (by omega))) (by simp)
    ·rw [Ae hk]
     by_cases h4:4≤W.length
     ·rw [Aj h4]
      exact n6A (fun _=>h0A.2 o) rfl (dc1 (dcN (by omega) h0 h1 (by decide) e0 (by decide) (by decide))) (by simp)
     ·rw [Ae h4]
      have hq:=m7E o hs0 hx hh q0 q7 hk h4
      have hsl:e7A W q≤W.length:=List.findIdx_le_length
      by_cases hp:s=1∧p<q
      ·rw [Aj hp]
       have hb:=o.busy hs0
       have hhM:=o.Mpos h hb.1
       refine n6A (fun _=>h0A.2 { hq with s0:=by decide,s2:=by decide,idle:=fun z=>absurd z (by decide),busy:=fun _=>hb }) rfl ?_ (by simp)
       intro d hd
       rcases Bf.1 hd with rfl | hd
       ·exact dcN (by omega) h0 h1 (by decide) e0 (by omega) (by omega)
       ·rw [Bo.1 hd]
        exact dcN (by omega) hhM.1 hhM.2 e0 (Df _) (by decide) (by simp)
      ·rw [Ae hp]
       exact n6A (fun _=>h0A.2 hq) rfl (dc1 (dcN (by omega) h0 h1 (by decide) e0 (by omega) (by omega))) (by simp)
 ·rw [Aj hx]
  exact n6A (fun _=>h0A.2 o) rfl (dc1 (dcN (by omega) h0 h1 (by decide) e0 (by decide) (by decide))) (by simp)
theorem m9E {f g:FlT} {x:Int} (o:DoK f (onP g)) (hx:0<x) (hx1:x≤1073741824) (he:0≤f.2.1) (h1:(onP g).2.length≤1):DoK f ((onP g).1,(8,x,f.2.1,0)::(onP g).2):=
 ⟨o.ok,o.ep,o.ep0,fun d hd=>by
  rcases Bf.1 hd with rfl | hd
  ·exact dcN (by omega) hx hx1 he o.ep0 (by decide) (by simp)
  ·exact o.dc d hd,by show _+1≤2; omega⟩
theorem n0E (f:FlT):(onP f).2.length≤1:=by
 obtain ⟨s,e,h,p,u,l,n,W,M⟩:=f
 cases W <;> exact Ay 1
theorem n1E {t:Int} (o:FlP s e h p u l n W M) (h0:n≤t) (h1:t≤1099511627776):DoK (s,e,h,p,u,l,n,W,M) (k8B t (s,e,h,p,u,l,n,W,M)):=by
 have n0:=o.n0
 unfold k8B
 dsimp only
 have on:∀ s',DoK (s,e,h,p,u,l,n,W,M) (onP (s',e,h,p,u,l,t,W,M)):=fun s'=>u5C o.e0 o.e1 (by omega) h1 o.M8 o.W4 o.Mok (fun w hw=>by obtain ⟨a,_,b⟩:=o.Wm w hw; exact ⟨a,b⟩) o.Ws o.Wn _ rfl
 have ot:FlP s e h p u l t W M:={ o with n0:=by omega,n1:=h1 }
 by_cases hc:s=1∧(l+3≤t∨u≤t)
 ·rw [Aj hc]
  have hb:=o.busy (by omega)
  have hhM:=o.Mpos h hb.1
  by_cases ho:l+3≤t
  ·rw [Aj ho]
   exact m9E (f:=(s,e,h,p,u,l,n,W,M)) (on 2) hhM.1 hhM.2 o.e0 (n0E _)
  ·rw [Ae ho]
   exact n6A (fun _=>h0A.2 { ot with s0:=by decide,s2:=by decide,idle:=fun z=>absurd z (by decide),busy:=fun _=>hb }) rfl (dc1 (dcN (by omega) hhM.1 hhM.2 o.e0 (Df _) (by decide) (by decide))) (by simp)
 ·rw [Ae hc]
  by_cases h2:s=2∧l+3≤t
  ·rw [Aj h2]
   exact on s
  ·rw [Ae h2]
   exact n6A (fun _=>h0A.2 ot) rfl (fun d hd=>by cases hd) (by simp)
theorem q8B {f:FlT} {a:j4A} (h1:f5A f=true) (h2:k7A f a=true):DoK f (doP f a):=by
 obtain ⟨s,e,h,p,u,l,n,W,M⟩:=f
 obtain ⟨a0,a1,a2,a3,a4⟩:=a
 have o:=h0A.1 h1
 unfold k7A in0 at h2
 rw [Ac,Ac,Au,Au] at h2
 obtain ⟨⟨b1,b2⟩,h2⟩:=h2
 unfold doP
 dsimp only at b1 b2 h2 ⊢
 by_cases e6:a0=6
 ·subst e6
  rw [Ae (by decide),Ae (by decide),Ae (by decide),Ae (by decide),Ae (by decide)]
  simp only [Dq,Al,Ac,Au] at h2
  exact n1E o h2.1 h2.2
 ·rw [show (a0==6)=false from Bg e6,Ai,Ac,Ac,Au,Au] at h2
  obtain ⟨h2,c1,c2⟩:=h2
  rcases (by omega:a0=1∨a0=2∨a0=3∨a0=4∨a0=5) with rfl | rfl | rfl | rfl | rfl
  ·rw [Aj rfl]
   exact m3E o c1 c2
  ·rw [Ae (by decide),Aj rfl]
   exact m5E o c1
  ·rw [Ae (by decide),Ae (by decide),Aj rfl]
   simp only [Dq,Al,Ac,Au] at h2
   exact m8E o c1 c2 h2.1 h2.2
  ·rw [Ae (by decide),Ae (by decide),Ae (by decide),Aj rfl]
   exact m4E o
  ·rw [Ae (by decide),Ae (by decide),Ae (by decide),Ae (by decide),Aj rfl]
   exact m6E o
theorem u6C (f:FlT):(onP f).1.2.2.2.2.2.2.1=f.2.2.2.2.2.2.1:=by
 obtain ⟨s,e,h,p,u,l,n,W,M⟩:=f
 cases W <;> rfl
theorem m4D {f:FlT} {a:j4A} (h1:1≤a.1) (h6:a.1≤6):(doP f a).1.2.2.2.2.2.2.1=if a.1=6 then a.2.2.2.2 else f.2.2.2.2.2.2.1:=by
 obtain ⟨s,e,h,p,u,l,n,W,M⟩:=f
 obtain ⟨a0,a1,a2,a3,a4⟩:=a
 have rel:∀ W M,(q9A a1 (s,e,h,p,u,l,n,W,M)).1.2.2.2.2.2.2.1=n:=by
  intro W M
  unfold q9A
  dsimp only
  split
  ·exact u6C _
  ·rfl
 unfold doP
 dsimp only at h1 h6 ⊢
 rcases (by omega:a0=1∨a0=2∨a0=3∨a0=4∨a0=5∨a0=6) with rfl | rfl | rfl | rfl | rfl | rfl
 ·rw [Aj rfl,Ae (by decide)]
  unfold k4B
  dsimp only
  split
  ·rfl
  ·split <;> rfl
 ·rw [Ae (by decide),Aj rfl,Ae (by decide)]
  unfold k5B
  dsimp only
  split
  ·exact rel _ _
  ·rfl
 ·rw [Ae (by decide),Ae (by decide),Aj rfl,Ae (by decide)]
  unfold k6B
  dsimp only
  repeat' split
  all_goals rfl
 ·rw [Ae (by decide),Ae (by decide),Ae (by decide),Aj rfl,Ae (by decide)]
  exact rel _ _
 ·rw [Ae (by decide),Ae (by decide),Ae (by decide),Ae (by decide),Aj rfl,Ae (by decide)]
  unfold k7B
  dsimp only
  split <;> rfl
 ·rw [Ae (by decide),Ae (by decide),Ae (by decide),Ae (by decide),Ae (by decide),Aj rfl]
  unfold k8B
  dsimp only
  split
  ·split
   ·exact u6C _
   ·rfl
  ·split
   ·exact u6C _
   ·rfl
def a5A {V:Type} (x:Int):List (Int×V)→Option V
 | []=>none
 | a::l=>if a.1=x then some a.2 else a5A x l
def g0A {V:Type} (x:Int) (v:V):List (Int×V)→List (Int×V)
 | []=>[]
 | a::l=>if a.1=x then (a.1,v)::l else a::g0A x v l
def n7A {V:Type} (x:Int) (v:V):List (Int×V)→List (Int×V)
 | []=>[(x,v)]
 | a::l=>if a.1<x then a::n7A x v l else (x,v)::a::l
abbrev j5A {V:Type} (l:List (Int×V)):Prop:=l.Pairwise (fun a b=>a.1<b.1)
theorem n8A {V:Type} {x:Int} {v:V}:∀ {l:List (Int×V)},a5A x l=some v→(x,v)∈l
 | [],h=>by cases h
 | a::l,h=>by
  unfold a5A at h
  by_cases e:a.1=x
  ·rw [Aj e] at h
   rw [←Bp h,←e]; exact Ax
  ·rw [Ae e] at h
   exact Bb _ (n8A h)
theorem g1B {V:Type} {x:Int}:∀ {l:List (Int×V)},a5A x l=none↔∀ a∈l,a.1≠x
 | []=>by simp [a5A]
 | a::l=>by
  unfold a5A
  by_cases e:a.1=x
  ·rw [Aj e]; simp [e]
  ·rw [Ae e,g1B]; simp [e]
theorem c7B {V:Type} {x:Int} {v:V}:∀ {l:List (Int×V)},j5A l→(x,v)∈l→a5A x l=some v
 | [],_,h=>by cases h
 | a::l,hs,h=>by
  have h2:=List.pairwise_cons.1 hs
  unfold a5A
  rcases Bf.1 h with h | h
  ·rw [←h,Aj rfl]
  ·have:=h2.1 _ h
   rw [Ae (by simp only at this; omega),c7B h2.2 h]
theorem l0B {V:Type} {x:Int} {v:V}:∀ {l:List (Int×V)},(g0A x v l).length=l.length
 | []=>rfl
 | a::l=>by
  unfold g0A
  split
  ·rfl
  ·rw [Be,l0B]; rfl
theorem q9B {V:Type} {x:Int} {v:V}:∀ {l:List (Int×V)},(g0A x v l).map (·.1)=l.map (·.1)
 | []=>rfl
 | a::l=>by
  unfold g0A
  split
  ·rfl
  ·rw [List.map_cons,q9B]; rfl
theorem h2C {V:Type} {l:List (Int×V)}:j5A l↔(l.map (·.1)).Pairwise (·<·):=List.pairwise_map.symm
theorem h3C {V:Type} {x:Int} {v:V} {l:List (Int×V)}:j5A (g0A x v l)↔j5A l:=by rw [h2C,q9B,←h2C]
theorem c8B {V:Type} {x y:Int} {v:V}:∀ {l:List (Int×V)},a5A y (g0A x v l)=if x=y then (a5A y l).map (fun _=>v) else a5A y l
 | []=>by simp [g0A,a5A]
 | a::l=>by
  unfold g0A
  by_cases e:a.1=x
  ·rw [Aj e]
   unfold a5A
   by_cases e2:a.1=y
   ·rw [Aj e2,Aj (by omega),Aj e2]; rfl
   ·rw [Ae e2,Ae (by omega),Ae e2]
  ·rw [Ae e]
   unfold a5A
   by_cases e2:a.1=y
   ·rw [Aj e2,Ae (by omega)]
    rw [Aj e2]
   ·rw [Ae e2,c8B]
    rw [Ae e2]
theorem s0F {V:Type} {x:Int} {v:V}:∀ {l:List (Int×V)},a5A x l=some v→g0A x v l=l
 | [],h=>by cases h
 | a::l,h=>by
  unfold a5A at h
  unfold g0A
  by_cases e:a.1=x
  ·rw [Aj e] at h ⊢
   rw [←Bp h]
  ·rw [Ae e] at h ⊢
   rw [s0F h]
theorem w8A {V:Type} {x:Int} {v:V} {b:Int×V}:∀ {l:List (Int×V)},b∈g0A x v l→b∈l∨b=(x,v)
 | [],h=>by cases h
 | a::l,h=>by
  unfold g0A at h
  by_cases e:a.1=x
  ·rw [Aj e] at h
   rcases Bf.1 h with h | h
   ·right; rw [h,e]
   ·exact .inl (Bb _ h)
  ·rw [Ae e] at h
   rcases Bf.1 h with h | h
   ·left; rw [h]; exact Ax
   ·rcases w8A h with h | h
    ·exact .inl (Bb _ h)
    ·exact .inr h
theorem y0B {V:Type} {x:Int} {v:V}:∀ {l:List (Int×V)},(n7A x v l).length=l.length+1
 | []=>rfl
 | a::l=>by
  unfold n7A
  split
  ·rw [Be,y0B]; rfl
  ·rfl
theorem l1B {V:Type} {x:Int} {v:V} {b:Int×V}:∀ {l:List (Int×V)},b∈n7A x v l↔b=(x,v)∨b∈l
 | []=>by simp [n7A]
 | a::l=>by
  unfold n7A
  split
  ·rw [Bf,l1B,Bf]
   constructor
   ·rintro (h | h | h)
    ·exact .inr (.inl h)
    ·exact .inl h
    ·exact .inr (.inr h)
   ·rintro (h | h | h)
    ·exact .inr (.inl h)
    ·exact .inl h
    ·exact .inr (.inr h)
  ·exact Bf
theorem u7C {V:Type} {x:Int} {v:V}:∀ {l:List (Int×V)},j5A l→a5A x l=none→j5A (n7A x v l)
 | [],_,_=>by simp [n7A]
 | a::l,hs,hn=>by
  have h2:=List.pairwise_cons.1 hs
  have hn:=g1B.1 hn
  unfold n7A
  split
  ·refine List.pairwise_cons.2 ⟨fun b hb => ?_,u7C h2.2 (g1B.2 fun b hb=>hn b (Bb _ hb))⟩
   rcases l1B.1 hb with rfl | hb
   ·assumption
   ·exact h2.1 b hb
  ·have:=hn a Ax
   refine List.pairwise_cons.2 ⟨fun b hb => ?_,hs⟩
   rcases Bf.1 hb with rfl | hb
   ·show x<_; omega
   ·have:=h2.1 b hb
    show x<_; omega
theorem y1B {V:Type} {x y:Int} {v:V}:∀ {l:List (Int×V)},a5A x l=none→a5A y (n7A x v l)=if x=y then some v else a5A y l
 | [],_=>by unfold n7A a5A; simp [a5A]
 | a::l,hn=>by
  have hn:=g1B.1 hn
  have ha:=hn a Ax
  unfold n7A
  split
  ·unfold a5A
   rw [y1B (g1B.2 fun b hb=>hn b (Bb _ hb))]
   by_cases e:a.1=y
   ·rw [Aj e,Ae (by omega),Aj e]
   ·rw [Ae e,Ae e]
  ·conv=>lhs; unfold a5A
structure AtT {V:Type} (x:Int) (l:List (Int×V)) (p:Nat):Prop where
 le:p≤l.length
 get:∀ v,a5A x l=some v→l[p]? = some (x,v)
 set:(a5A x l).isSome=true→∀ v,l.set p (x,v)=g0A x v l
 add:a5A x l=none→∀ v,l.take p++([(x,v)]++l.drop p)=n7A x v l
theorem u8C {V:Type} {x:Int}:∀ {l:List (Int×V)} {p:Nat},p≤l.length→j5A l→s6A (·.1) x l p→AtT x l p
 | [],p,hp,_,_=>by
  have:p=0:=Nat.le_zero.1 hp
  subst this
  exact ⟨hp,(fun v h=>by cases h),(fun h=>by cases h),fun _ v=>rfl⟩
 | a::l,0,hp,hs,hc=>by
  have h2:=List.pairwise_cons.1 hs
  have ha:x≤a.1:=hc.2 a (by simp)
  by_cases e:a.1=x
  ·have hg:a5A x (a::l)=some a.2:=Aj e
   refine ⟨hp,fun v h => ?_,fun _ v => ?_,fun h=>by rw [hg] at h; cases h⟩
   ·rw [hg] at h
    rw [←Bp h,←e]; rfl
   ·show (x,v)::l=if a.1=x then (a.1,v)::l else _
    rw [Aj e,e]
  ·have hg:a5A x (a::l)=none:=g1B.2 fun b hb=>by
    rcases Bf.1 hb with rfl | hb
    ·exact e
    ·have:=h2.1 b hb; omega
   refine ⟨hp,fun v h=>(by rw [hg] at h; cases h),fun h=>(by rw [hg] at h; cases h),fun _ v => ?_⟩
   show (x,v)::a::l=if a.1<x then _ else _
   rw [Ae (by omega)]
 | a::l,p+1,hp,hs,hc=>by
  have h2:=List.pairwise_cons.1 hs
  have ha:a.1<x:=hc.1 a (by simp)
  have ih:=u8C (l:=l) (p:=p) (x:=x) (by simpa using hp) h2.2 ⟨fun b hb=>hc.1 b (by simp [hb]),fun b hb=>hc.2 b (by simpa using hb)⟩
  have hg:a5A x (a::l)=a5A x l:=Ae (by omega)
  refine ⟨hp,fun v h => ?_,fun h v => ?_,fun h v => ?_⟩
  ·rw [hg] at h; exact ih.get v h
  ·rw [hg] at h
   show a::l.set p (x,v)=if a.1=x then _ else _
   rw [Ae (by omega),ih.set h v]
  ·rw [hg] at h
   show a::(l.take p++([(x,v)]++l.drop p))=if a.1<x then _ else _
   rw [Aj ha,ih.add h v]
theorem m5D {i j:Nat} (hj:j≤1000000) (hij:i<j):IntKind.i64.wrap (g4A .u64 (IntKind.u64.wrap (IntKind.i64.wrap ((i:Int)+(j:Int)))) 1)=(((i+j) / 2:Nat):Int):=by
 have e1:(i:Int)+(j:Int)=((i+j:Nat):Int):=by omega
 have e2:g4A .u64 ((i+j:Nat):Int) 1=(((i+j) >>> 1:Nat):Int):=s0C (n:=1) (by simp [IntKind.bits])
 have e3:(i+j) >>> 1=(i+j) / 2:=by rw [Nat.shiftRight_eq_div_pow]
 rw [e3] at e2
 rw [e1,b8A (n:=((i+j:Nat):Int)) (by omega) (by omega),c0B (n:=((i+j:Nat):Int)) (by omega) (by omega),e2,b8A (by omega) (by omega)]
theorem m6D {X R V:Type} {f:X→Option (X⊕R)} (l:List (Int×V)) (x:Int) (st:Nat→Nat→X) (fin:Nat→R)
  (h:∀ i j a,i<j→j≤l.length→l[(i+j) / 2]? = some a→f (st i j)=some (.inl (if a.1<x then st ((i+j) / 2+1) j else st i ((i+j) / 2))))
  (he:∀ i,f (st i i)=some (.inr (fin i))) (hs:j5A l) :
  ∃ p,iter f (st 0 l.length)=some (fin p)∧AtT x l p:=by
 have key:∀ (n i j:Nat),j - i≤n→i≤j→j≤l.length→(∀ a∈l.take i,a.1<x)→(∀ a∈l.drop j,x≤a.1)→∃ p,iter f (st i j)=some (fin p)∧p≤l.length∧s6A (·.1) x l p:=by
  intro n
  induction n with
  | zero =>
   intro i j hn hij hj h6 h7
   have:i=j:=by omega
   subst this
   exact ⟨i,m4A (he i),hj,h6,h7⟩
  | succ n ih =>
   intro i j hn hij hj h6 h7
   by_cases hlt:i<j
   ·have hm:(i+j) / 2<l.length:=by omega
    obtain ⟨a,ha⟩:∃ a,l[(i+j) / 2]? = some a:=⟨_,Aq hm⟩
    have hsp:l=l.take ((i+j) / 2)++a::l.drop ((i+j) / 2+1):=by
     rw [←o5A ha,Dt]
    have hs':=hs
    unfold j5A at hs'
    rw [hsp,List.pairwise_append] at hs'
    obtain ⟨_,hs2,hs3⟩:=hs'
    rw [List.pairwise_cons] at hs2
    have hh:=h i j a hlt hj ha
    by_cases h8:a.1<x
    ·rw [Aj h8] at hh
     rw [l5A hh]
     refine ih _ _ (by omega) (by omega) hj (fun b hb => ?_) h7
     rw [m6A ha,Ck,Bo] at hb
     rcases hb with hb | rfl
     ·have:=hs3 b hb a Ax
      omega
     ·exact h8
    ·rw [Ae h8] at hh
     rw [l5A hh]
     refine ih _ _ (by omega) (by omega) (by omega) h6 (fun b hb => ?_)
     rw [o5A ha,Bf] at hb
     rcases hb with rfl | hb
     ·omega
     ·have:=hs2.1 b hb
      omega
   ·have:i=j:=by omega
    subst this
    exact ⟨i,m4A (he i),hj,h6,h7⟩
 obtain ⟨p,h1,h2,h3⟩:=key l.length 0 l.length (by omega) (by omega) (Ay _) (by simp) (by simp)
 exact ⟨p,h1,u8C h2 hs h3⟩
theorem m7D {V:Type} {x:Int} {l:List (Int×V)} {p:Nat} (h:AtT x l p) (hs:j5A l) (d:Int×V):(decide (p<l.length)&&decide ((l.getD p d).1=x))=(a5A x l).isSome:=by
 cases hg:a5A x l with
 | some v =>
  have:=h.get v hg
  rw [gD this,Ah (g1A this)]
  simp
 | none =>
  by_cases hp:p<l.length
  ·obtain ⟨a,ha⟩:∃ a,l[p]? = some a:=⟨_,Aq hp⟩
   have:=g1B.1 hg a (h6A ha)
   rw [gD ha,Am this,Bw]; rfl
  ·rw [Am hp]; rfl
abbrev PeT:=Int×ByteArray×RS
abbrev GrT:=Int×FlT
abbrev SvT:=Int×List GrT×List PeT
abbrev MsT:=Msg
abbrev HlT:=SvT×MsT×List MsT×Int
theorem g2B {l:List PeT} {x:Int} (hl:l.length≤1000000) (hs:j5A l) :
  ∃ p:Nat,k5A l x=some ((p:Int),(a5A x l).isSome)∧AtT x l p:=by
 obtain ⟨p,h1,h2⟩:=m6D (f:=g1C) l x (fun i j=>(l,x,(l.length:Int),(i:Int),(j:Int),())) (fun p=>(l,x,(l.length:Int),(p:Int),())) (by
  intro i j a hij hj ha
  obtain ⟨c,c1,c2,c3⟩:=q4B a.1 x
  have hm:=m5D (show j≤1000000 by omega) hij
  have ws:IntKind.i64.wrap ((((i+j) / 2:Nat):Int)+1)=(((i+j) / 2+1:Nat):Int):=by rw [b8A (by omega) (by omega)]; rfl
  have hlt:=g1A ha
  simp (disch:=omega) only [g1C,dT,hm,wT,Ao,gD ha,u9B,c1,Aa,ws]
  by_cases h:a.1<x
  ·rw [Aj h,Ah (c2.2 h)]; rfl
  ·rw [Ae h,Am (fun q=>h (c2.1 q))]; rfl) (by
  intro i
  simp (disch:=omega) only [g1C,dF]) hs
 refine ⟨p,?_,h2⟩
 unfold k5A
 refine (Cp (fun z=>Option.bind z _) h1).trans ?_
 rw [Aa]
 dsimp only
 rw [←m7D h2 hs (0,(ByteArray.empty,(0,([],[]))))]
 by_cases hpl:p<l.length
 ·obtain ⟨c,c1,c2,c3⟩:=q4B (l.getD p (0,(ByteArray.empty,(0,([],[]))))).1 x
  have e:(c==0)=decide ((l.getD p (0,(ByteArray.empty,(0,([],[]))))).1=x):=by
   by_cases h:c=0
   ·rw [Ah (c3.1 h),h]; rfl
   ·rw [Am (fun h'=>h (c3.2 h'))]; exact beq_eq_false_iff_ne.2 h
  rw [dT (by omega),wT (by omega) (by omega),Ao]
  unfold u9B
  rw [c1,Aa,Aa,e,Ah hpl,Cs]
 ·rw [dF (by omega),Am hpl,Bh]
theorem g3B {l:List GrT} {x:Int} (hl:l.length≤1000000) (hs:j5A l) :
  ∃ p:Nat,k6A l x=some ((p:Int),(a5A x l).isSome)∧AtT x l p:=by
 obtain ⟨p,h1,h2⟩:=m6D (f:=g2C) l x (fun i j=>(l,x,(l.length:Int),(i:Int),(j:Int),())) (fun p=>(l,x,(l.length:Int),(p:Int),())) (by
  intro i j a hij hj ha
  obtain ⟨c,c1,c2,c3⟩:=q4B a.1 x
  have hm:=m5D (show j≤1000000 by omega) hij
  have ws:IntKind.i64.wrap ((((i+j) / 2:Nat):Int)+1)=(((i+j) / 2+1:Nat):Int):=by rw [b8A (by omega) (by omega)]; rfl
  have hlt:=g1A ha
  simp (disch:=omega) only [g2C,dT,hm,wT,Ao,gD ha,o6B,c1,Aa,ws]
  by_cases h:a.1<x
  ·rw [Aj h,Ah (c2.2 h)]; rfl
  ·rw [Ae h,Am (fun q=>h (c2.1 q))]; rfl) (by
  intro i
  simp (disch:=omega) only [g2C,dF]) hs
 refine ⟨p,?_,h2⟩
 unfold k6A
 refine (Cp (fun z=>Option.bind z _) h1).trans ?_
 rw [Aa]
 dsimp only
 rw [←m7D h2 hs (0,zFl)]
 show (bif decide ((p:Int)<l.length) then bif a7A (p:Int) l.length then (o6B (l.getD (p:Int).toNat (0,zFl)) x).bind fun y4=>some ((p:Int),y4==0) else none else some ((p:Int),false))=_
 by_cases hpl:p<l.length
 ·obtain ⟨c,c1,c2,c3⟩:=q4B (l.getD p (0,zFl)).1 x
  have e:(c==0)=decide ((l.getD p (0,zFl)).1=x):=by
   by_cases h:c=0
   ·rw [Ah (c3.1 h),h]; rfl
   ·rw [Am (fun h'=>h (c3.2 h'))]; exact beq_eq_false_iff_ne.2 h
  rw [dT (by omega),wT (by omega) (by omega),Ao]
  unfold o6B
  rw [c1,Aa,Aa,e,Ah hpl,Cs]
 ·rw [dF (by omega),Am hpl,Bh]
def c9B (now p:Int) (g:GrT):Bool:=decide (g.1>p)&&decide (g.1≤1073741824)&&(g.2.2.2.2.2.2.2.1==now)&&f5A g.2
def d0B (p:Int) (x:PeT):Bool:=decide (x.1>p)&&decide (x.1≤1073741824)&&w2A x.2.1&&okW x.2.2
def p6A (s:SvT):Bool:=
 decide (s.1≥0)&&decide (s.1≤1099511627776)&&decide ((s.2.1.length:Int)≤4)&&decide ((s.2.2.length:Int)≤16)&&okL (c9B s.1) (·.1) (-1) s.2.1&&okL d0B (·.1) 0 s.2.2
def szF (f:FlT):Prop:=f.2.2.2.2.2.2.2.1.length≤1000∧f.2.2.2.2.2.2.2.2.length≤1000
def szP (x:PeT):Prop:=x.2.1.size≤9223372036854775807∧szW x.2.2
def szS (s:SvT):Prop:=s.2.1.length≤1000∧s.2.2.length≤1000∧(∀ g∈s.2.1,szF g.2)∧∀ x∈s.2.2,szP x
theorem n2E {b:Bool} {s:SvT} {G:List GrT} (hl:G.length≤1000) (hs:∀ g∈G,szF g.2):iter w3B (b,-1,G,(G.length:Int),0,s,())=some (b&&okL (c9B s.1) (·.1) (-1) G,s,()):=by
 have:=k0B (R':=Unit) (f:=w3B) G (fun i (x:Bool×Int)=>(x.1,x.2,G,(G.length:Int),(i:Int),s,())) (fun x a=>.inl (x.1&&c9B s.1 x.2 a,a.1)) (fun _=>(false,s,())) (fun x=>(x.1,s,())) (by
  intro i a x hi
  have:=g1A hi
  have ws:IntKind.i64.wrap ((i:Int)+1)=((i+1:Nat):Int):=by rw [b8A (by omega) (by omega)]; rfl
  have ha:=hs a (h6A hi)
  simp (disch:=omega) only [w3B,dT,wT,Ao,gD hi]
  unfold c9B
  cases x.1 with
  | false =>
   rw [Ai,Aa]
   dsimp only
   rw [ws,Bh]
  | true =>
   rw [Al]
   cases decide (a.1>x.2) with
   | false =>
    rw [Ai,Aa]
    dsimp only
    rw [ws]; rfl
   | true =>
    rw [Al]
    cases decide (a.1≤1073741824) with
    | false =>
     rw [Ai,Aa]
     dsimp only
     rw [ws]; rfl
    | true =>
     rw [Al]
     cases (a.2.2.2.2.2.2.2.1==s.1) with
     | false =>
      rw [Ai,Aa]
      dsimp only
      rw [ws]; rfl
     | true =>
      rw [Al,g0B a.2 (by have:=ha.2; omega) (by have:=ha.1; omega),Aa,Aa]
      dsimp only
      rw [ws,c5B]; rfl) (by
  intro x
  simp (disch:=omega) only [w3B,dF]) (b,-1)
 obtain ⟨p',hp⟩:=k1B (c9B s.1) (fun x:GrT=>x.1) G b (-1)
 rw [hp] at this
 exact this
theorem n3E {b:Bool} {P:List PeT} (hl:P.length≤1000) (hs:∀ x∈P,szP x):iter w4B (b,0,P,(P.length:Int),0,())=some (b&&okL d0B (·.1) 0 P,()):=by
 have:=k0B (R':=Unit) (f:=w4B) P (fun i (x:Bool×Int)=>(x.1,x.2,P,(P.length:Int),(i:Int),())) (fun x a=>.inl (x.1&&d0B x.2 a,a.1)) (fun _=>(false,())) (fun x=>(x.1,())) (by
  intro i a x hi
  have:=g1A hi
  have ws:IntKind.i64.wrap ((i:Int)+1)=((i+1:Nat):Int):=by rw [b8A (by omega) (by omega)]; rfl
  have ha:=hs a (h6A hi)
  simp (disch:=omega) only [w4B,dT,wT,Ao,gD hi]
  unfold d0B
  cases x.1 with
  | false =>
   rw [Ai,Aa]
   dsimp only
   rw [ws,Bh]
  | true =>
   rw [Al]
   cases decide (a.1>x.2) with
   | false =>
    rw [Ai,Aa]
    dsimp only
    rw [ws]; rfl
   | true =>
    rw [Al]
    cases decide (a.1≤1073741824) with
    | false =>
     rw [Ai,Aa]
     dsimp only
     rw [ws]; rfl
    | true =>
     rw [Al,k0D ha.1,Aa]
     cases w2A a.2.1 with
     | false =>
      rw [Ai,Aa]
      dsimp only
      rw [ws]; rfl
     | true =>
      rw [Al,k2B ha.2,Aa,Aa]
      dsimp only
      rw [ws,c5B]; rfl) (by
  intro x
  simp (disch:=omega) only [w4B,dF]) (b,0)
 obtain ⟨p',hp⟩:=k1B d0B (fun x:PeT=>x.1) P b 0
 rw [hp] at this
 exact this
theorem u9C {s:SvT} (h:szS s):e4B s=some (err (p6A s)):=by
 obtain ⟨h1,h2,h3,h4⟩:=h
 have s1:(bif (decide (s.1≥0)) then
 bif (decide (s.1≤1099511627776)) then
 bif (decide ((s.2.1.length:Int)≤4)) then
 some ((decide ((s.2.2.length:Int)≤16)),s,())
 else
 some (false,s,())
 else
 some (false,s,())
 else
 some (false,s,()):Option (Bool×SvT×Unit))=some (decide (s.1≥0)&&decide (s.1≤1099511627776)&&decide ((s.2.1.length:Int)≤4)&&decide ((s.2.2.length:Int)≤16),s,()):=by
  cases decide (s.1≥0) <;> cases decide (s.1≤1099511627776) <;> cases decide ((s.2.1.length:Int)≤4) <;> rfl
 unfold e4B
 refine (Cp (fun z=>Option.bind z _) s1).trans ?_
 rw [Aa]
 dsimp only
 rw [n2E h1 h3,Aa]
 dsimp only
 rw [n3E h2 h4,Aa]
 dsimp only
 show _=some (err (_&&okL (c9B s.1) (·.1) (-1) s.2.1&&okL d0B (·.1) 0 s.2.2))
 cases (decide (s.1≥0)&&decide (s.1≤1099511627776)&&decide ((s.2.1.length:Int)≤4)&&decide ((s.2.2.length:Int)≤16)&&okL (c9B s.1) (·.1) (-1) s.2.1&&okL d0B (·.1) 0 s.2.2) <;> rfl
structure SvP (s:SvT):Prop where
 n0:0≤s.1
 n1:s.1≤1099511627776
 G4:s.2.1.length≤4
 P16:s.2.2.length≤16
 Gs:j5A s.2.1
 Ps:j5A s.2.2
 G:∀ g∈s.2.1,0≤g.1∧g.1≤1073741824∧g.2.2.2.2.2.2.2.1=s.1∧f5A g.2=true
 P:∀ x∈s.2.2,0<x.1∧x.1≤1073741824∧w2A x.2.1=true∧okW x.2.2=true
theorem m8D {A:Type} {q:A→Bool} {key:A→Int}:∀ {l:List A} {p:Int},okL (fun p a=>decide (key a>p)&&q a) key p l=true↔l.Pairwise (fun a b=>key a<key b)∧∀ a∈l,p<key a∧q a=true
 | [],p=>by simp [okL]
 | a::l,p=>by
  show ((decide (key a>p)&&q a)&&okL _ key (key a) l)=true↔_
  rw [Ac,Ac,Au,m8D,List.pairwise_cons]
  constructor
  ·rintro ⟨⟨h1,h2⟩,h3,h4⟩
   refine ⟨⟨fun b hb=>(h4 b hb).1,h3⟩,fun b hb => ?_⟩
   rcases Bf.1 hb with rfl | hb
   ·exact ⟨h1,h2⟩
   ·have:=h4 b hb
    exact ⟨by omega,this.2⟩
  ·rintro ⟨⟨h1,h2⟩,h3⟩
   exact ⟨h3 a Ax,h2,fun b hb=>⟨h1 b hb,(h3 b (Bb _ hb)).2⟩⟩
theorem y2B {s:SvT}:p6A s=true↔SvP s:=by
 have e1:okL (c9B s.1) (·.1) (-1) s.2.1=okL (fun p (a:GrT)=>decide (a.1>p)&&(decide (a.1≤1073741824)&&(a.2.2.2.2.2.2.2.1==s.1)&&f5A a.2)) (·.1) (-1) s.2.1:=by
  congr 1
  funext p a
  unfold c9B
  rw [Eo,Eo,Eo]
 have e2:okL d0B (·.1) 0 s.2.2=okL (fun p (a:PeT)=>decide (a.1>p)&&(decide (a.1≤1073741824)&&w2A a.2.1&&okW a.2.2)) (·.1) 0 s.2.2:=by
  congr 1
  funext p a
  unfold d0B
  rw [Eo,Eo,Eo]
 unfold p6A
 rw [e1,e2]
 simp only [Ac,Au,m8D,Cw]
 constructor
 ·rintro ⟨⟨⟨⟨⟨h1,h2⟩,h3⟩,h4⟩,h5,h6⟩,h7,h8⟩
  exact ⟨h1,h2,by omega,by omega,h5,h7,fun g hg=>by obtain ⟨a,⟨b,c⟩,d⟩:=h6 g hg; exact ⟨by omega,b,c,d⟩,fun g hg=>by obtain ⟨a,⟨b,c⟩,d⟩:=h8 g hg; exact ⟨a,b,c,d⟩⟩
 ·intro o
  have:=o.G4
  have:=o.P16
  exact ⟨⟨⟨⟨⟨o.n0,o.n1⟩,by omega⟩,by omega⟩,o.Gs,fun g hg=>by obtain ⟨a,b,c,d⟩:=o.G g hg; exact ⟨by omega,⟨b,c⟩,d⟩⟩,o.Ps,fun g hg=>by obtain ⟨a,b,c,d⟩:=o.P g hg; exact ⟨a,⟨b,c⟩,d⟩⟩
theorem v0C {G:List GrT} (h:G.length≤1000):o3B G=some G:=by
 unfold o3B
 rw [Cv,n4A.2 (by omega),Al]
theorem v1C {P:List PeT} (h:P.length≤1000):o4B P=some P:=by
 unfold o4B
 rw [Cv,n4A.2 (by omega),Al]
theorem n4E:j1D=f1B:=rfl
theorem n5E:j2D=p8B:=rfl
theorem n6E:i9D=f1B:=rfl
theorem n7E:j0D=p8B:=rfl
theorem v2C {s:SvT} {now:Int} {G:List GrT} {P:List PeT} {r:MsT×List MsT×Int} (hl:G.length≤1000) (hs:∀ g∈G,szF g.2) :
  iter f1B (s,(G.length:Int),0,((now,(G,P)),r),())=some (s,((now,(G,P)),r),()):=
 t6A (fun i=>(s,(G.length:Int),(i:Int),((now,(G,P)),r),())) G.length (fun i hi=>by
  obtain ⟨a,ha⟩:∃ a,G[i]? = some a:=⟨_,Aq hi⟩
  have ws:IntKind.i64.wrap ((i:Int)+1)=((i+1:Nat):Int):=by rw [b8A (by omega) (by omega)]; rfl
  have hz:=hs a (h6A ha)
  have hset:G.set i a=G:=f6B ha
  unfold f1B
  dsimp only
  rw [dT (by omega),wT (by omega) (by omega),Ao,gD ha,f8B (by have:=hz.1; omega),Aa,wT (by omega) (by omega)]
  rw [hset,gD ha,wT (by omega) (by omega),f9B (by have:=hz.2; omega),Aa,wT (by omega) (by omega)]
  rw [hset,ws]) (by
  unfold f1B
  dsimp only
  rw [dF (by omega)])
theorem n8E {w:RS} (h:okW w=true):z4A w 0=w:=by
 obtain ⟨_,_,_,h4,_⟩:=z5A.1 h
 have:w.2.1.filter (fun s=>!(s.1==0))=w.2.1:=Eu.2 fun s hs=>by
  have:=(t2C h4 s hs).1
  rw [Bg (by omega)]; rfl
 unfold z4A
 rw [this]
theorem v3C {s:SvT} {now:Int} {G:List GrT} {P:List PeT} {r:MsT×List MsT×Int} (hl:P.length≤1000) (hs:∀ x∈P,szP x) (ho:∀ x∈P,okW x.2.2=true) :
  iter p8B (s,(P.length:Int),0,((now,(G,P)),r),())=some (s,((now,(G,P)),r),()):=
 t6A (fun i=>(s,(P.length:Int),(i:Int),((now,(G,P)),r),())) P.length (fun i hi=>by
  obtain ⟨a,ha⟩:∃ a,P[i]? = some a:=⟨_,Aq hi⟩
  have ws:IntKind.i64.wrap ((i:Int)+1)=((i+1:Nat):Int):=by rw [b8A (by omega) (by omega)]; rfl
  have hz:=hs a (h6A ha)
  have hset:P.set i a=P:=f6B ha
  unfold p8B
  dsimp only
  rw [dT (by omega),wT (by omega) (by omega),Ao,gD ha,k7D hz.2 (ho a (h6A ha)),Aa,wT (by omega) (by omega),n8E (ho a (h6A ha))]
  dsimp only
  rw [hset,ws]) (by
  unfold p8B
  dsimp only
  rw [dF (by omega)])
def h4C:RS:=(1,[],[])
def v4C (n:Int):FlT:=(0,0,0,0,0,0,n,[],[])
def m7A (s:SvT) (m:MsT):Bool:=
 ((a5A m.2.2.1 s.2.2).isSome||(m.1==1&&decide (s.2.2.length<16)))&&((a5A m.2.1 s.2.1).isSome||(m.1==1&&decide (s.2.1.length<4)))
def b3A (s:SvT) (m:MsT):SvT:=
 (s.1,(if (a5A m.2.1 s.2.1).isSome then s.2.1 else n7A m.2.1 (v4C s.1) s.2.1),(if (a5A m.2.2.1 s.2.2).isSome then s.2.2 else n7A m.2.2.1 (m.2.2.2.2.2.2.2.2.1,h4C) s.2.2))
theorem m9D {V:Type} {b:Nat} {x:Int} {v:V} {l:List (Int×V)} {p:Nat} (h:AtT x l p) (hn:a5A x l=none) (hr:(l.length+1)*b≤140737488355328):s4A b l (p:Int) [(x,v)]=some (n7A x v l):=by
 rw [m0D h.le (by simp) hr,h.add hn]
theorem n9E {s:SvT} {m:MsT} {o:List MsT} {e:Int} (hG:s.2.1.length≤1000) (hP:s.2.2.length≤1000) (gs:j5A s.2.1) (ps:j5A s.2.2) :
    v8A (s,m,o,e)=some (if m7A s m=true then ((b3A s m,m,o,e),true) else ((s,m,o,e),false)):=by
  obtain ⟨now,G,P⟩:=s
  obtain ⟨k,gid,fr,m⟩:=m
  obtain ⟨i,i1,i2⟩:=g2B (x:=fr) (show P.length≤1000000 by have:P.length≤1000:=hP; omega) ps
  obtain ⟨j,j1,j2⟩:=g3B (x:=gid) (show G.length≤1000000 by have:G.length≤1000:=hG; omega) gs
  have hG:G.length≤1000:=hG
  have hP:P.length≤1000:=hP
  have eP:decide ((P.length:Int)≥16)=!decide (P.length<16):=by
    by_cases h:P.length<16
    · rw [Ah h,Am (by omega)]; rfl
    · rw [Am h,Ah (by omega)]; rfl
  have eG:decide ((G.length:Int)≥4)=!decide (G.length<4):=by
    by_cases h:G.length<4
    · rw [Ah h,Am (by omega)]; rfl
    · rw [Am h,Ah (by omega)]; rfl
  have s1:(bif (!(a5A fr P).isSome) then
 bif (!(k==1)) then
 some ((i:Int),(a5A fr P).isSome,(j:Int),(a5A gid G).isSome,true,(((now,G,P),(k,gid,fr,m),o,e):HlT),())
 else
 bif (decide ((P.length:Int)≥16)) then
 some ((i:Int),(a5A fr P).isSome,(j:Int),(a5A gid G).isSome,true,((now,G,P),(k,gid,fr,m),o,e),())
 else
 bif (!(a5A gid G).isSome) then
 bif (!(k==1)) then
 some ((i:Int),(a5A fr P).isSome,(j:Int),(a5A gid G).isSome,true,((now,G,P),(k,gid,fr,m),o,e),())
 else
 some ((i:Int),(a5A fr P).isSome,(j:Int),(a5A gid G).isSome,(decide ((G.length:Int)≥4)),((now,G,P),(k,gid,fr,m),o,e),())
 else
 some ((i:Int),(a5A fr P).isSome,(j:Int),(a5A gid G).isSome,false,((now,G,P),(k,gid,fr,m),o,e),())
 else
 bif (!(a5A gid G).isSome) then
 bif (!(k==1)) then
 some ((i:Int),(a5A fr P).isSome,(j:Int),(a5A gid G).isSome,true,((now,G,P),(k,gid,fr,m),o,e),())
 else
 some ((i:Int),(a5A fr P).isSome,(j:Int),(a5A gid G).isSome,(decide ((G.length:Int)≥4)),((now,G,P),(k,gid,fr,m),o,e),())
 else
 some ((i:Int),(a5A fr P).isSome,(j:Int),(a5A gid G).isSome,false,((now,G,P),(k,gid,fr,m),o,e),()):Option (Int×Bool×Int×Bool×Bool×HlT×Unit)) =
   some ((i:Int),(a5A fr P).isSome,(j:Int),(a5A gid G).isSome,!m7A (now,G,P) (k,gid,fr,m),((now,G,P),(k,gid,fr,m),o,e),()):=by
    unfold m7A
    dsimp only
    rw [eP,eG]
    cases (a5A fr P).isSome <;> cases (k==1) <;> cases decide (P.length<16) <;> cases (a5A gid G).isSome <;> cases decide (G.length<4) <;> rfl
  unfold v8A
  dsimp only
  rw [i1,Aa,j1,Aa]
  refine (Cp (fun z=>Option.bind z _) s1).trans ?_
  rw [Aa]
  dsimp only
  cases hc:m7A (now,G,P) (k,gid,fr,m) with
  | false=>rfl
  | true =>
    rw [Cc,Ai,Aj rfl]
    have hp:∀ H:HlT,(bif (!(a5A fr P).isSome) then
 (e3C).bind fun y4 =>
 (e4C P (i:Int) [(fr,(m.2.2.2.2.2.1,y4))]).bind fun y5 =>
 some ((j:Int),(a5A gid G).isSome,(((now,(G,y5)),H.2):HlT),())
 else
 some ((j:Int),(a5A gid G).isSome,(((now,(G,P)),H.2):HlT),()):Option (Int×Bool×HlT×Unit))=some ((j:Int),(a5A gid G).isSome,((now,(G,if (a5A fr P).isSome then P else n7A fr (m.2.2.2.2.2.1,h4C) P)),H.2),()):=by
      intro H
      cases hg:a5A fr P with
      | some v=>rfl
      | none =>
        rw [show (none:Option (ByteArray×RS)).isSome=false from rfl,Cr,Al,show e3C=some h4C from rfl,Aa]
        unfold e4C
        rw [m9D i2 hg (by omega)]
        rfl
    refine (Cp (fun z=>Option.bind z _) (hp ((now,(G,P)),((k,gid,fr,m),o,e)))).trans ?_
    rw [Aa]
    dsimp only
    cases hg:a5A gid G with
    | some v=>unfold b3A; dsimp only; rw [hg]; rfl
    | none =>
      rw [show (none:Option FlT).isSome=false from rfl,Cr,Al,show r5C=some zFl from rfl,Aa]
      unfold r6C
      have:=m9D (b:=112) (v:=v4C now) j2 hg (by omega)
      refine (Cp (fun z=>Option.bind (Option.bind z _) _) this).trans ?_
      unfold b3A
      dsimp only
      rw [hg]
      rfl
def h7A (s:SvT) (m:MsT):SvT×Bool×Int:=
 match a5A m.2.2.1 s.2.2 with
 | none=>(s,false,0)
 | some x=>if (e2A x.2 m.2.2.1 m.2.2.2.2.1).2.2=0 then ((s.1,s.2.1,g0A m.2.2.1 (x.1,(e2A x.2 m.2.2.1 m.2.2.2.2.1).1) s.2.2),(e2A x.2 m.2.2.1 m.2.2.2.2.1).2.1,0) else (s,false,(e2A x.2 m.2.2.1 m.2.2.2.2.1).2.2)
theorem n0D {s:SvT} {m:MsT} {o:List MsT} {e:Int} (hG:s.2.1.length≤1000) (hP:s.2.2.length≤1000) (gs:j5A s.2.1) (ps:j5A s.2.2) {x:ByteArray×RS} (hx:a5A m.2.2.1 s.2.2=some x) (hz:szW x.2) (ho:okW x.2=true) :
  p4A (s,m,o,e)=some (((h7A s m).1,m,o,(h7A s m).2.2),(h7A s m).2.1):=by
 obtain ⟨now,G,P⟩:=s
 obtain ⟨k,gid,fr,to,tid,m⟩:=m
 obtain ⟨i,i1,i2⟩:=g2B (x:=fr) (show P.length≤1000000 by have:P.length≤1000:=hP; omega) ps
 obtain ⟨j,j1,j2⟩:=g3B (x:=gid) (show G.length≤1000000 by have:G.length≤1000:=hG; omega) gs
 have hx:a5A fr P=some x:=hx
 have hi:=i2.get x hx
 have hlt:=g1A hi
 unfold p4A h7A
 dsimp only
 rw [i1,Aa,j1,Aa,wT (by omega) (by omega),Ao,gD hi,hx]
 dsimp only
 rw [j4E hz ho,Aa]
 have hc:=l8D (f:=fr) (t:=tid) hz ho
 generalize e2A x.2 fr tid=r at hc ⊢
 obtain ⟨w,b,q⟩:=r
 dsimp only at hc ⊢
 by_cases hq:q=0
 ·subst hq
  rw [eT rfl,wT (by omega) (by omega),Aa]
  dsimp only
  rw [Aj rfl,i2.set (by rw [hx]; rfl)]
  cases b <;> rfl
 ·rw [eF hq,Aa]
  dsimp only
  rw [Ae hq]
  rcases hc with ⟨h1,_⟩ | ⟨h1,_⟩
  ·have h1:b=false:=h1
   rw [h1]; rfl
  ·exact absurd h1 hq
def s7A (gid but:Int) (m:MsT) (M:List Int):List MsT:=(M.filter (fun x=>!(x==but))).map fun x=>(m.1,gid,m.2.2.1,x,m.2.2.2.2)
theorem v5C (gid but:Int) (m:MsT) (M:List Int):(s7A gid but m M).length≤M.length:=by unfold s7A; rw [List.length_map]; exact Cm _ _
theorem o0E {s:SvT} {m0:MsT} {e:Int} {g:GrT} {but:Int} {q:Int×Int×Int×ByteArray×List Int} {k fr:Int} (hM:g.2.2.2.2.2.2.2.2.2.length≤1000) (hd:q.2.2.2.2.length≤1000) :
  ∀ (l2 l1:List Int) (gi to:Int) (tid:Int) (o:List MsT),g.2.2.2.2.2.2.2.2.2=l1++l2→o.length+l2.length≤1000000 →
   ∃ m',iter j6B (but,g.2.2.2.2.2.2.2.2.2,(g.2.2.2.2.2.2.2.2.2.length:Int),(l1.length:Int),(s,m0,o,e),g,(k,gi,fr,to,tid,q),())=some ((s,m0,o++s7A g.1 but (k,gi,fr,to,tid,q) l2,e),m'):=by
 intro l2
 induction l2 with
 | nil =>
  intro l1 gi to tid o e1 _
  rw [Bc] at e1
  rw [←e1]
  refine ⟨(),?_⟩
  rw [show s7A g.1 but (k,gi,fr,to,tid,q) []=[] from rfl,Bc]
  refine m4A ?_
  simp (disch:=omega) only [j6B,dF]
 | cons a l2 ih =>
  intro l1 gi to tid o e1 ho
  rw [Be] at ho
  have hi:g.2.2.2.2.2.2.2.2.2[l1.length]? = some a:=by rw [e1]; simp
  have hlt:=g1A hi
  have ws:IntKind.i64.wrap ((l1.length:Int)+1)=((l1.length+1:Nat):Int):=by rw [b8A (by omega) (by omega)]; rfl
  have e2:g.2.2.2.2.2.2.2.2.2=(l1++[a])++l2:=by rw [e1]; simp
  cases hc:(a==but) with
  | true =>
   have step:j6B (but,g.2.2.2.2.2.2.2.2.2,(g.2.2.2.2.2.2.2.2.2.length:Int),(l1.length:Int),(s,m0,o,e),g,(k,gi,fr,to,tid,q),())=some (.inl (but,g.2.2.2.2.2.2.2.2.2,(g.2.2.2.2.2.2.2.2.2.length:Int),((l1.length+1:Nat):Int),(s,m0,o,e),g,(k,gi,fr,to,tid,q),())):=by
    unfold j6B
    dsimp only
    rw [dT (by omega),wT (by omega) (by omega),Ao,gD hi,hc,Al,Aa]
    dsimp only
    rw [ws]
   rw [l5A step]
   obtain ⟨m',hm⟩:=ih (l1++[a]) gi to tid o e2 (by omega)
   rw [Ak,By] at hm
   refine ⟨m',?_⟩
   rw [hm]
   unfold s7A
   rw [List.filter_cons,hc]; rfl
  | false =>
   have step:j6B (but,g.2.2.2.2.2.2.2.2.2,(g.2.2.2.2.2.2.2.2.2.length:Int),(l1.length:Int),(s,m0,o,e),g,(k,gi,fr,to,tid,q),())=some (.inl (but,g.2.2.2.2.2.2.2.2.2,(g.2.2.2.2.2.2.2.2.2.length:Int),((l1.length+1:Nat):Int),(s,m0,o++[(k,g.1,fr,a,tid,q)],e),g,(k,g.1,fr,a,tid,q),())):=by
    unfold j6B
    dsimp only
    rw [dT (by omega),wT (by omega) (by omega),Ao,gD hi,hc,Ai,k1D hd,Aa,n4A.2 (by rw [Ak,By]; omega),Al,Aa]
    dsimp only
    rw [ws]
   rw [l5A step]
   obtain ⟨m',hm⟩:=ih (l1++[a]) g.1 a tid (o++[(k,g.1,fr,a,tid,q)]) e2 (by rw [Ak,By]; omega)
   rw [show (l1++[a]).length=l1.length+1 by simp] at hm
   refine ⟨m',?_⟩
   rw [hm]
   unfold s7A
   rw [List.filter_cons,hc,Bz]; rfl
theorem v6C {s:SvT} {m0 m:MsT} {o:List MsT} {e but:Int} {g:GrT} (hM:g.2.2.2.2.2.2.2.2.2.length≤1000) (hd:m.2.2.2.2.2.2.2.2.2.length≤1000) (ho:o.length≤100000) :
  e7B (s,m0,o,e) g but m=some ((s,m0,o++s7A g.1 but m g.2.2.2.2.2.2.2.2.2,e),()):=by
 obtain ⟨k,gi,fr,to,tid,q⟩:=m
 obtain ⟨m',h⟩:=o0E (s:=s) (m0:=m0) (e:=e) (g:=g) (but:=but) (q:=q) (k:=k) (fr:=fr) hM hd g.2.2.2.2.2.2.2.2.2 [] gi to tid o rfl (by omega)
 unfold e7B
 refine (Cp (fun z=>Option.bind z _) h).trans ?_
 rfl
def k9A (g:GrT) (nm:ByteArray) (d:Dc):MsT:=if d.1=5 then (5,g.1,0,d.2.1,0,d.2.2.1,g.2.2.2.2.2.2.1,0,nm,[]) else (d.1,g.1,0,d.2.1,0,d.2.2.1,d.2.2.2,0,ByteArray.empty,[])
def o6A (s:SvT) (o:List MsT) (g:GrT) (d:Dc):SvT×List MsT×ByteArray:=
 match a5A d.2.1 s.2.2 with
 | none=>(s,o,ByteArray.mk #[])
 | some x=>if (w6A x.2 (k9A g x.1 d) s.1).2.2=0 then ((s.1,s.2.1,g0A d.2.1 (x.1,(w6A x.2 (k9A g x.1 d) s.1).1) s.2.2),o++[(w6A x.2 (k9A g x.1 d) s.1).2.1],x.1) else (s,o,x.1)
def r1A (g:GrT) (was:Int) (so:SvT×List MsT) (d:Dc):SvT×List MsT:=
 if d.1=10 then (so.1,so.2++s7A g.1 0 (10,0,0,0,0,d.2.2.1,0,0,ByteArray.empty,[]) g.2.2.2.2.2.2.2.2.2)
 else ((o6A so.1 so.2 g d).1,(o6A so.1 so.2 g d).2.1++(if d.1=5∧was<d.2.2.1 then s7A g.1 d.2.1 (9,0,0,0,0,d.2.2.1,d.2.1,0,(o6A so.1 so.2 g d).2.2,[]) g.2.2.2.2.2.2.2.2.2 else []))
theorem o1E {s:SvT} {m0:MsT} {o:List MsT} {e was:Int} {g:GrT} {d:Dc} (hP:s.2.2.length≤1000) (ps:j5A s.2.2) (hs:∀ x∈s.2.2,szP x) (hw:∀ x∈s.2.2,okW x.2.2=true) (n0:0≤s.1) (n1:s.1≤1099511627776) (hM:g.2.2.2.2.2.2.2.2.2.length≤1000) (ho:o.length≤10000) :
    e9C (s,m0,o,e) g was d=some (((r1A g was (s,o) d).1,m0,(r1A g was (s,o) d).2,e),()):=by
  obtain ⟨now,G,P⟩:=s
  obtain ⟨k,who,ep,pos⟩:=d
  obtain ⟨gid,fs,fe,fh,fp,fu,fl,fn,fW,fM⟩:=g
  have hP:P.length≤1000:=hP
  have hM:fM.length≤1000:=hM
  unfold e9C
  dsimp only
  by_cases h10:k=10
  · rw [eT h10,v6C hM (by simp) (by omega),Aa]
    unfold r1A
    rw [Aj h10]
  · rw [eF h10]
    obtain ⟨i,i1,i2⟩:=g2B (x:=who) (show P.length≤1000000 by omega) ps
    have mid:∀ (o2:List MsT) (s2:SvT) (nm:ByteArray),o2.length≤20000 →
        ((bif (k==5) then
 some (nm,(decide (ep>was)),(s2,m0,o2,e),((gid,fs,fe,fh,fp,fu,fl,fn,fW,fM):GrT),((k,who,ep,pos):Dc),())
 else
 some (nm,false,(s2,m0,o2,e),(gid,fs,fe,fh,fp,fu,fl,fn,fW,fM),(k,who,ep,pos),()):Option (ByteArray×Bool×HlT×GrT×Dc×Unit)).bind fun j6 =>
 bif j6.2.1 then
 (e7B j6.2.2.1 j6.2.2.2.1 j6.2.2.2.2.1.2.1 (9,(0,(0,(0,(0,(j6.2.2.2.2.1.2.2.1,(j6.2.2.2.2.1.2.1,(0,(j6.1,[])))))))))).bind fun y7 =>
 some (y7.1,())
 else
 some (j6.2.2.1,()):Option (HlT×Unit))=some ((s2,m0,o2++(if k=5∧was<ep then s7A gid who (9,0,0,0,0,ep,who,0,nm,[]) fM else []),e),()):=by
      intro o2 s2 nm hl
      by_cases h5:k=5
      · rw [eT h5,Aa]
        dsimp only
        by_cases hlt:was<ep
        · rw [dT (show ep>was from hlt),v6C (g:=(gid,fs,fe,fh,fp,fu,fl,fn,fW,fM)) hM (by simp) (by omega),Aa,Aj ⟨h5,hlt⟩]
        · rw [dF (show ¬ ep>was from hlt),Ae (fun q=>hlt q.2),Bc]
      · rw [eF h5,Aa]
        dsimp only
        rw [Ai,Ae (fun q=>h5 q.1),Bc]
    unfold r1A
    rw [Ae h10]
    dsimp only
    rw [i1,Aa]
    dsimp only
    cases hg:a5A who P with
    | none =>
      rw [show (none:Option (ByteArray×RS)).isSome=false from rfl,Ai,Aa]
      have et:o6A (now,G,P) o (gid,fs,fe,fh,fp,fu,fl,fn,fW,fM) (k,who,ep,pos)=((now,G,P),o,ByteArray.mk #[]):=by unfold o6A; dsimp only; rw [hg]
      rw [et]
      exact mid o (now,G,P) (ByteArray.mk #[]) (by omega)
    | some x =>
      have hi:=i2.get x hg
      have hlt:=g1A hi
      have hm:=h6A hi
      have hz:=hs _ hm
      have hz1:x.1.size≤9223372036854775807:=hz.1
      have hz2:szW x.2:=hz.2
      have hk:=hw _ hm
      have hk:okW x.2=true:=hk
      rw [show (some x).isSome=true from rfl,Al,wT (by omega) (by omega),Ao,gD hi]
      dsimp only
      have sz:szM (k9A (gid,fs,fe,fh,fp,fu,fl,fn,fW,fM) x.1 (k,who,ep,pos)):=by
        unfold k9A
        split
        · exact ⟨hz1,by simp⟩
        · exact ⟨by show ByteArray.empty.size≤_; decide,by simp⟩
      have s1:(bif (k==5) then
 some (was,x.1,(i:Int),(((now,G,P),m0,o,e):HlT),((gid,fs,fe,fh,fp,fu,fl,fn,fW,fM):GrT),((k,who,ep,pos):Dc),((k,(gid,(0,(who,(0,(ep,(fl,(0,(x.1,[]))))))))):MsT),())
 else
 some (was,x.1,(i:Int),((now,G,P),m0,o,e),(gid,fs,fe,fh,fp,fu,fl,fn,fW,fM),(k,who,ep,pos),(k,(gid,(0,(who,(0,(ep,(pos,(0,(ByteArray.empty,[]))))))))),()):Option (Int×ByteArray×Int×HlT×GrT×Dc×MsT×Unit)) =
          some (was,x.1,(i:Int),((now,G,P),m0,o,e),(gid,fs,fe,fh,fp,fu,fl,fn,fW,fM),(k,who,ep,pos),k9A (gid,fs,fe,fh,fp,fu,fl,fn,fW,fM) x.1 (k,who,ep,pos),()):=by
        unfold k9A
        by_cases h5:k=5
        · subst h5; rfl
        · rw [eF h5,Ae h5]
      rw [s1,Aa]
      dsimp only
      rw [wT (by omega) (by omega),Ao,gD hi,h7E hz2 sz hk n0 n1,Aa]
      unfold o6A
      dsimp only
      rw [hg]
      dsimp only
      by_cases hq:(w6A x.2 (k9A (gid,fs,fe,fh,fp,fu,fl,fn,fW,fM) x.1 (k,who,ep,pos)) now).2.2=0
      · rw [eT hq,wT (by omega) (by omega),n4A.2 (by rw [Ak,By]; omega),Al,Aa]
        rw [Aj hq]
        dsimp only
        rw [i2.set (by rw [hg]; rfl)]
        exact mid _ _ _ (by rw [Ak,By]; omega)
      · rw [eF hq,Aa,Ae hq]
        exact mid _ _ _ (by omega)
structure HS (s:SvT):Prop where
 n0:0≤s.1
 n1:s.1≤1099511627776
 gs:j5A s.2.1
 ps:j5A s.2.2
 G:s.2.1.length≤1000
 P:s.2.2.length≤1000
 fz:∀ g∈s.2.1,szF g.2
 pz:∀ x∈s.2.2,szP x
 pw:∀ x∈s.2.2,okW x.2.2=true
theorem SvP.hs {s:SvT} (o:SvP s) (h:szS s):HS s:=⟨o.n0,o.n1,o.Gs,o.Ps,h.1,h.2.1,h.2.2.1,h.2.2.2,fun x hx=>(o.P x hx).2.2.2⟩
theorem o2E {w:RS} {m:Msg} {t:Int} (h:(w6A w m t).2.2=0):okM (noM m w.1)=true∧w.1≠1073741824∧w.2.1.length<64∧(w6A w m t).1=x1B w m t∧(w6A w m t).2.1=noM m w.1:=by
 have e:w6A w m t=bif !okM (noM m w.1) then (zWq,zM,1) else bif w.1==1073741824||decide ((w.2.1.length:Int)≥64) then (zWq,zM,2) else (x1B w m t,noM m w.1,0):=rfl
 rw [e] at h ⊢
 cases ho:okM (noM m w.1) with
 | false=>rw [ho,Cr,Al] at h; cases h
 | true =>
  rw [ho,Cc,Ai] at h
  rw [Cc,Ai]
  by_cases h1:w.1=1073741824
  ·rw [h1,Dq,Bool.true_or,Al] at h; cases h
  ·rw [Bg h1,Bool.false_or] at h ⊢
   by_cases h2:(w.2.1.length:Int)≥64
   ·rw [Ah h2,Al] at h; cases h
   ·rw [Am h2,Ai]
    exact ⟨rfl,h1,by omega,rfl,rfl⟩
theorem o3E {g:GrT} {nm:ByteArray} {d:Dc} (h:nm.size≤9223372036854775807):szM (k9A g nm d):=by
 unfold k9A
 split
 ·exact ⟨h,by simp⟩
 ·exact ⟨by show ByteArray.empty.size≤_; decide,by simp⟩
structure y3B (g:GrT) (d:Dc) (x:MsT):Prop where
 grp:x.2.1=g.1
 frm:x.2.2.1=0
 to:x.2.2.2.1=d.2.1∧x.1=d.1∧d.1≠10∨x.2.2.2.1∈g.2.2.2.2.2.2.2.2.2∧(x.1=9∨x.1=10∧d.1=10)
 grant:x.1=5→d.1=5∧x.2.2.2.1=d.2.1∧x.2.2.2.2.2.1=d.2.2.1∧x.2.2.2.2.2.2.1=g.2.2.2.2.2.2.1
theorem o4E {m:Msg} {n:Int}:(noM m n).2.1=m.2.1∧(noM m n).2.2.1=m.2.2.1∧(noM m n).2.2.2.1=m.2.2.2.1∧(noM m n).1=m.1∧(noM m n).2.2.2.2.2=m.2.2.2.2.2:=⟨rfl,rfl,rfl,rfl,rfl⟩
theorem o5E (g:GrT) (nm:ByteArray) (d:Dc):(k9A g nm d).1=d.1∧(k9A g nm d).2.1=g.1∧(k9A g nm d).2.2.1=0∧(k9A g nm d).2.2.2.1=d.2.1∧(k9A g nm d).2.2.2.2.2.1=d.2.2.1∧(d.1=5→(k9A g nm d).2.2.2.2.2.2.1=g.2.2.2.2.2.2.1):=by
 unfold k9A
 by_cases h:d.1=5
 ·rw [Aj h]; exact ⟨h.symm,rfl,rfl,rfl,rfl,fun _=>rfl⟩
 ·rw [Ae h]; exact ⟨rfl,rfl,rfl,rfl,rfl,fun q=>absurd q h⟩
theorem h5C {gid but:Int} {m x:MsT} {M:List Int} (h:x∈s7A gid but m M):x.1=m.1∧x.2.1=gid∧x.2.2.1=m.2.2.1∧x.2.2.2.1∈M∧x.2.2.2.1≠but∧x.2.2.2.2=m.2.2.2.2:=by
 unfold s7A at h
 obtain ⟨y,hy,rfl⟩:=List.mem_map.1 h
 obtain ⟨h1,h2⟩:=Dd.1 hy
 refine ⟨rfl,rfl,rfl,h1,?_,rfl⟩
 intro e
 have e:y=but:=e
 rw [e,Dq] at h2; cases h2
structure h6C (g:GrT) (d:Dc) (x:MsT):Prop where
 grp:x.2.1=g.1
 frm:x.2.2.1=0
 to:x.2.2.2.1=d.2.1
 kind:x.1=d.1
 no:d.1≠10
structure v7C (g:GrT) (ds:List Dc) (s:SvT) (o:List MsT) (r:SvT×List MsT):Prop where
 hs:HS r.1
 now:r.1.1=s.1
 grp:r.1.2.1=s.2.1
 keys:r.1.2.2.map (·.1)=s.2.2.map (·.1)
 name:∀ x,(a5A x r.1.2.2).map (·.1)=(a5A x s.2.2).map (·.1)
 heard:∀ x,(a5A x r.1.2.2).map (·.2.2.2)=(a5A x s.2.2).map (·.2.2.2)
 out:∃ L,r.2=o++L∧(∀ x∈L,∃ d∈ds,y3B g d x)∧L.length≤1001*ds.length
 snd:∀ p∈r.1.2.2,∀ x∈p.2.2.2.1,(∃ d∈ds,h6C g d x.2.1)∨∃ q∈s.2.2,q.1=p.1∧x∈q.2.2.2.1
theorem o6E {s:SvT} {o:List MsT} {g:GrT} {d:Dc} (h:HS s) (hd:d.1≠10) :
  HS (o6A s o g d).1∧(o6A s o g d).1.1=s.1∧(o6A s o g d).1.2.1=s.2.1∧(o6A s o g d).1.2.2.map (·.1)=s.2.2.map (·.1) ∧
  (∀ x,(a5A x (o6A s o g d).1.2.2).map (·.1)=(a5A x s.2.2).map (·.1))∧(∀ x,(a5A x (o6A s o g d).1.2.2).map (·.2.2.2)=(a5A x s.2.2).map (·.2.2.2)) ∧
  (∃ L,(o6A s o g d).2.1=o++L∧(∀ x∈L,y3B g d x)∧L.length≤1) ∧
  ∀ p∈(o6A s o g d).1.2.2,∀ x∈p.2.2.2.1,h6C g d x.2.1∨∃ q∈s.2.2,q.1=p.1∧x∈q.2.2.2.1:=by
 unfold o6A
 cases hg:a5A d.2.1 s.2.2 with
 | none=>exact ⟨h,rfl,rfl,rfl,fun _=>rfl,fun _=>rfl,⟨[],by simp,(fun x hx=>by cases hx),De _⟩,fun p hp x hx=>.inr ⟨p,hp,rfl,hx⟩⟩
 | some x =>
  have hm:=n8A hg
  have hz:=h.pz _ hm
  have hw:=h.pw _ hm
  dsimp only
  by_cases hq:(w6A x.2 (k9A g x.1 d) s.1).2.2=0
  ·rw [Aj hq]
   obtain ⟨q1,q2,q3,q4,q5⟩:=o2E hq
   rw [q4,q5]
   have sz:=o3E (g:=g) (d:=d) hz.1
   have tm:=o5E g x.1 d
   have hs':HS (s.1,s.2.1,g0A d.2.1 (x.1,x1B x.2 (k9A g x.1 d) s.1) s.2.2):={ h with
    ps:=h3C.2 h.ps
    P:=by show (g0A _ _ _).length≤_; rw [l0B]; exact h.P
    pz:=fun y hy=>by
     rcases w8A hy with hy | rfl
     ·exact h.pz y hy
     ·exact ⟨hz.1,i3E hz.2 sz q3⟩
    pw:=fun y hy=>by
     rcases w8A hy with hy | rfl
     ·exact h.pw y hy
     ·exact i2E hw q1 q2 q3 h.n0 h.n1 }
   refine ⟨hs',rfl,rfl,q9B,fun y => ?_,fun y => ?_,⟨[_],rfl,fun y hy => ?_,Ay _⟩,fun p hp y hy => ?_⟩
   ·show (a5A y (g0A d.2.1 _ s.2.2)).map _=_
    rw [c8B]
    by_cases e:d.2.1=y
    ·subst e; rw [Aj rfl,hg]; rfl
    ·rw [Ae e]
   ·show (a5A y (g0A d.2.1 _ s.2.2)).map _=_
    rw [c8B]
    by_cases e:d.2.1=y
    ·subst e; rw [Aj rfl,hg]; rfl
    ·rw [Ae e]
   ·rw [Bo.1 hy]
    have nm:=o4E (m:=k9A g x.1 d) (n:=x.2.1)
    obtain ⟨n1,n2,n3,n4,n5⟩:=nm
    obtain ⟨t1,t2,t3,t4,t5,t6⟩:=tm
    refine ⟨by rw [n1,t2],by rw [n2,t3],.inl ⟨by rw [n3,t4],by rw [n4,t1],hd⟩,fun h5 => ?_⟩
    rw [n4,t1] at h5
    exact ⟨h5,by rw [n3,t4],by rw [n5,t5],by rw [n5,t6 h5]⟩
   ·rcases w8A hp with hp | rfl
    ·exact .inr ⟨p,hp,rfl,hy⟩
    ·have hy:y∈x.2.2.1++[(x.2.1,noM (k9A g x.1 d) x.2.1,4,s.1+5)]:=hy
     rcases Ck.1 hy with hy | hy
     ·exact .inr ⟨_,hm,rfl,hy⟩
     ·rw [Bo.1 hy]
      obtain ⟨t1,t2,t3,t4,t5,t6⟩:=tm
      exact .inl ⟨t2,t3,t4,t1,hd⟩
  ·rw [Ae hq]
   exact ⟨h,rfl,rfl,rfl,fun _=>rfl,fun _=>rfl,⟨[],by simp,(fun x hx=>by cases hx),De _⟩,fun p hp x hx=>.inr ⟨p,hp,rfl,hx⟩⟩
theorem n1D {s:SvT} {o:List MsT} {g:GrT} {was:Int} {d:Dc} (h:HS s) (hM:g.2.2.2.2.2.2.2.2.2.length≤1000):v7C g [d] s o (r1A g was (s,o) d):=by
 unfold r1A
 by_cases h10:d.1=10
 ·rw [Aj h10]
  refine ⟨h,rfl,rfl,rfl,fun _=>rfl,fun _=>rfl,⟨_,rfl,fun x hx=>⟨d,by simp,?_⟩,?_⟩,fun p hp x hx=>.inr ⟨p,hp,rfl,hx⟩⟩
  ·obtain ⟨a,b,c,e,f,i⟩:=h5C hx
   have a:x.1=10:=a
   exact ⟨b,c,.inr ⟨e,.inr ⟨a,h10⟩⟩,fun q=>by omega⟩
  ·have:=v5C g.1 0 (10,0,0,0,0,d.2.2.1,0,0,ByteArray.empty,[]) g.2.2.2.2.2.2.2.2.2
   rw [By]; omega
 ·rw [Ae h10]
  obtain ⟨a,b,c,e,f,i,⟨L,l1,l2,l3⟩,k⟩:=o6E (o:=o) (g:=g) h h10
  refine ⟨a,b,c,e,f,i,?_,fun p hp x hx => ?_⟩
  ·dsimp only
   rw [l1,Bz]
   refine ⟨_,rfl,fun x hx=>⟨d,by simp,?_⟩,?_⟩
   ·rcases Ck.1 hx with hx | hx
    ·exact l2 x hx
    ·by_cases hh:d.1=5∧was<d.2.2.1
     ·rw [Aj hh] at hx
      obtain ⟨a,b,c,e,f,i⟩:=h5C hx
      have a:x.1=9:=a
      exact ⟨b,c,.inr ⟨e,.inl a⟩,fun q=>by omega⟩
     ·rw [Ae hh] at hx; cases hx
   ·rw [Ak,By]
    by_cases hh:d.1=5∧was<d.2.2.1
    ·rw [Aj hh]
     have:=v5C g.1 d.2.1 (9,0,0,0,0,d.2.2.1,d.2.1,0,(o6A s o g d).2.2,[]) g.2.2.2.2.2.2.2.2.2
     omega
    ·rw [Ae hh,List.length_nil]; omega
  ·rcases k p hp x hx with k | k
   ·exact .inl ⟨d,by simp,k⟩
   ·exact .inr k
def w9A (g:GrT) (was:Int) (so:SvT×List MsT) (ds:List Dc):SvT×List MsT:=ds.foldl (r1A g was) so
theorem v8C {g:GrT} {was:Int} (hM:g.2.2.2.2.2.2.2.2.2.length≤1000):∀ {ds:List Dc} {s:SvT} {o:List MsT},HS s→v7C g ds s o (w9A g was (s,o) ds)
 | [],s,o,h=>⟨h,rfl,rfl,rfl,fun _=>rfl,fun _=>rfl,⟨[],by simp [w9A],(fun x hx=>by cases hx),De _⟩,fun p hp x hx=>.inr ⟨p,hp,rfl,hx⟩⟩
 | d::ds,s,o,h=>by
  have a:=n1D (o:=o) (was:=was) (d:=d) h hM
  have b:=v8C hM (was:=was) (ds:=ds) (s:=(r1A g was (s,o) d).1) (o:=(r1A g was (s,o) d).2) a.hs
  obtain ⟨L1,l1,l2,l3⟩:=a.out
  obtain ⟨L2,m1,m2,m3⟩:=b.out
  refine ⟨b.hs,b.now.trans a.now,b.grp.trans a.grp,b.keys.trans a.keys,fun x=>(b.name x).trans (a.name x),fun x=>(b.heard x).trans (a.heard x),⟨L1++L2,?_,fun x hx => ?_,?_⟩,fun p hp x hx => ?_⟩
  ·show (w9A g was (r1A g was (s,o) d) ds).2=_
   rw [m1,l1,Bz]
  ·rcases Ck.1 hx with hx | hx
   ·obtain ⟨d',hd,q⟩:=l2 x hx
    rw [Bo.1 hd] at q
    exact ⟨d,Ax,q⟩
   ·obtain ⟨d',hd,q⟩:=m2 x hx
    exact ⟨d',Bb _ hd,q⟩
  ·rw [By] at l3
   rw [Ak,Be]; omega
  ·rcases b.snd p hp x hx with ⟨d',hd,q⟩ | ⟨q,hq,q1,q2⟩
   ·exact .inl ⟨d',Bb _ hd,q⟩
   ·rcases a.snd q hq x q2 with ⟨d',hd,z⟩ | ⟨z,hz,z1,z2⟩
    ·rw [Bo.1 hd] at z
     exact .inl ⟨d,Ax,z⟩
    ·exact .inr ⟨z,hz,z1.trans q1,z2⟩
def g5A (s:SvT) (o:List MsT) (gid:Int) (f:FlT) (a:j4A):SvT×List MsT×Int:=
 if (doR f a).2.2=0 then ((w9A (gid,(doR f a).1) f.2.1 ((s.1,g0A gid (doR f a).1 s.2.1,s.2.2),o) (doR f a).2.1).1,(w9A (gid,(doR f a).1) f.2.1 ((s.1,g0A gid (doR f a).1 s.2.1,s.2.2),o) (doR f a).2.1).2,0)
 else (s,o,(doR f a).2.2)
theorem v9C (f:FlT) (a:j4A):(doR f a).2.2=0∧f5A f=true∧k7A f a=true∧(doR f a).1=(doP f a).1∧(doR f a).2.1=(doP f a).2∨(doR f a).2.2=1∧doR f a=(zFl,[],1):=by
 unfold doR
 cases h:(f5A f&&k7A f a) with
 | true =>
  rw [Ac] at h
  exact .inl ⟨rfl,h.1,h.2,rfl,rfl⟩
 | false=>exact .inr ⟨rfl,rfl⟩
theorem o7E (W:List (Int×Int)) (x:Int):(unW W x).length≤W.length:=Cm _ _
theorem w0C {f:FlT} (h:szF f):szF (onP f).1:=by
 obtain ⟨s,e,h',p,u,l,n,W,M⟩:=f
 cases W with
 | nil=>exact ⟨by show 0≤_; omega,h.2⟩
 | cons w W =>
  have:=h.1
  exact ⟨by simp only [Be] at this; show W.length≤_; omega,h.2⟩
theorem w1C {f:FlT} {a:j4A} (h1:f5A f=true) (h2:k7A f a=true):szF (doP f a).1:=by
 obtain ⟨s,e,h,p,u,l,n,W,M⟩:=f
 obtain ⟨a0,a1,a2,a3,a4⟩:=a
 have o:=h0A.1 h1
 have hW:=o.W4
 have hM:=o.M8
 have rel:∀ M:List Int,M.length≤8→szF (q9A a1 (s,e,h,p,u,l,n,W,M)).1:=by
  intro M hM
  have:=o7E W a1
  unfold q9A
  dsimp only
  split
  ·exact w0C ⟨by show (unW W a1).length≤_; omega,by show M.length≤_; omega⟩
  ·exact ⟨by show (unW W a1).length≤_; omega,by show M.length≤_; omega⟩
 have same:∀ s e h p u l n,szF (s,e,h,p,u,l,n,W,M):=fun _ _ _ _ _ _ _=>⟨by show W.length≤_; omega,by show M.length≤_; omega⟩
 unfold doP
 dsimp only
 split
 ·unfold k4B
  dsimp only
  split
  ·exact same _ _ _ _ _ _ _
  ·split
   ·exact same _ _ _ _ _ _ _
   ·exact ⟨by show W.length≤_; omega,by show (d9A a1 M).length≤_; rw [x3B]; omega⟩
 ·split
  ·unfold k5B
   dsimp only
   split
   ·exact rel _ (Dz (Cm _ _) hM)
   ·exact same _ _ _ _ _ _ _
  ·split
   ·unfold k6B
    dsimp only
    have ins:∀ s,szF (s,e,h,p,u,l,n,W.take (e7A W a2)++(a1,a2)::W.drop (e7A W a2),M):=fun s=>⟨by
     show (W.take (e7A W a2)++(a1,a2)::W.drop (e7A W a2)).length≤_
     simp only [Ak,Be,Ap,Ar]; omega,by show M.length≤_; omega⟩
    repeat' split
    all_goals first | exact same _ _ _ _ _ _ _ | exact ins _
   ·split
    ·exact rel _ hM
    ·split
     ·unfold k7B
      dsimp only
      split <;> exact same _ _ _ _ _ _ _
     ·unfold k8B
      dsimp only
      split
      ·split
       ·exact w0C (same _ _ _ _ _ _ _)
       ·exact same _ _ _ _ _ _ _
      ·split
       ·exact w0C (same _ _ _ _ _ _ _)
       ·exact same _ _ _ _ _ _ _
theorem HS.setG {s:SvT} (h:HS s) {gid:Int} {f:FlT} (hf:szF f):HS (s.1,g0A gid f s.2.1,s.2.2):=
 { h with
  gs:=h3C.2 h.gs
  G:=by show (g0A _ _ _).length≤_; rw [l0B]; exact h.G
  fz:=fun g hg=>by
   rcases w8A hg with hg | rfl
   ·exact h.fz g hg
   ·exact hf }
theorem o8E {m0:MsT} {e:Int} {gid:Int} {f:FlT} {was:Int} {p:Nat} {all:List Dc} (hf:f.2.2.2.2.2.2.2.2.length≤1000) (hl:all.length≤2) :
  ∀ (l2 l1:List Dc) (s:SvT) (o:List MsT),all=l1++l2→HS s→s.2.1[p]? = some (gid,f)→o.length+1001*l2.length≤10000 →
   iter w5B ((p:Int),was,all,(all.length:Int),(l1.length:Int),(s,m0,o,e),())=some (((w9A (gid,f) was (s,o) l2).1,m0,(w9A (gid,f) was (s,o) l2).2,e),()):=by
 intro l2
 induction l2 with
 | nil =>
  intro l1 s o e1 _ _ _
  rw [Bc] at e1
  rw [←e1]
  refine m4A ?_
  unfold w5B
  dsimp only
  rw [dF (by omega)]
  rfl
 | cons d l2 ih =>
  intro l1 s o e1 hs hp ho
  rw [Be] at ho
  have hi:all[l1.length]? = some d:=by rw [e1]; simp
  have hlt:=g1A hi
  have hlp:=g1A hp
  have ws:IntKind.i64.wrap ((l1.length:Int)+1)=((l1.length+1:Nat):Int):=by rw [b8A (by omega) (by omega)]; rfl
  have k:=n1D (o:=o) (g:=(gid,f)) (was:=was) (d:=d) hs hf
  obtain ⟨L,l1',l2',l3'⟩:=k.out
  rw [By] at l3'
  have step:w5B ((p:Int),was,all,(all.length:Int),(l1.length:Int),(s,m0,o,e),())=some (.inl ((p:Int),was,all,(all.length:Int),((l1.length+1:Nat):Int),((r1A (gid,f) was (s,o) d).1,m0,(r1A (gid,f) was (s,o) d).2,e),())):=by
   unfold w5B
   dsimp only
   rw [dT (by omega),wT (by omega) (by omega),wT (by omega) (by omega),Ao,Ao,gD hp,gD hi,o1E (g:=(gid,f)) hs.P hs.ps hs.pz hs.pw hs.n0 hs.n1 hf (by omega),Aa]
   dsimp only
   rw [ws]
  rw [l5A step]
  have:=ih (l1++[d]) (r1A (gid,f) was (s,o) d).1 (r1A (gid,f) was (s,o) d).2 (by rw [e1]; simp) k.hs (by rw [k.grp]; exact hp) (by rw [l1',Ak]; omega)
  rw [Ak,By] at this
  rw [this]
  rfl
theorem n2D {s:SvT} {m0:MsT} {o:List MsT} {e gid:Int} {f:FlT} {a:j4A} {p:Nat} (h:HS s) (hp:AtT gid s.2.1 p) (hg:a5A gid s.2.1=some f) (ho:o.length≤7000) :
  t5A (s,m0,o,e) (p:Int) a=some (((g5A s o gid f a).1,m0,(g5A s o gid f a).2),()):=by
 obtain ⟨now,G,P⟩:=s
 have hi:=hp.get f hg
 have hlt:=g1A hi
 have fz:=h.fz _ (n8A hg)
 have hi:G[p]? = some (gid,f):=hi
 have hlt:p<G.length:=hlt
 unfold t5A g5A
 dsimp only
 rw [wT (by omega) (by omega),wT (by omega) (by omega),Ao,gD hi,m1E fz.1 fz.2,Aa]
 rcases v9C f a with ⟨h0,h1,h2,h3,h4⟩ | ⟨h0,h1⟩
 ·rw [nF h0,wT (by omega) (by omega),Aj h0,hp.set (by show (a5A gid G).isSome=true; rw [show a5A gid G=some f from hg]; rfl)]
  have sz:=w1C h1 h2
  have len:=(q8B h1 h2).len
  rw [h0,h3,h4]
  have hgs:(g0A gid (doP f a).1 G)[p]? = some (gid,(doP f a).1):=by
   rw [←hp.set (by show (a5A gid G).isSome=true; rw [show a5A gid G=some f from hg]; rfl),List.getElem?_set_self hlt]
  have:=o8E (m0:=m0) (e:=0) (was:=f.2.1) (p:=p) (all:=(doP f a).2) sz.2 len (doP f a).2 [] (now,g0A gid (doP f a).1 G,P) o rfl (h.setG sz) hgs (by omega)
  refine (Cp (fun z=>Option.bind z _) this).trans ?_
  rfl
 ·have hn:(doR f a).2.2≠0:=by rw [h0]; decide
  rw [nT hn,Ae hn]
def l2B (f:FlT) (m:MsT):MsT:=
 (11,m.2.1,0,m.2.2.1,m.2.2.2.2.1,m.2.2.2.2.2.1,(if f.1=1∧f.2.2.1=m.2.2.1∧f.2.1=m.2.2.2.2.2.1∧f5A f=true then f.2.2.2.2.2.1 else 0),0,ByteArray.empty,[])
theorem n3D {f:FlT} {x ep:Int} (hz:szF f):i8B f x ep=some (decide (f.1≠0∧f.2.2.1=x∧f.2.1=ep∧f5A f=true)):=by
 unfold i8B
 by_cases h1:f.1=0
 ·rw [nF h1,Am (fun q=>q.1 h1)]
 ·rw [nT h1]
  by_cases h2:f.2.2.1=x
  ·rw [eT h2]
   by_cases h3:f.2.1=ep
   ·rw [eT h3,g0B f (by have:=hz.2; omega) (by have:=hz.1; omega),Aa,c5B]
    cases hf:f5A f with
    | true=>rw [Ah ⟨h1,h2,h3,rfl⟩]
    | false=>rw [Am (fun q=>by cases q.2.2.2)]
   ·rw [eF h3,Am (fun q=>h3 q.2.2.1)]
  ·rw [eF h2,Am (fun q=>h2 q.2.1)]
theorem o9E {s:SvT} {m:MsT} {o:List MsT} {e:Int} {f:FlT} (h:HS s) (hg:a5A m.2.1 s.2.1=some f) (ho:o.length≤10000) :
  v9A (s,m,o,e)=some ((s,m,o++[l2B f m],e),()):=by
 obtain ⟨now,G,P⟩:=s
 obtain ⟨k,gid,fr,to,tid,ep,m⟩:=m
 obtain ⟨i,i1,i2⟩:=g2B (x:=fr) (show P.length≤1000000 by have:P.length≤1000:=h.P; omega) h.ps
 obtain ⟨j,j1,j2⟩:=g3B (x:=gid) (show G.length≤1000000 by have:G.length≤1000:=h.G; omega) h.gs
 have hj:=j2.get f hg
 have hlt:=g1A hj
 have hz:=h.fz _ (n8A hg)
 unfold v9A
 dsimp only
 rw [i1,Aa,j1,Aa,wT (by omega) (by omega),Ao,gD hj]
 have rm:∀ x:MsT,c6A 104 (o++[x]).length=true:=fun x=>n4A.2 (by rw [Ak,By]; omega)
 unfold l2B
 dsimp only
 by_cases h1:f.1=1
 ·rw [eT h1,n3D hz,Aa,Aa]
  dsimp only
  by_cases h2:f.1≠0∧f.2.2.1=fr∧f.2.1=ep∧f5A f=true
  ·rw [Ah h2,Al,Aa,rm,Al,Aj ⟨h1,h2.2⟩]
  ·rw [Am h2,Ai,Aa,rm,Al,Ae (fun q=>h2 ⟨by omega,q.2⟩)]
 ·rw [eF h1,Aa]
  dsimp only
  rw [Ai,Aa,rm,Al,Ae (fun q=>h1 q.1)]
def zSv:SvT:=(0,[],[])
def h1A (s:SvT) (m:MsT) (a:j4A):SvT×List MsT×Int:=
 if (h7A s m).2.1=true then g5A (h7A s m).1 [] m.2.1 ((a5A m.2.1 s.2.1).getD zFl) a else ((h7A s m).1,[],(h7A s m).2.2)
def y4B (f:FlT) (m:MsT):Bool:=decide (f.1≠0∧f.2.2.1=m.2.2.1∧f.2.1≠m.2.2.2.2.2.1)
def h8A (s:SvT) (m:MsT) (d:Int):SvT×List MsT×Int:=
 if y4B ((a5A m.2.1 s.2.1).getD zFl) m=true then ((h7A s m).1,[],(h7A s m).2.2) else h1A s m (d,m.2.2.1,0,0,0)
def l0A (r:SvT×List MsT×Int) (m:MsT):SvT×List MsT×Int:=(r.1,r.2.1++[l2B ((a5A m.2.1 r.1.2.1).getD zFl) m],r.2.2)
def x0A (s:SvT) (m:MsT):SvT:=
 match a5A m.2.2.1 s.2.2 with
 | none=>s
 | some x=>(s.1,s.2.1,g0A m.2.2.1 (x.1,z4A x.2 m.2.2.2.2.1) s.2.2)
def w2C (f:FlT) (m:MsT):Bool:=decide (f.1≠0∧f.2.2.1=m.2.2.1∧f.2.1=m.2.2.2.2.2.1∧f5A f=true)
def x1A (s:SvT) (m:MsT):List MsT:=
 if w2C ((a5A m.2.1 s.2.1).getD zFl) m=true then s7A m.2.1 m.2.2.1 (13,0,0,0,0,m.2.2.2.2.2.1,m.2.2.1,m.2.2.2.2.2.2.2.1,ByteArray.empty,m.2.2.2.2.2.2.2.2.2) ((a5A m.2.1 s.2.1).getD zFl).2.2.2.2.2.2.2.2 else []
def w3C (x:Int):Int:=if 7<x then 7 else x
def h2A (s:SvT) (m:MsT):SvT×List MsT×Int:=
 if m.1=1 then h1A s m (1,m.2.2.1,0,0,0) else if m.1=2 then l0A (h8A s m 2) m else
 if m.1=3 then h1A s m (3,m.2.2.1,w3C m.2.2.2.2.2.2.1,0,0) else if m.1=4 then l0A (h8A s m 4) m else
 if m.1=12 then l0A (h1A s m (5,m.2.2.1,0,m.2.2.2.2.2.1,0)) m else if m.1=11 then (x0A s m,[],0) else
 if m.1=13 then (s,x1A s m,0) else (s,[],0)
def x2A (k:Int):Bool:=(k==1)||(k==2)||(k==3)||(k==4)||(k==12)||(k==11)||(k==13)
def toB (s:SvT) (m:MsT):Bool:=x2A m.1&&(m.2.2.2.1==0)&&decide (m.2.2.1>0)&&m7A s m
def g4B (r:SvT×List MsT×Int):SvT×List MsT×Int:=if r.2.2=0 then (r.1,r.2.1,0) else (zSv,[],r.2.2)
def n9A (s:SvT) (m:MsT):SvT×List MsT×Int:=
 if (p6A s&&okM m)=true then (if toB s m=true then g4B (h2A (b3A s m) m) else (s,[],0)) else (zSv,[],1)
theorem l3B {s:SvT} {m:MsT} (h:HS s):HS (h7A s m).1∧(h7A s m).1.1=s.1∧(h7A s m).1.2.1=s.2.1∧(h7A s m).1.2.2.map (·.1)=s.2.2.map (·.1) ∧
  (∀ x,(a5A x (h7A s m).1.2.2).map (·.1)=(a5A x s.2.2).map (·.1))∧(∀ x,(a5A x (h7A s m).1.2.2).map (·.2.2.1)=(a5A x s.2.2).map (·.2.2.1)):=by
 unfold h7A
 cases hg:a5A m.2.2.1 s.2.2 with
 | none=>exact ⟨h,rfl,rfl,rfl,fun _=>rfl,fun _=>rfl⟩
 | some x =>
  have hm:=n8A hg
  have hz:=h.pz _ hm
  have hw:=h.pw _ hm
  dsimp only
  by_cases hq:(e2A x.2 m.2.2.1 m.2.2.2.2.1).2.2=0
  ·rw [Aj hq]
   rcases l8D (f:=m.2.2.1) (t:=m.2.2.2.2.1) hz.2 hw with ⟨_,q⟩ | ⟨_,q1,q2,q3,_⟩
   ·exact absurd hq q
   ·refine ⟨{ h with
     ps:=h3C.2 h.ps
     P:=by show (g0A _ _ _).length≤_; rw [l0B]; exact h.P
     pz:=fun y hy=>by
      rcases w8A hy with hy | rfl
      ·exact h.pz y hy
      ·exact ⟨hz.1,q2⟩
     pw:=fun y hy=>by
      rcases w8A hy with hy | rfl
      ·exact h.pw y hy
      ·exact q1 },rfl,rfl,q9B,fun y => ?_,fun y => ?_⟩
    ·show (a5A y (g0A m.2.2.1 _ s.2.2)).map _=_
     rw [c8B]
     by_cases e:m.2.2.1=y
     ·subst e; rw [Aj rfl,hg]; rfl
     ·rw [Ae e]
    ·show (a5A y (g0A m.2.2.1 _ s.2.2)).map _=_
     rw [c8B]
     by_cases e:m.2.2.1=y
     ·subst e; rw [Aj rfl,hg]
      exact Cp some q3
     ·rw [Ae e]
  ·rw [Ae hq]
   exact ⟨h,rfl,rfl,rfl,fun _=>rfl,fun _=>rfl⟩
theorem p0E {s:SvT} {m:MsT} {x:ByteArray×RS} (hz:HS s) (hx:a5A m.2.2.1 s.2.2=some x):(h7A s m).2.1=true→(h7A s m).2.2=0:=by
 intro h
 unfold h7A at h ⊢
 rw [hx] at h ⊢
 dsimp only at h ⊢
 by_cases hq:(e2A x.2 m.2.2.1 m.2.2.2.2.1).2.2=0
 ·rw [Aj hq]
 ·rw [Ae hq] at h; cases h
theorem w4C {s:SvT} {m:MsT}:(a5A m.2.2.1 (b3A s m).2.2).isSome=true∧(a5A m.2.1 (b3A s m).2.1).isSome=true:=by
 unfold b3A
 dsimp only
 constructor
 ·by_cases h:(a5A m.2.2.1 s.2.2).isSome=true
  ·rw [Aj h]; exact h
  ·rw [Ae h,y1B (by simpa using h),Aj rfl]; rfl
 ·by_cases h:(a5A m.2.1 s.2.1).isSome=true
  ·rw [Aj h]; exact h
  ·rw [Ae h,y1B (by simpa using h),Aj rfl]; rfl
theorem n4D {s:SvT} {m:MsT} (h:HS s) (hm:m.2.2.2.2.2.2.2.2.1.size≤9223372036854775807) (hG:s.2.1.length≤900) (hP:s.2.2.length≤900):HS (b3A s m):=by
 unfold b3A
 refine ⟨h.n0,h.n1,?_,?_,?_,?_,?_,?_,?_⟩
 ·dsimp only
  split
  ·exact h.gs
  ·rename_i q; exact u7C h.gs (by simpa using q)
 ·dsimp only
  split
  ·exact h.ps
  ·rename_i q; exact u7C h.ps (by simpa using q)
 ·dsimp only
  split
  ·exact h.G
  ·rw [y0B]; omega
 ·dsimp only
  split
  ·exact h.P
  ·rw [y0B]; omega
 ·dsimp only
  split
  ·exact h.fz
  ·intro g hg
   rcases l1B.1 hg with rfl | hg
   ·exact ⟨De _,De _⟩
   ·exact h.fz g hg
 ·dsimp only
  split
  ·exact h.pz
  ·intro g hg
   rcases l1B.1 hg with rfl | hg
   ·exact ⟨hm,by show 0≤_; decide,(fun _ q=>by cases q),by show 0≤_; decide,fun _ q=>by cases q⟩
   ·exact h.pz g hg
 ·dsimp only
  split
  ·exact h.pw
  ·intro g hg
   rcases l1B.1 hg with rfl | hg
   ·rfl
   ·exact h.pw g hg
theorem h7C {R:Type} {s:SvT} {m:MsT} {a:j4A} {x:ByteArray×RS} {f:FlT} (K:HlT→Option R) (h:HS s) (hx:a5A m.2.2.1 s.2.2=some x) (hf:a5A m.2.1 s.2.1=some f) :
  ((p4A (s,m,[],0)).bind fun y=>bif y.2 then
   (k5A y.1.1.2.2 y.1.2.1.2.2.1).bind fun _ =>
   (k6A y.1.1.2.1 y.1.2.1.2.1).bind fun y2 =>
   (t5A y.1 y2.1 a).bind fun y3=>K y3.1
   else K y.1)=K ((h1A s m a).1,m,(h1A s m a).2):=by
 have hm:=n8A hx
 have k:=l3B (m:=m) h
 have hfl:=p0E h hx
 rw [n0D h.G h.P h.gs h.ps hx (h.pz _ hm).2 (h.pw _ hm),Aa]
 dsimp only
 unfold h1A
 rw [hf]
 generalize h7A s m=r at k hfl ⊢
 obtain ⟨s1,b,e⟩:=r
 dsimp only at k hfl ⊢
 cases b with
 | false=>rfl
 | true =>
  obtain ⟨k1,k2,k3,k4,_⟩:=k
  have he:=hfl rfl
  subst he
  obtain ⟨i,i1,i2⟩:=g2B (l:=s1.2.2) (x:=m.2.2.1) (by have:=k1.P; omega) k1.ps
  obtain ⟨j,j1,j2⟩:=g3B (l:=s1.2.1) (x:=m.2.1) (by have:=k1.G; omega) k1.gs
  rw [Al,i1,Aa,j1,Aa,n2D (f:=f) k1 j2 (by rw [k3]; exact hf) (by simp),Aa,Aj rfl]
  rfl
theorem p1E {R:Type} {s:SvT} {m:MsT} {x:ByteArray×RS} (K:HlT→Option R) (h:HS s) (hx:a5A m.2.2.1 s.2.2=some x) :
  ((p4A (s,m,[],0)).bind fun y=>K y.1)=K ((h7A s m).1,m,[],(h7A s m).2.2):=by
 have hm:=n8A hx
 rw [n0D h.G h.P h.gs h.ps hx (h.pz _ hm).2 (h.pw _ hm),Aa]
theorem p2E {s:SvT} {gid:Int} {a:j4A} {f:FlT} (h:HS s) (hf:a5A gid s.2.1=some f):HS (g5A s [] gid f a).1∧(a5A gid (g5A s [] gid f a).1.2.1).isSome=true∧(g5A s [] gid f a).2.1.length≤2002:=by
 rcases v9C f a with ⟨h0,h1,h2,h3,h4⟩ | ⟨h0,h1⟩
 ·have e:g5A s [] gid f a=((w9A (gid,(doP f a).1) f.2.1 ((s.1,g0A gid (doP f a).1 s.2.1,s.2.2),[]) (doP f a).2).1,(w9A (gid,(doP f a).1) f.2.1 ((s.1,g0A gid (doP f a).1 s.2.1,s.2.2),[]) (doP f a).2).2,0):=by
   unfold g5A
   rw [Aj h0,h3,h4]
  rw [e]
  have sz:=w1C h1 h2
  have t:=v8C (g:=(gid,(doP f a).1)) (was:=f.2.1) sz.2 (ds:=(doP f a).2) (o:=[]) (h.setG (gid:=gid) sz)
  obtain ⟨L,l1,l2,l3⟩:=t.out
  refine ⟨t.hs,?_,?_⟩
  ·rw [t.grp]
   dsimp only
   rw [c8B,Aj rfl,hf]; rfl
  ·dsimp only
   rw [l1,Cv]
   have:=(q8B h1 h2).len
   omega
 ·have e:g5A s [] gid f a=(s,[],1):=by
   have hn:(doR f a).2.2≠0:=by rw [h0]; decide
   unfold g5A
   rw [Ae hn,h0]
  rw [e]
  exact ⟨h,by dsimp only; rw [hf]; rfl,by simp⟩
theorem w5C {s:SvT} {m:MsT} {a:j4A} {f:FlT} (h:HS s) (hf:a5A m.2.1 s.2.1=some f):HS (h1A s m a).1∧(a5A m.2.1 (h1A s m a).1.2.1).isSome=true∧(h1A s m a).2.1.length≤2002:=by
 obtain ⟨k1,k2,k3,_⟩:=l3B (m:=m) h
 unfold h1A
 by_cases hb:(h7A s m).2.1=true
 ·rw [Aj hb,hf]
  exact p2E k1 (by rw [k3]; exact hf)
 ·rw [Ae hb]
  exact ⟨k1,by dsimp only; rw [k3,hf]; rfl,by simp⟩
theorem n5D {s:SvT} {m:MsT} {d:Int} {f:FlT} (h:HS s) (hf:a5A m.2.1 s.2.1=some f):HS (h8A s m d).1∧(a5A m.2.1 (h8A s m d).1.2.1).isSome=true∧(h8A s m d).2.1.length≤2002:=by
 unfold h8A
 split
 ·obtain ⟨k1,k2,k3,_⟩:=l3B (m:=m) h
  exact ⟨k1,by dsimp only; rw [k3,hf]; rfl,by simp⟩
 ·exact w5C h hf
theorem n6D {R:Type} {r:SvT×List MsT×Int} {m:MsT} (K:HlT→Option R) (h:HS r.1) (hf:(a5A m.2.1 r.1.2.1).isSome=true) (ho:r.2.1.length≤2002) :
  ((v9A (r.1,m,r.2)).bind fun y=>K y.1)=K ((l0A r m).1,m,(l0A r m).2):=by
 obtain ⟨f,hf⟩:=Dn.1 hf
 have:=o9E (o:=r.2.1) (e:=r.2.2) h hf (by omega)
 rw [show v9A (r.1,m,r.2)=_ from this,Aa]
 unfold l0A
 rw [hf]
 rfl
theorem p3E {f:FlT} {h:HlT} {m:MsT} {d:Int}:(bif (f.1 != 0) then
 bif (f.2.2.1==m.2.2.1) then
 some (d,(f.2.1 != m.2.2.2.2.2.1),h,())
 else
 some (d,false,h,())
 else
 some (d,false,h,()):Option (Int×Bool×HlT×Unit))=some (d,y4B f m,h,()):=by
 unfold y4B
 by_cases h1:f.1=0
 ·rw [nF h1,Am (fun q=>q.1 h1)]
 ·rw [nT h1]
  by_cases h2:f.2.2.1=m.2.2.1
  ·rw [eT h2]
   by_cases h3:f.2.1=m.2.2.2.2.2.1
   ·rw [Am (fun q=>q.2.2 h3),show (f.2.1 != m.2.2.2.2.2.1)=false by rw [h3]; exact Fe _]
   ·rw [Ah ⟨h1,h2,h3⟩,show (f.2.1 != m.2.2.2.2.2.1)=true from bne_iff_ne.2 h3]
  ·rw [eF h2,Am (fun q=>h2 q.2.1)]
theorem l4B {R:Type} {s:SvT} {m:MsT} {d:Int} {x:ByteArray×RS} {f:FlT} (K:HlT→Option R) (h:HS s) (hx:a5A m.2.2.1 s.2.2=some x) (hf:a5A m.2.1 s.2.1=some f) :
  ((k5A s.2.2 m.2.2.1).bind fun _ =>
 (k6A s.2.1 m.2.1).bind fun y20 =>
 bif (a7A y20.1 s.2.1.length) then
 ((bif (((((s.2.1.getD y20.1.toNat (0,(0,(0,(0,(0,(0,(0,(0,([],[]))))))))))).2).1) != 0) then
 bif (((((((s.2.1.getD y20.1.toNat (0,(0,(0,(0,(0,(0,(0,(0,([],[]))))))))))).2).2).2).1)==m.2.2.1) then
 some (d,((((((s.2.1.getD y20.1.toNat (0,(0,(0,(0,(0,(0,(0,(0,([],[]))))))))))).2).2).1) != m.2.2.2.2.2.1),((s,m,[],0):HlT),())
 else
 some (d,false,(s,m,[],0),())
 else
 some (d,false,(s,m,[],0),()):Option ((Int×Bool×HlT×Unit))).bind fun j21 =>
 bif j21.2.1 then
 (p4A j21.2.2.1).bind fun y22 =>
 some (j21.1,y22.1,())
 else
 (p4A j21.2.2.1).bind fun y23 =>
 bif y23.2 then
 (k5A y23.1.1.2.2 y23.1.2.1.2.2.1).bind fun y24 =>
 (k6A y23.1.1.2.1 y23.1.2.1.2.1).bind fun y25 =>
 (t5A y23.1 y25.1 (j21.1,(j21.2.2.1.2.1.2.2.1,(0,(0,0))))).bind fun y26 =>
 some (j21.1,y26.1,())
 else
 some (j21.1,y23.1,()):Option ((Int×HlT×Unit))).bind fun j27 =>
 (v9A j27.2.1).bind fun y28 =>
 K y28.1
 else none)=K ((l0A (h8A s m d) m).1,m,(l0A (h8A s m d) m).2):=by
 obtain ⟨i,i1,i2⟩:=g2B (l:=s.2.2) (x:=m.2.2.1) (by have:=h.P; omega) h.ps
 obtain ⟨j,j1,j2⟩:=g3B (l:=s.2.1) (x:=m.2.1) (by have:=h.G; omega) h.gs
 have hj:=j2.get f hf
 have hlt:=g1A hj
 rw [i1,Aa,j1,Aa]
 dsimp only
 rw [wT (by omega) (by omega),Ao,gD hj]
 dsimp only
 rw [p3E,Aa]
 dsimp only
 have bk:=n5D (d:=d) h hf
 have fin:(some (d,(((h8A s m d).1,m,(h8A s m d).2):HlT),()):Option (Int×HlT×Unit)).bind (fun j27=>(v9A j27.2.1).bind fun y28=>K y28.1)=K ((l0A (h8A s m d) m).1,m,(l0A (h8A s m d) m).2):=by
  rw [Aa]
  exact n6D K bk.1 bk.2.1 bk.2.2
 refine Eq.trans ?_ fin
 refine Cp (fun z=>Option.bind z _) ?_
 unfold h8A
 rw [hf]
 cases ho:y4B f m with
 | true =>
  rw [Al,Aj (by exact ho)]
  exact p1E (fun hh=>some (d,hh,())) h hx
 | false =>
  rw [Ai,Ae (by rw [Option.getD_some,ho]; decide)]
  exact h7C (fun hh=>some (d,hh,())) h hx hf
theorem p4E {R:Type} {s:SvT} {m:MsT} {a:j4A} {x:ByteArray×RS} {f:FlT} (K:HlT→Option R) (h:HS s) (hx:a5A m.2.2.1 s.2.2=some x) (hf:a5A m.2.1 s.2.1=some f) :
  (((p4A (s,m,[],0)).bind fun y=>bif y.2 then
   (k5A y.1.1.2.2 y.1.2.1.2.2.1).bind fun _ =>
   (k6A y.1.1.2.1 y.1.2.1.2.1).bind fun y2 =>
   (t5A y.1 y2.1 a).bind fun y3=>some (y3.1,())
   else some (y.1,()):Option (HlT×Unit)).bind fun j50 =>
 (v9A j50.1).bind fun y51=>K y51.1)=K ((l0A (h1A s m a) m).1,m,(l0A (h1A s m a) m).2):=by
 have k:=w5C (a:=a) h hf
 refine (Cp (fun z=>Option.bind z _) (h7C (fun hh=>some (hh,())) h hx hf)).trans ?_
 rw [Aa]
 exact n6D K k.1 k.2.1 k.2.2
theorem p5E {R:Type} {s:SvT} {m:MsT} {x:ByteArray×RS} {f:FlT} (K:HlT→Option R) (h:HS s) (hx:a5A m.2.2.1 s.2.2=some x) (_:a5A m.2.1 s.2.1=some f) :
  ((k5A s.2.2 m.2.2.1).bind fun y53 =>
 (k6A s.2.1 m.2.1).bind fun y54 =>
 bif (a7A y53.1 s.2.2.length) then
 (e5B ((((s.2.2.getD y53.1.toNat (0,(ByteArray.empty,(0,([],[])))))).2).2) m.2.2.2.2.1).bind fun y55 =>
 bif (a7A y53.1 s.2.2.length) then
 K ((s.1,(s.2.1,(s.2.2.set y53.1.toNat (((s.2.2.getD y53.1.toNat (0,(ByteArray.empty,(0,([],[])))))).1,((((s.2.2.getD y53.1.toNat (0,(ByteArray.empty,(0,([],[])))))).2).1,y55.1))))),(m,[],0))
 else none
 else none)=K (x0A s m,m,[],0):=by
 obtain ⟨i,i1,i2⟩:=g2B (l:=s.2.2) (x:=m.2.2.1) (by have:=h.P; omega) h.ps
 obtain ⟨j,j1,j2⟩:=g3B (l:=s.2.1) (x:=m.2.1) (by have:=h.G; omega) h.gs
 have hi:=i2.get x hx
 have hlt:=g1A hi
 have hz:=h.pz _ (n8A hx)
 have hw:=h.pw _ (n8A hx)
 rw [i1,Aa,j1,Aa]
 dsimp only
 rw [wT (by omega) (by omega),Ao,gD hi,k7D hz.2 hw,Aa,wT (by omega) (by omega)]
 unfold x0A
 rw [hx]
 dsimp only
 rw [i2.set (by rw [hx]; rfl)]
theorem p6E {m:MsT} (h:okM m=true):m.2.2.2.2.2.2.2.2.2.length≤64:=(s7C h).1
theorem p7E {f:FlT} {m:MsT} (hz:szF f):i8B f m.2.2.1 m.2.2.2.2.2.1=some (w2C f m):=n3D hz
theorem p8E {R:Type} {s:SvT} {m:MsT} {x:ByteArray×RS} {f:FlT} (K:HlT→Option R) (h:HS s) (_:a5A m.2.2.1 s.2.2=some x) (hf:a5A m.2.1 s.2.1=some f) (hd:m.2.2.2.2.2.2.2.2.2.length≤64) :
  ((k5A s.2.2 m.2.2.1).bind fun y57 =>
 (k6A s.2.1 m.2.1).bind fun y58 =>
 bif (a7A y58.1 s.2.1.length) then
 (i8B (((s.2.1.getD y58.1.toNat (0,(0,(0,(0,(0,(0,(0,(0,([],[]))))))))))).2) m.2.2.1 m.2.2.2.2.2.1).bind fun y59 =>
 bif y59 then
 (e7B (s,m,[],0) (s.2.1.getD y58.1.toNat (0,(0,(0,(0,(0,(0,(0,(0,([],[])))))))))) m.2.2.1 (13,(0,(0,(0,(0,(m.2.2.2.2.2.1,(m.2.2.1,(m.2.2.2.2.2.2.2.1,(ByteArray.empty,m.2.2.2.2.2.2.2.2.2)))))))))).bind fun y60 =>
 K y60.1
 else
 K (s,m,[],0)
 else none)=K (s,m,x1A s m,0):=by
 obtain ⟨i,i1,i2⟩:=g2B (l:=s.2.2) (x:=m.2.2.1) (by have:=h.P; omega) h.ps
 obtain ⟨j,j1,j2⟩:=g3B (l:=s.2.1) (x:=m.2.1) (by have:=h.G; omega) h.gs
 have hj:=j2.get f hf
 have hlt:=g1A hj
 have hz:=h.fz _ (n8A hf)
 rw [i1,Aa,j1,Aa]
 dsimp only
 rw [wT (by omega) (by omega),Ao,gD hj]
 dsimp only
 rw [p7E hz,Aa]
 unfold x1A
 rw [hf]
 cases hg:w2C f m with
 | true =>
  rw [Al,Aj (by exact hg)]
  have:=v6C (s:=s) (m0:=m) (m:=(13,(0,(0,(0,(0,(m.2.2.2.2.2.1,(m.2.2.1,(m.2.2.2.2.2.2.2.1,(ByteArray.empty,m.2.2.2.2.2.2.2.2.2)))))))))) (o:=[]) (e:=0) (but:=m.2.2.1) (g:=(m.2.1,f)) (by have:=hz.2; show f.2.2.2.2.2.2.2.2.length≤_; omega) (by show m.2.2.2.2.2.2.2.2.2.length≤_; omega) (by simp)
  rw [this,Aa]
  rfl
 | false=>rw [Ai,Ae (by rw [Option.getD_some,hg]; decide)]
set_option maxHeartbeats 4000000 in
theorem w6C {s:SvT} {m:MsT} (hz:szS s) (hm:szM m):e8B s m=some (n9A s m):=by
 have s1:((e4B s).bind fun y1 =>
 bif (y1 != 0) then
 some (true,s,m,zSv,())
 else
 (b9B m).bind fun y2 =>
 some ((y2 != 0),s,m,zSv,()):Option ((Bool×SvT×MsT×SvT×Unit)))=some (!(p6A s&&okM m),s,m,zSv,()):=by
  rw [u9C hz,Aa]
  cases p6A s with
  | false=>rfl
  | true =>
   show ((b9B m).bind fun y2=>some ((y2 != 0),s,m,zSv,()))=_
   rw [s6C hm.1,Aa]
   cases okM m <;> rfl
 unfold e8B
 refine (Cp (fun z=>Option.bind z _) s1).trans ?_
 rw [Aa]
 dsimp only
 unfold n9A
 cases hc:(p6A s&&okM m) with
 | false=>rfl
 | true =>
 rw [Cc,Ai,Aj rfl]
 have hs:p6A s=true:=(Ac _ _▸hc).1
 have o:=y2B.1 hs
 have h:=o.hs hz
 have hG4:=o.G4
 have hP16:=o.P16
 rw [v0C h.G,Aa,v1C h.P,Aa,v2C h.G h.fz,Aa]
 dsimp only
 rw [v3C h.P h.pz h.pw,Aa]
 dsimp only
 have hcs:HS (b3A s m):=n4D h hm.1 (by omega) (by omega)
 obtain ⟨x,hx⟩:=Dn.1 (w4C (s:=s) (m:=m)).1
 obtain ⟨f,hf⟩:=Dn.1 (w4C (s:=s) (m:=m)).2
 have fin:∀ r:SvT×List MsT×Int,((some (zSv,((r.1,m,r.2):HlT),()):Option (SvT×HlT×Unit)).bind fun j61 =>
 bif (j61.2.1.2.2.2 != 0) then
 some ((0,([],[])),([],j61.2.1.2.2.2))
 else
 some (j61.2.1.1,(j61.2.1.2.2.1,0)):Option (SvT×List MsT×Int))=some (g4B r):=by
  intro r
  rw [Aa]
  dsimp only
  unfold g4B
  by_cases hr:r.2.2=0
  ·rw [nF hr,Aj hr]
  ·rw [nT hr,Ae hr]; rfl
 have pick:(if toB s m=true then g4B (h2A (b3A s m) m) else (s,[],0))=g4B (if toB s m=true then h2A (b3A s m) m else (s,[],0)):=by
  by_cases ht:toB s m=true
  ·rw [Aj ht,Aj ht]
  ·rw [Ae ht,Ae ht]; rfl
 rw [pick]
 refine Eq.trans ?_ (fin _)
 refine Cp (fun z=>Option.bind z _) ?_
 have comes:=n9E (s:=s) (m:=m) (o:=[]) (e:=0) h.G h.P h.gs h.ps
 have comes:v8A ((s.1,s.2.1,s.2.2),m,[],0)=_:=comes
 have no:∀ {p:Prop} [Decidable p],¬ p→(some (zSv,(((s.1,s.2.1,s.2.2),m,[],0):HlT),()):Option (SvT×HlT×Unit))=some (zSv,((if p then h2A (b3A s m) m else (s,[],0)).1,m,(if p then h2A (b3A s m) m else (s,[],0)).2),()):=by
  intro p _ hp
  rw [Ae hp]
 by_cases k1:m.1=1
 ·rw [dT k1]
  by_cases ht:m.2.2.2.1=0
  ·rw [eT ht]
   by_cases hfr:m.2.2.1>0
   ·rw [dT hfr,comes]
    cases hcb:m7A s m with
    | false =>
     rw [Ae (by decide),Aa]
     refine no ?_
     unfold toB
     rw [hcb,Bw]; decide
    | true =>
     have hto:toB s m=true:=by
      unfold toB x2A
      rw [hcb,k1,ht,Ah hfr]; rfl
     rw [Aj rfl,Aa,Aj hto]
     dsimp only
     rw [Al]
     have hw:h2A (b3A s m) m=h1A (b3A s m) m (1,m.2.2.1,0,0,0):=by
      unfold h2A
      rw [k1]; rfl
     rw [hw]
     exact h7C (fun hh=>some (zSv,hh,())) hcs hx hf
   ·rw [dF hfr]
    refine no ?_
    unfold toB
    rw [Am hfr,Bw,Bh]; decide
  ·rw [eF ht]
   refine no ?_
   unfold toB
   rw [Bg ht,Bw,Bh,Bh]; decide
 rw [dF k1]
 by_cases k2:m.1=2
 ·rw [dT k2]
  by_cases ht:m.2.2.2.1=0
  ·rw [eT ht]
   by_cases hfr:m.2.2.1>0
   ·rw [dT hfr,comes]
    cases hcb:m7A s m with
    | false =>
     rw [Ae (by decide),Aa]
     refine no ?_
     unfold toB
     rw [hcb,Bw]; decide
    | true =>
     have hto:toB s m=true:=by
      unfold toB x2A
      rw [hcb,k2,ht,Ah hfr]; rfl
     rw [Aj rfl,Aa,Aj hto]
     dsimp only
     rw [Al]
     have hw:h2A (b3A s m) m=l0A (h8A (b3A s m) m 2) m:=by
      unfold h2A
      rw [k2]; rfl
     rw [hw]
     exact l4B (fun hh=>some (zSv,hh,())) hcs hx hf
   ·rw [dF hfr]
    refine no ?_
    unfold toB
    rw [Am hfr,Bw,Bh]; decide
  ·rw [eF ht]
   refine no ?_
   unfold toB
   rw [Bg ht,Bw,Bh,Bh]; decide
 rw [dF k2]
 by_cases k3:m.1=3
 ·rw [dT k3]
  by_cases ht:m.2.2.2.1=0
  ·rw [eT ht]
   by_cases hfr:m.2.2.1>0
   ·rw [dT hfr,comes]
    cases hcb:m7A s m with
    | false =>
     rw [Ae (by decide),Aa]
     refine no ?_
     unfold toB
     rw [hcb,Bw]; decide
    | true =>
     have hto:toB s m=true:=by
      unfold toB x2A
      rw [hcb,k3,ht,Ah hfr]; rfl
     rw [Aj rfl,Aa,Aj hto]
     dsimp only
     rw [Al]
     have hw:h2A (b3A s m) m=h1A (b3A s m) m (3,m.2.2.1,w3C m.2.2.2.2.2.2.1,0,0):=by
      unfold h2A
      rw [k3]; rfl
     rw [hw]
     exact h7C (fun hh=>some (zSv,hh,())) hcs hx hf
   ·rw [dF hfr]
    refine no ?_
    unfold toB
    rw [Am hfr,Bw,Bh]; decide
  ·rw [eF ht]
   refine no ?_
   unfold toB
   rw [Bg ht,Bw,Bh,Bh]; decide
 rw [dF k3]
 by_cases k4:m.1=4
 ·rw [dT k4]
  by_cases ht:m.2.2.2.1=0
  ·rw [eT ht]
   by_cases hfr:m.2.2.1>0
   ·rw [dT hfr,comes]
    cases hcb:m7A s m with
    | false =>
     rw [Ae (by decide),Aa]
     refine no ?_
     unfold toB
     rw [hcb,Bw]; decide
    | true =>
     have hto:toB s m=true:=by
      unfold toB x2A
      rw [hcb,k4,ht,Ah hfr]; rfl
     rw [Aj rfl,Aa,Aj hto]
     dsimp only
     rw [Al]
     have hw:h2A (b3A s m) m=l0A (h8A (b3A s m) m 4) m:=by
      unfold h2A
      rw [k4]; rfl
     rw [hw]
     exact l4B (fun hh=>some (zSv,hh,())) hcs hx hf
   ·rw [dF hfr]
    refine no ?_
    unfold toB
    rw [Am hfr,Bw,Bh]; decide
  ·rw [eF ht]
   refine no ?_
   unfold toB
   rw [Bg ht,Bw,Bh,Bh]; decide
 rw [dF k4]
 by_cases k12:m.1=12
 ·rw [dT k12]
  by_cases ht:m.2.2.2.1=0
  ·rw [eT ht]
   by_cases hfr:m.2.2.1>0
   ·rw [dT hfr,comes]
    cases hcb:m7A s m with
    | false =>
     rw [Ae (by decide),Aa]
     refine no ?_
     unfold toB
     rw [hcb,Bw]; decide
    | true =>
     have hto:toB s m=true:=by
      unfold toB x2A
      rw [hcb,k12,ht,Ah hfr]; rfl
     rw [Aj rfl,Aa,Aj hto]
     dsimp only
     rw [Al]
     have hw:h2A (b3A s m) m=l0A (h1A (b3A s m) m (5,m.2.2.1,0,m.2.2.2.2.2.1,0)) m:=by
      unfold h2A
      rw [k12]; rfl
     rw [hw]
     exact p4E (fun hh=>some (zSv,hh,())) hcs hx hf
   ·rw [dF hfr]
    refine no ?_
    unfold toB
    rw [Am hfr,Bw,Bh]; decide
  ·rw [eF ht]
   refine no ?_
   unfold toB
   rw [Bg ht,Bw,Bh,Bh]; decide
 rw [dF k12]
 by_cases k11:m.1=11
 ·rw [dT k11]
  by_cases ht:m.2.2.2.1=0
  ·rw [eT ht]
   by_cases hfr:m.2.2.1>0
   ·rw [dT hfr,comes]
    cases hcb:m7A s m with
    | false =>
     rw [Ae (by decide),Aa]
     refine no ?_
     unfold toB
     rw [hcb,Bw]; decide
    | true =>
     have hto:toB s m=true:=by
      unfold toB x2A
      rw [hcb,k11,ht,Ah hfr]; rfl
     rw [Aj rfl,Aa,Aj hto]
     dsimp only
     rw [Al]
     have hw:h2A (b3A s m) m=(x0A (b3A s m) m,[],0):=by
      unfold h2A
      rw [k11]; rfl
     rw [hw]
     exact p5E (fun hh=>some (zSv,hh,())) hcs hx hf
   ·rw [dF hfr]
    refine no ?_
    unfold toB
    rw [Am hfr,Bw,Bh]; decide
  ·rw [eF ht]
   refine no ?_
   unfold toB
   rw [Bg ht,Bw,Bh,Bh]; decide
 rw [dF k11]
 by_cases k13:m.1=13
 ·rw [dT k13]
  by_cases ht:m.2.2.2.1=0
  ·rw [eT ht]
   by_cases hfr:m.2.2.1>0
   ·rw [dT hfr,comes]
    cases hcb:m7A s m with
    | false =>
     rw [Ae (by decide),Aa]
     refine no ?_
     unfold toB
     rw [hcb,Bw]; decide
    | true =>
     have hto:toB s m=true:=by
      unfold toB x2A
      rw [hcb,k13,ht,Ah hfr]; rfl
     rw [Aj rfl,Aa,Aj hto]
     dsimp only
     rw [Al]
     have hw:h2A (b3A s m) m=(b3A s m,x1A (b3A s m) m,0):=by
      unfold h2A
      rw [k13]; rfl
     rw [hw]
     exact p8E (fun hh=>some (zSv,hh,())) hcs hx hf (p6E ((Ac _ _▸hc).2))
   ·rw [dF hfr]
    refine no ?_
    unfold toB
    rw [Am hfr,Bw,Bh]; decide
  ·rw [eF ht]
   refine no ?_
   unfold toB
   rw [Bg ht,Bw,Bh,Bh]; decide
 rw [dF k13]
 refine no ?_
 unfold toB x2A
 rw [Bg k1,Bg k2,Bg k3,Bg k4,Bg k12,Bg k11,Bg k13]
 simp
def l5B (s:SvT) (id:Int):FlT×Bool:=
 if p6A s=true then (match a5A id s.2.1 with
  | some f=>(f,true)
  | none=>(zFl,false)) else (zFl,false)
theorem w7C {s:SvT} {id:Int} (hz:szS s):p1B s id=some (l5B s id):=by
 unfold p1B l5B
 rw [u9C hz,Aa]
 cases hs:p6A s with
 | false=>rfl
 | true =>
  have o:=y2B.1 hs
  have h:=o.hs hz
  rw [Aj rfl,show (err true != 0)=false from rfl,Ai,v0C h.G,Aa,v1C h.P,Aa,n6E,n7E,v2C h.G h.fz,Aa]
  dsimp only
  rw [v3C h.P h.pz h.pw,Aa]
  dsimp only
  obtain ⟨j,j1,j2⟩:=g3B (l:=s.2.1) (x:=id) (by have:=h.G; omega) h.gs
  rw [j1,Aa]
  dsimp only
  cases hg:a5A id s.2.1 with
  | none=>rfl
  | some f =>
   have hj:=j2.get f hg
   have hlt:=g1A hj
   rw [show (some f).isSome=true from rfl,Cc,Ai,wT (by omega) (by omega),Ao,gD hj]
theorem h8C {A:Type} (a b:A) (l2:List A):∀ l1:List A,(l1++a::l2).set l1.length b=l1++b::l2
 | []=>rfl
 | x::l1=>by
  show x::(l1++a::l2).set l1.length b=_
  rw [h8C a b l2 l1]; rfl
theorem n7D {V:Type} {l:List (Int×V)} {i:Nat} {a:Int×V} (hs:j5A l) (hi:l[i]? = some a):AtT a.1 l i:=by
 have hlt:=g1A hi
 refine u8C (by omega) hs ⟨fun b hb => ?_,fun b hb => ?_⟩
 ·have hsp:l=l.take i++a::l.drop (i+1):=by rw [←o5A hi,Dt]
  unfold j5A at hs
  rw [hsp,List.pairwise_append] at hs
  exact hs.2.2 b hb a Ax
 ·have hsp:l=l.take i++a::l.drop (i+1):=by rw [←o5A hi,Dt]
  unfold j5A at hs
  rw [hsp,List.pairwise_append] at hs
  rw [o5A hi] at hb
  rcases Bf.1 hb with rfl | hb
  ·exact Df _
  ·have:a.1<b.1:=(List.pairwise_cons.1 hs.2.1).1 b hb
   show a.1≤b.1
   omega
def r2A (a:j4A) (r:SvT×List MsT) (g:GrT):SvT×List MsT:=((g5A r.1 r.2 g.1 g.2 a).1,(g5A r.1 r.2 g.1 g.2 a).2.1)
theorem n8D {s:SvT} {o:List MsT} {gid:Int} {f:FlT} {a:j4A} (h1:f5A f=true) (h2:k7A f a=true) :
  g5A s o gid f a=((w9A (gid,(doP f a).1) f.2.1 ((s.1,g0A gid (doP f a).1 s.2.1,s.2.2),o) (doP f a).2).1,(w9A (gid,(doP f a).1) f.2.1 ((s.1,g0A gid (doP f a).1 s.2.1,s.2.2),o) (doP f a).2).2,0):=by
 unfold g5A
 rw [k9B h1 h2]
 rfl
theorem w8C {s:SvT} {o:List MsT} {gid:Int} {f:FlT} {a:j4A} (h:HS s) (h1:f5A f=true) (h2:k7A f a=true) :
  v7C (gid,(doP f a).1) (doP f a).2 (s.1,g0A gid (doP f a).1 s.2.1,s.2.2) o ((g5A s o gid f a).1,(g5A s o gid f a).2.1):=by
 rw [n8D h1 h2]
 have sz:=w1C h1 h2
 exact v8C sz.2 (h.setG (gid:=gid) sz)
theorem p9E {m0:MsT} {z:SvT} {N:Nat}:∀ (l2 l1:List GrT) (s:SvT) (o:List MsT),s.2.1=l1++l2→s.2.1.length=N→HS s→(∀ g∈l2,f5A g.2=true∧k7A g.2 (6,0,0,0,s.1)=true)→o.length+2002*l2.length≤9000 →
  iter w7B ((N:Int),(l1.length:Int),z,(s,m0,o,0),())=some (z,((l2.foldl (r2A (6,0,0,0,s.1)) (s,o)).1,m0,(l2.foldl (r2A (6,0,0,0,s.1)) (s,o)).2,0),()):=by
 intro l2
 induction l2 with
 | nil =>
  intro l1 s o e1 hN _ _ _
  rw [Bc] at e1
  rw [e1] at hN
  refine m4A ?_
  unfold w7B
  dsimp only
  rw [dF (by omega)]
  rfl
 | cons g l2 ih =>
  intro l1 s o e1 hN h hk ho
  rw [Be] at ho
  have hi:s.2.1[l1.length]? = some g:=by rw [e1]; simp
  have hlt:=g1A hi
  have hG:=h.G
  have ha:=n7D h.gs hi
  have ws:IntKind.i64.wrap ((l1.length:Int)+1)=((l1.length+1:Nat):Int):=by rw [b8A (by omega) (by omega)]; rfl
  obtain ⟨k1,k2⟩:=hk g Ax
  have hg:a5A g.1 s.2.1=some g.2:=c7B h.gs (h6A hi)
  have k:=w8C (o:=o) (gid:=g.1) h k1 k2
  have len:=(q8B k1 k2).len
  obtain ⟨L,q1,q2,q3⟩:=k.out
  have e0:(g5A s o g.1 g.2 (6,0,0,0,s.1)).2.2=0:=by rw [n8D k1 k2]
  have step:w7B ((N:Int),(l1.length:Int),z,(s,m0,o,0),())=some (.inl ((N:Int),((l1.length+1:Nat):Int),z,((g5A s o g.1 g.2 (6,0,0,0,s.1)).1,m0,(g5A s o g.1 g.2 (6,0,0,0,s.1)).2.1,0),())):=by
   unfold w7B
   dsimp only
   rw [dT (by omega)]
   have:=n2D (m0:=m0) (e:=0) (a:=(6,0,0,0,s.1)) h ha hg (o:=o) (by omega)
   refine (Cp (fun z=>Option.bind z _) this).trans ?_
   rw [Aa]
   dsimp only
   rw [ws]
   refine Cp (fun q=>some (Sum.inl ((N:Int),((l1.length+1:Nat):Int),z,q,()))) ?_
   show ((g5A s o g.1 g.2 (6,0,0,0,s.1)).1,m0,(g5A s o g.1 g.2 (6,0,0,0,s.1)).2.1,(g5A s o g.1 g.2 (6,0,0,0,s.1)).2.2)=_
   rw [e0]
  rw [l5A step]
  have grp:=k.grp
  have now:=k.now
  dsimp only at grp now q1
  have e2:(g5A s o g.1 g.2 (6,0,0,0,s.1)).1.2.1=(l1++[(g.1,(doP g.2 (6,0,0,0,s.1)).1)])++l2:=by
   rw [grp,←ha.set (by rw [hg]; rfl),e1,Bz]
   exact h8C _ _ _ _
  have:=ih (l1++[(g.1,(doP g.2 (6,0,0,0,s.1)).1)]) (g5A s o g.1 g.2 (6,0,0,0,s.1)).1 (g5A s o g.1 g.2 (6,0,0,0,s.1)).2.1 e2 (by rw [grp,l0B,hN]) k.hs (by rw [now]; exact fun g' hg'=>hk g' (Bb _ hg')) (by
   rw [q1,Ak]; omega)
  rw [Ak,By,now] at this
  rw [this]
  rfl
def p7A (n:Int) (x:PeT):PeT:=(x.1,x.2.1,f7B x.2.2 n)
def t8A (n:Int) (x:PeT):List MsT:=q8A n (k1A n x.2.2.2.1)
theorem n9D {n:Int} {x:PeT} (h:okW x.2.2=true):(t8A n x).length≤64:=by
 unfold t8A q8A k1A
 rw [List.length_map]
 refine Dz (Cm _ _) (Dz (Cm _ _) ?_)
 exact (k3B h).1
theorem q0E {m0:MsT} {z:SvT} {now:Int} {G:List GrT} {N:Nat} (n0:0≤now) (n1:now≤1099511627776) (hN:N≤1000) :
  ∀ (l2 l1:List PeT) (o:List MsT),(l1++l2).length=N→(∀ x∈l2,szP x∧okW x.2.2=true)→o.length+64*l2.length≤1000000 →
  iter p9B ((N:Int),(l1.length:Int),z,((now,G,l1++l2),m0,o,0),())=some (z,((now,G,l1++l2.map (p7A now)),m0,o++l2.flatMap (t8A now),0),()):=by
 intro l2
 induction l2 with
 | nil =>
  intro l1 o hl _ _
  rw [Bc] at hl
  refine m4A ?_
  unfold p9B
  dsimp only
  rw [dF (by omega)]
  simp
 | cons x l2 ih =>
  intro l1 o hl hk ho
  rw [Be] at ho
  have hi:(l1++x::l2)[l1.length]? = some x:=by simp
  have hlt:=g1A hi
  obtain ⟨k1,k2⟩:=hk x Ax
  have al:=n9D (n:=now) k2
  have ws:IntKind.i64.wrap ((l1.length:Int)+1)=((l1.length+1:Nat):Int):=by rw [b8A (by omega) (by omega)]; rfl
  have step:p9B ((N:Int),(l1.length:Int),z,((now,G,l1++x::l2),m0,o,0),())=some (.inl ((N:Int),((l1.length+1:Nat):Int),z,((now,G,(l1++[p7A now x])++l2),m0,o++t8A now x,0),())):=by
   unfold p9B
   dsimp only
   rw [dT (by omega),wT (by omega) (by omega),Ao,gD hi,j9E k1.2 k2 n0 n1,Aa]
   dsimp only
   rw [nF rfl,wT (by omega) (by omega),n4A.2 (by rw [Ak]; unfold t8A at al; omega),Al,ws]
   rw [show (l1++x::l2).set l1.length (x.1,x.2.1,f7B x.2.2 now)=(l1++[p7A now x])++l2 from (h8C _ _ _ _).trans (by simp [p7A])]
   rfl
  rw [l5A step]
  have:=ih (l1++[p7A now x]) (o++t8A now x) (by rw [←hl]; simp) (fun y hy=>hk y (Bb _ hy)) (by rw [Ak]; omega)
  rw [Ak,By] at this
  rw [this]
  simp
def f2A (s:SvT):SvT×List MsT:=s.2.1.foldl (r2A (6,0,0,0,s.1+1)) ((s.1+1,s.2.1,s.2.2),[])
def l6B (s:SvT):SvT×List MsT×Int:=
 if (p6A s&&!(s.1==1099511627776))=true then ((s.1+1,(f2A s).1.2.1,(f2A s).1.2.2.map (p7A (s.1+1))),(f2A s).2++(f2A s).1.2.2.flatMap (t8A (s.1+1)),0) else (zSv,[],1)
theorem h9C {n:Int}:∀ {l2 l1:List GrT} {s:SvT} {o:List MsT},s.1=n→s.2.1=l1++l2→HS s→(∀ g∈l2,f5A g.2=true∧k7A g.2 (6,0,0,0,n)=true) →
  HS (l2.foldl (r2A (6,0,0,0,n)) (s,o)).1∧(l2.foldl (r2A (6,0,0,0,n)) (s,o)).1.1=n ∧
  (l2.foldl (r2A (6,0,0,0,n)) (s,o)).1.2.1=l1++l2.map (fun g=>(g.1,(doP g.2 (6,0,0,0,n)).1)) ∧
  (l2.foldl (r2A (6,0,0,0,n)) (s,o)).1.2.2.map (·.1)=s.2.2.map (·.1) ∧
  (∀ x,(a5A x (l2.foldl (r2A (6,0,0,0,n)) (s,o)).1.2.2).map (·.1)=(a5A x s.2.2).map (·.1)) ∧
  (∀ x,(a5A x (l2.foldl (r2A (6,0,0,0,n)) (s,o)).1.2.2).map (·.2.2.2)=(a5A x s.2.2).map (·.2.2.2)) ∧
  (∃ L,(l2.foldl (r2A (6,0,0,0,n)) (s,o)).2=o++L∧(∀ x∈L,∃ g∈l2,∃ d∈(doP g.2 (6,0,0,0,n)).2,y3B (g.1,(doP g.2 (6,0,0,0,n)).1) d x)∧L.length≤2002*l2.length) ∧
  (∀ p∈(l2.foldl (r2A (6,0,0,0,n)) (s,o)).1.2.2,∀ x∈p.2.2.2.1,(∃ g∈l2,∃ d∈(doP g.2 (6,0,0,0,n)).2,h6C (g.1,(doP g.2 (6,0,0,0,n)).1) d x.2.1)∨∃ q∈s.2.2,q.1=p.1∧x∈q.2.2.2.1)
 | [],l1,s,o,e0,e1,h,_=>⟨h,e0,by rw [Bc] at e1; simpa using e1,rfl,fun _=>rfl,fun _=>rfl,⟨[],by simp,(fun x hx=>by cases hx),De _⟩,fun p hp x hx=>.inr ⟨p,hp,rfl,hx⟩⟩
 | g::l2,l1,s,o,e0,e1,h,hk=>by
  have hi:s.2.1[l1.length]? = some g:=by rw [e1]; simp
  have ha:=n7D h.gs hi
  obtain ⟨k1,k2⟩:=hk g Ax
  have hg:a5A g.1 s.2.1=some g.2:=c7B h.gs (h6A hi)
  have k:=w8C (o:=o) (gid:=g.1) h k1 k2
  have len:=(q8B k1 k2).len
  obtain ⟨L,q1,q2,q3⟩:=k.out
  have grp:=k.grp
  have now:=k.now
  have keys:=k.keys
  have name:=k.name
  have heard:=k.heard
  have snd:=k.snd
  dsimp only at grp now q1 keys name heard snd
  have e2:(g5A s o g.1 g.2 (6,0,0,0,n)).1.2.1=(l1++[(g.1,(doP g.2 (6,0,0,0,n)).1)])++l2:=by
   rw [grp,←ha.set (by rw [hg]; rfl),e1,Bz]
   exact h8C _ _ _ _
  obtain ⟨i1,i2,i3,i4,i5,i6,⟨L2,j1,j2,j3⟩,i7⟩:=h9C (l2:=l2) (s:=(g5A s o g.1 g.2 (6,0,0,0,n)).1) (o:=(g5A s o g.1 g.2 (6,0,0,0,n)).2.1) (now.trans e0) e2 k.hs (fun g' hg'=>hk g' (Bb _ hg'))
  refine ⟨i1,i2,?_,i4.trans keys,fun x=>(i5 x).trans (name x),fun x=>(i6 x).trans (heard x),⟨L++L2,?_,fun x hx => ?_,?_⟩,fun p hp x hx => ?_⟩
  ·refine i3.trans ?_
   simp
  ·refine j1.trans ?_
   rw [q1,Bz]
  ·rcases Ck.1 hx with hx | hx
   ·obtain ⟨d,hd,z⟩:=q2 x hx
    exact ⟨g,Ax,d,hd,z⟩
   ·obtain ⟨g',hg',z⟩:=j2 x hx
    exact ⟨g',Bb _ hg',z⟩
  ·rw [Ak,Be]; omega
  ·rcases i7 p hp x hx with ⟨g',hg',z⟩ | ⟨q,hq,z1,z2⟩
   ·exact .inl ⟨g',Bb _ hg',z⟩
   ·rcases snd q hq x z2 with ⟨d,hd,z⟩ | ⟨r,hr,y1,y2⟩
    ·exact .inl ⟨g,Ax,d,hd,z⟩
    ·exact .inr ⟨r,hr,y1.trans z1,y2⟩
theorem w9C {s:SvT} (o:SvP s) (hn:s.1<1099511627776):∀ g∈s.2.1,f5A g.2=true∧k7A g.2 (6,0,0,0,s.1+1)=true:=fun g hg=>by
 obtain ⟨_,_,e,f⟩:=o.G g hg
 refine ⟨f,?_⟩
 show (decide (g.2.2.2.2.2.2.2.1≤s.1+1)&&decide (s.1+1≤1099511627776))=true
 rw [Ah (by omega),Ah (by omega)]; rfl
theorem q1E {s:SvT} (hz:szS s):f3C s=some (l6B s):=by
 have s1:((e4B s).bind fun y1 =>
 bif (y1 != 0) then
 some (true,s,zSv,())
 else
 some ((s.1==1099511627776),s,zSv,()):Option ((Bool×SvT×SvT×Unit)))=some (!(p6A s&&!(s.1==1099511627776)),s,zSv,()):=by
  rw [u9C hz,Aa]
  cases p6A s with
  | false=>rfl
  | true=>cases (s.1==1099511627776) <;> rfl
 unfold f3C
 refine (Cp (fun z=>Option.bind z _) s1).trans ?_
 rw [Aa]
 dsimp only
 unfold l6B
 cases hc:(p6A s&&!(s.1==1099511627776)) with
 | false=>rfl
 | true =>
 rw [Cc,Ai,Aj rfl]
 obtain ⟨hs,hn⟩:=(Ac _ _▸hc)
 have o:=y2B.1 hs
 have h:=o.hs hz
 have hn:s.1≠1099511627776:=fun e=>by rw [e] at hn; cases hn
 have n0:=o.n0
 have n1:=o.n1
 have hG4:=o.G4
 have hP16:=o.P16
 rw [v0C h.G,Aa,v1C h.P,Aa,n4E,n5E,v2C h.G h.fz,Aa]
 dsimp only
 rw [v3C h.P h.pz h.pw,Aa]
 dsimp only
 rw [show IntKind.i64.wrap (s.1+1)=s.1+1 from b8A (by omega) (by omega)]
 have h':HS (s.1+1,s.2.1,s.2.2):={ h with n0:=by show 0≤s.1+1; omega,n1:=by show s.1+1≤_; omega }
 have ta:=w9C o (by omega)
 have gl:=p9E (m0:=(0,(0,(0,(0,(0,(0,(0,(0,(ByteArray.empty,[])))))))))) (z:=zSv) (N:=s.2.1.length) s.2.1 [] (s.1+1,s.2.1,s.2.2) [] rfl rfl h' ta (by simp; omega)
 refine (Cp (fun z=>Option.bind z _) gl).trans ?_
 rw [Aa]
 dsimp only
 have gk:=h9C (n:=s.1+1) (l2:=s.2.1) (l1:=[]) (s:=(s.1+1,s.2.1,s.2.2)) (o:=[]) rfl rfl h' ta
 have eg:s.2.1.foldl (r2A (6,0,0,0,s.1+1)) ((s.1+1,s.2.1,s.2.2),[])=f2A s:=rfl
 rw [eg] at gk ⊢
 obtain ⟨k1,k2,k3,k4,k5,k6,⟨L,l1,l2,l3⟩,k7⟩:=gk
 have pl:=q0E (m0:=(0,(0,(0,(0,(0,(0,(0,(0,(ByteArray.empty,[])))))))))) (z:=zSv) (now:=s.1+1) (G:=(f2A s).1.2.1) (N:=(f2A s).1.2.2.length) (by omega) (by omega) k1.P (f2A s).1.2.2 [] (f2A s).2 rfl (fun x hx=>⟨k1.pz x hx,k1.pw x hx⟩) (by
  rw [l1,Cv]
  have:(f2A s).1.2.2.length=s.2.2.length:=by
   have:=Cp List.length k4
   simpa using this
  omega)
 rw [Cv,Cv] at pl
 have e3:(f2A s).1=(s.1+1,(f2A s).1.2.1,(f2A s).1.2.2):=by rw [←k2]
 refine (Cp (fun z=>Option.bind z _) ((Cp (fun q=>iter p9B (((f2A s).1.2.2.length:Int),0,zSv,(q,(0,(0,(0,(0,(0,(0,(0,(0,(ByteArray.empty,[]))))))))),(f2A s).2,0),())) e3).trans pl)).trans ?_
 rw [Aa]
 dsimp only
 rw [nF rfl]
def o0D:MsT:=(1,1,3,0,1,0,0,0,exN,[])
def o1D:MsT:=(3,1,3,0,2,0,5,0,ByteArray.empty,[])
def y5B:SvT:=(0,[(1,(0,0,0,0,0,0,0,[],[3]))],[(3,exN,(2,[(1,(15,1,0,3,1,0,0,0,ByteArray.empty,[]),4,5)],[(3,0,[1])]))])
theorem q2E:n9A zSv o0D=(y5B,[(15,1,0,3,1,0,0,0,ByteArray.empty,[])],0):=by kernel_rfl
def x0C:SvT:=(0,[(1,(1,1,3,5,60,12,0,[],[3]))],[(3,exN,(3,[(1,(15,1,0,3,1,0,0,0,ByteArray.empty,[]),4,5),(2,(5,1,0,3,2,1,12,0,exN,[]),4,5)],[(3,0,[1,2])]))])
theorem q3E:n9A y5B o1D=(x0C,[(5,1,0,3,2,1,12,0,exN,[])],0):=by kernel_rfl
def q4E:FlT:=(1,1,3,5,60,12,0,[],[3])
theorem q5E:l5B x0C 1=(q4E,true):=by kernel_rfl
theorem q6E:szS y5B:=by
 refine ⟨by decide,by decide,fun g hg => ?_,fun x hx => ?_⟩
 ·rw [Bo.1 hg]; exact ⟨by decide,by decide⟩
 ·rw [Bo.1 hx]
  refine ⟨by show exN.size≤_; decide,by show 1≤_; decide,fun s hs => ?_,by show 1≤_; decide,fun h hh => ?_⟩
  ·rw [Bo.1 hs]; exact ⟨by show ByteArray.empty.size≤_; decide,by show 0≤_; decide⟩
  ·rw [Bo.1 hh]; show 1≤_; decide
theorem q7E:szS x0C:=by
 refine ⟨by decide,by decide,fun g hg => ?_,fun x hx => ?_⟩
 ·rw [Bo.1 hg]; exact ⟨by decide,by decide⟩
 ·rw [Bo.1 hx]
  refine ⟨by show exN.size≤_; decide,by show 2≤_; decide,fun s hs => ?_,by show 1≤_; decide,fun h hh => ?_⟩
  ·rcases Bf.1 hs with rfl | hs
   ·exact ⟨by show ByteArray.empty.size≤_; decide,by show 0≤_; decide⟩
   ·rw [Bo.1 hs]; exact ⟨by show exN.size≤_; decide,by show 0≤_; decide⟩
  ·rw [Bo.1 hh]; show 2≤_; decide
theorem o2D:szS zSv:=⟨by decide,by decide,(fun _ h=>by cases h),fun _ h=>by cases h⟩
theorem q8E:f0C=some true:=by
 unfold f0C
 rw [show u1B=some zSv from rfl,Aa,show e8B zSv (1,(1,(3,(0,(1,(0,(0,(0,((ByteArray.mk #[97]),[])))))))))=some (n9A zSv o0D) from w6C o2D ⟨by show exN.size≤_; decide,by show 0≤_; decide⟩,q2E,Aa]
 dsimp only
 rw [show e8B y5B (3,(1,(3,(0,(2,(0,(5,(0,(ByteArray.empty,[])))))))))=some (n9A y5B o1D) from w6C q6E ⟨by show ByteArray.empty.size≤_; decide,by show 0≤_; decide⟩,q3E,Aa]
 dsimp only
 rw [w7C q7E,q5E,Aa]
 rfl
theorem q9E (l:List MsT) (hl:l.length≤9223372036854775807):∃ b,f1C l=some b∧(b=true→l.length≤60):=by
 have:=k0B (f:=w6B) l (fun i (_:Unit)=>(l,l,(l.length:Int),(i:Int),())) (fun _ a=>if v6B a=some true then Sum.inr () else Sum.inl ()) (fun _=>.inr (false,())) (fun _=>.inl (l,()))
  (fun i a s hi=>by
   have hi2:=g1A hi
   have ws:IntKind.i64.wrap ((i:Int)+1)=((i+1:Nat):Int):=by rw [b8A (by omega) (by omega)]; rfl
   obtain ⟨b,hb⟩:=i0E a
   cases b with
   | true=>simp (disch:=omega) only [w6B,dT,wT,Ao,gD hi,hb,Aa,Al,Ep]
   | false=>simp (disch:=omega) only [w6B,dT,wT,Ao,gD hi,hb,Aa,Ai,Option.some.injEq,Cf,Fb,ws])
  (fun s=>by simp (disch:=omega) only [w6B,dF]) ()
 unfold f1C
 cases hs:s5A (fun (_:Unit) (a:MsT)=>(if v6B a=some true then Sum.inr () else Sum.inl ():Unit⊕Unit)) () l with
 | inl _ =>
  rw [hs] at this
  refine ⟨decide ((l.length:Int)≤60),(Cp (fun z=>Option.bind z _) this).trans rfl,fun h => ?_⟩
  have:=Dl h
  omega
 | inr _ =>
  rw [hs] at this
  exact ⟨false,(Cp (fun z=>Option.bind z _) this).trans rfl,fun h=>by cases h⟩
def h9A (s:SvT) (m:MsT):SvT×List MsT×Int:=if m.1=0 then l6B s else n9A s m
theorem r0E {s:SvT} {m:MsT} (hz:szS s) (hm:szM m):f4C s m=some (h9A s m):=by
 unfold f4C h9A
 rw [show r9C m=some (m.1==0) from rfl,Aa]
 by_cases h:m.1=0
 ·rw [eT h,q1E hz,Aa,Aj h]
 ·rw [eF h,w6C hz hm,Aa,Ae h]
def i0C (m:MsT):Prop:=m.2.2.1=0∧1≤m.2.2.2.1∧(m.1=5∨m.1=6∨m.1=7∨m.1=8∨m.1=15)
structure f8A (k:Nat) (s:SvT):Prop where
 ok:SvP s
 sz:szS s
 ep:∀ g∈s.2.1,g.2.2.1≤(k:Int)
 nw:s.1≤(k:Int)
 snd:∀ p∈s.2.2,∀ x∈p.2.2.2.1,i0C x.2.1
theorem f8A.hs {k:Nat} {s:SvT} (r:f8A k s):HS s:=r.ok.hs r.sz
theorem f8A.sv {k:Nat} {s:SvT} (r:f8A k s):p6A s=true:=y2B.2 r.ok
theorem f8A.up {k:Nat} {s:SvT} (r:f8A k s):f8A (k+1) s:=⟨r.ok,r.sz,fun g hg=>by have:=r.ep g hg; omega,by have:=r.nw; omega,r.snd⟩
theorem r4E:f8A 0 zSv:=by
 refine ⟨y2B.1 rfl,o2D,?_,Df _,?_⟩
 ·intro g hg; cases hg
 ·intro g hg; cases hg
theorem x1C {V:Type} {l l':List (Int×V)} (h:l.map (·.1)=l'.map (·.1)):l.length=l'.length:=by
 have:=Cp List.length h
 simpa using this
theorem f8A.to {k k':Nat} {s t:SvT} (r:f8A k s) (h:HS t) (hn:t.1=s.1) (hk:k≤k') (hG:t.2.1.length≤4) (hg:∀ g∈t.2.1,0≤g.1∧g.1≤1073741824∧g.2.2.2.2.2.2.2.1=s.1∧f5A g.2=true∧g.2.2.1≤(k':Int))
  (keys:t.2.2.map (·.1)=s.2.2.map (·.1)) (name:∀ x,(a5A x t.2.2).map (·.1)=(a5A x s.2.2).map (·.1)) (snd:∀ p∈t.2.2,∀ x∈p.2.2.2.1,i0C x.2.1):f8A k' t:=by
 have nw:=r.nw
 refine ⟨⟨h.n0,h.n1,hG,by rw [x1C keys]; exact r.ok.P16,h.gs,h.ps,fun g hg'=>by obtain ⟨a,b,c,d,_⟩:=hg g hg'; exact ⟨a,b,by rw [hn]; exact c,d⟩,fun x hx => ?_⟩,⟨h.G,h.P,h.fz,h.pz⟩,fun g hg'=>(hg g hg').2.2.2.2,by omega,snd⟩
 have hm:x.1∈s.2.2.map (·.1):=by rw [←keys]; exact List.mem_map.2 ⟨x,hx,rfl⟩
 obtain ⟨y,hy,hxy⟩:=List.mem_map.1 hm
 obtain ⟨a,b,c,d⟩:=r.ok.P y hy
 have n1:=name x.1
 rw [c7B (v:=x.2) h.ps hx,c7B (x:=x.1) (v:=y.2) r.ok.Ps (by rw [←hxy]; exact hy)] at n1
 have n1:=Bp n1
 dsimp only at n1
 refine ⟨by omega,by omega,by rw [n1]; exact c,h.pw x hx⟩
theorem f8A.G {k:Nat} {s:SvT} (r:f8A k s):∀ g∈s.2.1,0≤g.1∧g.1≤1073741824∧g.2.2.2.2.2.2.2.1=s.1∧f5A g.2=true∧g.2.2.1≤(k:Int):=fun g hg=>by
 obtain ⟨a,b,c,d⟩:=r.ok.G g hg
 exact ⟨a,b,c,d,r.ep g hg⟩
theorem r5E {k:Nat} {s:SvT} {m:MsT} (r:f8A k s) (hm:szM m) (ho:okM m=true) (hf:m.2.2.1>0) (hc:m7A s m=true):f8A k (b3A s m):=by
 have h:=r.hs
 have hG4:=r.ok.G4
 have hP16:=r.ok.P16
 have nw:=r.nw
 have hs:=n4D (m:=m) h hm.1 (by omega) (by omega)
 have nums:0≤m.2.1∧m.2.1≤1073741824∧m.2.2.1≤1073741824:=by
  have ho:=ho
  unfold okM nO at ho
  simp only [Ac,Au] at ho
  obtain ⟨⟨⟨⟨⟨⟨⟨⟨_,a⟩,b⟩,_⟩,_⟩,_⟩,_⟩,_⟩,_⟩:=ho
  exact ⟨a.1,a.2,b.2⟩
 have nm:m.1=1→w2A m.2.2.2.2.2.2.2.2.1=true:=by
  intro h1
  unfold okM at ho
  rw [Ac] at ho
  have:=ho.2
  rw [h1] at this
  exact this
 unfold m7A at hc
 simp only [Ac,Db,Cw,Au] at hc
 obtain ⟨hp,hg⟩:=hc
 have mG:∀ g∈(b3A s m).2.1,g∈s.2.1∨g=(m.2.1,v4C s.1):=by
  intro g hg'
  unfold b3A at hg'
  dsimp only at hg'
  split at hg'
  ·exact .inl hg'
  ·rcases l1B.1 hg' with h | h
   ·exact .inr h
   ·exact .inl h
 have mP:∀ x∈(b3A s m).2.2,x∈s.2.2∨x=(m.2.2.1,m.2.2.2.2.2.2.2.2.1,h4C)∧m.1=1:=by
  intro x hx
  unfold b3A at hx
  dsimp only at hx
  split at hx
  ·exact .inl hx
  ·rename_i q
   rcases l1B.1 hx with h | h
   ·rcases hp with hp | hp
    ·exact absurd hp q
    ·exact .inr ⟨h,hp.1⟩
   ·exact .inl h
 have lG:(b3A s m).2.1.length≤4:=by
  unfold b3A
  dsimp only
  split
  ·exact hG4
  ·rename_i q
   rcases hg with hg | hg
   ·exact absurd hg q
   ·rw [y0B]; omega
 have lP:(b3A s m).2.2.length≤16:=by
  unfold b3A
  dsimp only
  split
  ·exact hP16
  ·rename_i q
   rcases hp with hp | hp
   ·exact absurd hp q
   ·rw [y0B]; omega
 refine ⟨⟨hs.n0,hs.n1,lG,lP,hs.gs,hs.ps,fun g hg' => ?_,fun x hx => ?_⟩,⟨hs.G,hs.P,hs.fz,hs.pz⟩,fun g hg' => ?_,r.nw,fun x hx y hy => ?_⟩
 ·rcases mG g hg' with h1 | rfl
  ·exact r.ok.G g h1
  ·refine ⟨nums.1,nums.2.1,rfl,h0A.2 ⟨Df _,by decide,Df _,by decide,r.ok.n0,r.ok.n1,Df _,by decide,Df _,by decide,De _,De _,rfl,(fun w hw=>by cases hw),List.Pairwise.nil,List.nodup_nil,fun _=>⟨rfl,rfl,rfl,rfl,rfl⟩,fun q=>absurd rfl q⟩⟩
 ·rcases mP x hx with h1 | ⟨rfl,h1⟩
  ·exact r.ok.P x h1
  ·exact ⟨hf,nums.2.2,nm h1,rfl⟩
 ·rcases mG g hg' with h1 | rfl
  ·exact r.ep g h1
  ·show (0:Int)≤k; omega
 ·rcases mP x hx with h1 | ⟨rfl,h1⟩
  ·exact r.snd x h1 y hy
  ·cases hy
theorem r6E {s:SvT} {m:MsT} (h:HS s):∀ p∈(h7A s m).1.2.2,∃ q∈s.2.2,q.1=p.1∧q.2.2.2.1=p.2.2.2.1:=by
 obtain ⟨k1,_,_,keys,_,k6⟩:=l3B (m:=m) h
 intro p hp
 have hm:p.1∈s.2.2.map (·.1):=by rw [←keys]; exact List.mem_map.2 ⟨p,hp,rfl⟩
 obtain ⟨q,hq,hpq⟩:=List.mem_map.1 hm
 have n1:=k6 p.1
 rw [c7B (v:=p.2) k1.ps hp,c7B (x:=p.1) (v:=q.2) h.ps (by rw [←hpq]; exact hq)] at n1
 exact ⟨q,hq,hpq,(Bp n1).symm⟩
theorem l1A {k:Nat} {s:SvT} {m:MsT} (r:f8A k s):f8A k (h7A s m).1:=by
 have h:=r.hs
 obtain ⟨k1,k2,k3,k4,k5,_⟩:=l3B (m:=m) h
 refine r.to k1 k2 (Ay _) (by rw [k3]; exact r.ok.G4) (by rw [k3]; exact r.G) k4 k5 fun p hp x hx => ?_
 obtain ⟨q,hq,_,e⟩:=r6E (m:=m) h p hp
 exact r.snd q hq x (by rw [e]; exact hx)
structure t9A (k:Nat) (s:SvT) (gid:Int) (r:SvT×List MsT):Prop where
 run:f8A (k+1) r.1
 now:r.1.1=s.1
 oth:∀ j,j≠gid→a5A j r.1.2.1=a5A j s.2.1
 gks:r.1.2.1.map (·.1)=s.2.1.map (·.1)
 here:∃ f,a5A gid r.1.2.1=some f∧f5A f=true∧∀ x∈r.2,∃ d,y3B (gid,f) d x∧c6B f d
 pks:r.1.2.2.map (·.1)=s.2.2.map (·.1)
theorem o3D {f:FlT} {gid:Int} {d:Dc} {x:MsT} (h:c6B f d) (o:h6C (gid,f) d x):i0C x:=by
 obtain ⟨h1,_⟩:=h
 obtain ⟨a,b,c,e,q⟩:=o
 rcases h1 with h1 | ⟨h1,h2,_⟩
 ·exact absurd h1.1 q
 ·exact ⟨b,by omega,by omega⟩
theorem r7E {k:Nat} {s:SvT} {gid:Int} {f:FlT} {a:j4A} {o:List MsT} (r:f8A k s) (hk:k<1000000) (hf:a5A gid s.2.1=some f) (h2:k7A f a=true) (h6:a.1≠6) :
  t9A k s gid ((g5A s [] gid f a).1,(g5A s [] gid f a).2.1):=by
 have h:=r.hs
 have hm:=n8A hf
 obtain ⟨g1,g2,g3,g4,g5⟩:=r.G _ hm
 dsimp only at g1 g2 g3 g4 g5
 have t:=w8C (o:=[]) (gid:=gid) h g4 h2
 have d:=q8B g4 h2
 have ep:=d.ep
 have fk:f5A (doP f a).1=true:=d.ok (by omega)
 have now:(doP f a).1.2.2.2.2.2.2.1=f.2.2.2.2.2.2.1:=by
  have ak:1≤a.1∧a.1≤6:=by
   unfold k7A in0 at h2
   simp only [Ac,Au] at h2
   omega
  rw [m4D ak.1 ak.2,Ae h6]
 have grp:=t.grp
 have hn:=t.now
 dsimp only at grp hn
 refine ⟨?_,hn,fun j hj => ?_,?_,⟨(doP f a).1,?_,fk,fun x hx => ?_⟩,t.keys⟩
 ·refine r.to t.hs hn (by omega) (by rw [grp,l0B]; exact r.ok.G4) (fun g hg => ?_) t.keys t.name fun p hp x hx => ?_
  ·dsimp only at hg
   rw [grp] at hg
   rcases w8A hg with hg | rfl
   ·obtain ⟨a1,a2,a3,a4,a5⟩:=r.G g hg
    exact ⟨a1,a2,a3,a4,by omega⟩
   ·exact ⟨g1,g2,by show (doP f a).1.2.2.2.2.2.2.1=_; rw [now]; exact g3,fk,by show (doP f a).1.2.1≤_; omega⟩
  ·rcases t.snd p hp x hx with ⟨d',hd',z⟩ | ⟨q,hq,_,z⟩
   ·exact o3D (d.dc d' hd') z
   ·exact r.snd q hq x z
 ·dsimp only
  rw [grp,c8B,Ae (fun e=>hj e.symm)]
 ·dsimp only
  rw [grp,q9B]
 ·dsimp only
  rw [grp,c8B,Aj rfl,hf]; rfl
 ·obtain ⟨L,l1,l2,_⟩:=t.out
  dsimp only at l1 hx
  rw [l1,Cv] at hx
  obtain ⟨d',hd',z⟩:=l2 x hx
  exact ⟨d',z,d.dc d' hd'⟩
theorem t9A.id {k:Nat} {s:SvT} {gid:Int} {f:FlT} (r:f8A k s) (hf:a5A gid s.2.1=some f):t9A k s gid (s,[]):=
 ⟨r.up,rfl,fun _ _=>rfl,rfl,⟨f,hf,(r.G _ (n8A hf)).2.2.2.1,fun x hx=>by cases hx⟩,rfl⟩
theorem x2C {k:Nat} {s:SvT} {m:MsT} {f:FlT} {a:j4A} (r:f8A k s) (hk:k<1000000) (hf:a5A m.2.1 s.2.1=some f) (h6:a.1≠6) (he:(h1A s m a).2.2=0) :
  t9A k s m.2.1 ((h1A s m a).1,(h1A s m a).2.1):=by
 have r1:=l1A (m:=m) r
 obtain ⟨k1,k2,k3,k4,k5,_⟩:=l3B (m:=m) r.hs
 unfold h1A at he ⊢
 by_cases hb:(h7A s m).2.1=true
 ·rw [Aj hb,hf] at he ⊢
  have hf':a5A m.2.1 (h7A s m).1.2.1=some f:=by rw [k3]; exact hf
  have he:(g5A (h7A s m).1 [] m.2.1 f a).2.2=0:=he
  have ak:k7A f a=true:=by
   unfold g5A at he
   rcases v9C f a with ⟨h0,h1,h2,h3,h4⟩ | ⟨h0,h1⟩
   ·exact h2
   ·have hn:(doR f a).2.2≠0:=by rw [h0]; decide
    rw [Ae hn] at he
    exact absurd he hn
  have d:=r7E (o:=[]) (a:=a) r1 hk hf' ak h6
  obtain ⟨a1,a2,a3,a4,a5,a6⟩:=d
  refine ⟨a1,a2.trans k2,fun j hj=>(a3 j hj).trans (by rw [k3]),a4.trans (by rw [k3]),a5,a6.trans k4⟩
 ·rw [Ae hb]
  have d:=t9A.id r1 (gid:=m.2.1) (f:=f) (by rw [k3]; exact hf)
  obtain ⟨a1,a2,a3,a4,a5,a6⟩:=d
  refine ⟨a1,a2.trans k2,fun j hj=>(a3 j hj).trans (by rw [k3]),a4.trans (by rw [k3]),a5,a6.trans k4⟩
theorem o4D {k:Nat} {s:SvT} {m:MsT} {f:FlT} {d:Int} (r:f8A k s) (hk:k<1000000) (hf:a5A m.2.1 s.2.1=some f) (h6:d≠6) (he:(h8A s m d).2.2=0) :
  t9A k s m.2.1 ((h8A s m d).1,(h8A s m d).2.1):=by
 unfold h8A at he ⊢
 by_cases ho:y4B ((a5A m.2.1 s.2.1).getD zFl) m=true
 ·rw [Aj ho]
  have r1:=l1A (m:=m) r
  obtain ⟨k1,k2,k3,k4,k5,_⟩:=l3B (m:=m) r.hs
  have q:=t9A.id r1 (gid:=m.2.1) (f:=f) (by rw [k3]; exact hf)
  obtain ⟨a1,a2,a3,a4,a5,a6⟩:=q
  refine ⟨a1,a2.trans k2,fun j hj=>(a3 j hj).trans (by rw [k3]),a4.trans (by rw [k3]),a5,a6.trans k4⟩
 ·rw [Ae ho] at he ⊢
  exact x2C r hk hf h6 he
theorem r8E {k:Nat} {s:SvT} {m:MsT} (r:f8A k s):f8A k (x0A s m)∧(x0A s m).2.1=s.2.1∧(x0A s m).1=s.1:=by
 have h:=r.hs
 unfold x0A
 cases hg:a5A m.2.2.1 s.2.2 with
 | none=>exact ⟨r,rfl,rfl⟩
 | some x =>
  have hm:=n8A hg
  have hz:=h.pz _ hm
  have hw:=h.pw _ hm
  dsimp only
  refine ⟨?_,rfl,rfl⟩
  refine r.to (t:=(s.1,s.2.1,g0A m.2.2.1 (x.1,z4A x.2 m.2.2.2.2.1) s.2.2)) { h with
   ps:=h3C.2 h.ps
   P:=by show (g0A _ _ _).length≤_; rw [l0B]; exact h.P
   pz:=fun y hy => ?_
   pw:=fun y hy => ?_ } rfl (Ay _) r.ok.G4 r.G q9B (fun y => ?_) fun p hp y hy => ?_
  ·rcases w8A hy with hy | rfl
   ·exact h.pz y hy
   ·exact ⟨hz.1,k5E hz.2⟩
  ·rcases w8A hy with hy | rfl
   ·exact h.pw y hy
   ·exact k4E hw
  ·show (a5A y (g0A m.2.2.1 _ s.2.2)).map _=_
   rw [c8B]
   by_cases e:m.2.2.1=y
   ·subst e; rw [Aj rfl,hg]; rfl
   ·rw [Ae e]
  ·rcases w8A hp with hp | rfl
   ·exact r.snd p hp y hy
   ·exact r.snd _ hm y (Dd.1 hy).1
structure r9E (k:Nat) (s:SvT) (m:MsT):Prop where
 okm:okM m=true
 run:f8A k (b3A s m)
 to:m.2.2.2.1=0
 frm:m.2.2.1>0
 cb:m7A s m=true
theorem s0E {r:SvT×List MsT×Int} (h:(g4B r).2.2=0):r.2.2=0∧g4B r=r:=by
 unfold g4B at h ⊢
 by_cases e:r.2.2=0
 ·rw [Aj e]
  exact ⟨e,by rw [←e]⟩
 ·rw [Ae e] at h; exact absurd h e
theorem s1E {A B:Type} {r:A×B×Int} (h:r.2.2=0):r=(r.1,r.2.1,0):=by rw [←h]
theorem o5D {k:Nat} {s:SvT} {m:MsT} (r:f8A k s) (hk:k<1000000) (hm:szM m) (he:(n9A s m).2.2=0) :
    okM m=true∧(toB s m=false∧n9A s m=(s,[],0)∨toB s m=true∧r9E k s m∧∃ f,a5A m.2.1 (b3A s m).2.1=some f ∧
      ((m.1=1∨m.1=3)∧(∃ t out a,t9A k (b3A s m) m.2.1 (t,out)∧n9A s m=(t,out,0)∧a.1≠6∧h1A (b3A s m) m a=(t,out,0)) ∨
       (m.1=2∨m.1=4∨m.1=12)∧(∃ t out,t9A k (b3A s m) m.2.1 (t,out)∧n9A s m=(t,out++[l2B ((a5A m.2.1 t.2.1).getD zFl) m],0) ∧
          ((m.1=12∧h1A (b3A s m) m (5,m.2.2.1,0,m.2.2.2.2.2.1,0)=(t,out,0))∨(m.1≠12∧h8A (b3A s m) m m.1=(t,out,0)))) ∨
       m.1=11∧n9A s m=(x0A (b3A s m) m,[],0) ∨
       m.1=13∧n9A s m=(b3A s m,x1A (b3A s m) m,0))):=by
  unfold n9A at he ⊢
  rw [r.sv,Cs] at he ⊢
  by_cases ho:okM m=true
  · rw [Aj ho] at he ⊢
    refine ⟨ho,?_⟩
    by_cases ht:toB s m=true
    · rw [Aj ht] at he ⊢
      have ht':=ht
      unfold toB x2A at ht'
      simp only [Ac,Db,Cw,Au] at ht'
      obtain ⟨⟨⟨hk',h0⟩,hf⟩,hc⟩:=ht'
      have rc:=r5E r hm ho hf hc
      obtain ⟨f,hg⟩:=Dn.1 (w4C (s:=s) (m:=m)).2
      obtain ⟨e1,e2⟩:=s0E he
      refine .inr ⟨ht,⟨ho,rc,h0,hf,hc⟩,f,hg,?_⟩
      rw [e2]
      have ask:∀ a:j4A,a.1≠6→h2A (b3A s m) m=h1A (b3A s m) m a→∃ t out a,t9A k (b3A s m) m.2.1 (t,out)∧h2A (b3A s m) m=(t,out,0)∧a.1≠6∧h1A (b3A s m) m a=(t,out,0):=by
        intro a ha e
        rw [e] at e1
        refine ⟨(h1A (b3A s m) m a).1,(h1A (b3A s m) m a).2.1,a,x2C rc hk hg ha e1,?_,ha,?_⟩
        · rw [e,←e1]
        · rw [←e1]
      rcases hk' with (((((k1 | k1) | k1) | k1) | k1) | k1) | k1
      · exact .inl ⟨.inl k1,ask (1,m.2.2.1,0,0,0) (by show (1:Int)≠6; decide) (by unfold h2A; rw [k1]; rfl)⟩
      · have e:h2A (b3A s m) m=l0A (h8A (b3A s m) m 2) m:=by unfold h2A; rw [k1]; rfl
        rw [e] at e1 ⊢
        have e1:(h8A (b3A s m) m 2).2.2=0:=e1
        refine .inr (.inl ⟨.inl k1,(h8A (b3A s m) m 2).1,(h8A (b3A s m) m 2).2.1,o4D rc hk hg (by decide) e1,?_,.inr ⟨by omega,?_⟩⟩)
        · unfold l0A; rw [e1]
        · rw [k1,←e1]
      · exact .inl ⟨.inr k1,ask (3,m.2.2.1,w3C m.2.2.2.2.2.2.1,0,0) (by show (3:Int)≠6; decide) (by unfold h2A; rw [k1]; rfl)⟩
      · have e:h2A (b3A s m) m=l0A (h8A (b3A s m) m 4) m:=by unfold h2A; rw [k1]; rfl
        rw [e] at e1 ⊢
        have e1:(h8A (b3A s m) m 4).2.2=0:=e1
        refine .inr (.inl ⟨.inr (.inl k1),(h8A (b3A s m) m 4).1,(h8A (b3A s m) m 4).2.1,o4D rc hk hg (by decide) e1,?_,.inr ⟨by omega,?_⟩⟩)
        · unfold l0A; rw [e1]
        · rw [k1,←e1]
      · have e:h2A (b3A s m) m=l0A (h1A (b3A s m) m (5,m.2.2.1,0,m.2.2.2.2.2.1,0)) m:=by unfold h2A; rw [k1]; rfl
        rw [e] at e1 ⊢
        have e1:(h1A (b3A s m) m (5,m.2.2.1,0,m.2.2.2.2.2.1,0)).2.2=0:=e1
        refine .inr (.inl ⟨.inr (.inr k1),(h1A (b3A s m) m (5,m.2.2.1,0,m.2.2.2.2.2.1,0)).1,(h1A (b3A s m) m (5,m.2.2.1,0,m.2.2.2.2.2.1,0)).2.1,x2C rc hk hg (by show (5:Int)≠6; decide) e1,?_,.inl ⟨k1,s1E e1⟩⟩)
        unfold l0A; rw [e1]
      · exact .inr (.inr (.inl ⟨k1,by unfold h2A; rw [k1]; rfl⟩))
      · exact .inr (.inr (.inr ⟨k1,by unfold h2A; rw [k1]; rfl⟩))
    · rw [Ae ht] at he ⊢
      exact .inl ⟨by simpa using ht,rfl⟩
  · rw [Ae ho] at he
    exact absurd he (by decide)
theorem s2E {s:SvT} {m:MsT} (h:m7A s m=true) (h1:m.1≠1):b3A s m=s∧(a5A m.2.2.1 s.2.2).isSome=true∧(a5A m.2.1 s.2.1).isSome=true:=by
 unfold m7A at h
 rw [Bg h1,Bh,Bh,Bool.or_false,Bool.or_false,Ac] at h
 refine ⟨?_,h.1,h.2⟩
 unfold b3A
 rw [Aj h.1,Aj h.2]
theorem x3C {s:SvT} {m:MsT} {j:Int} (hj:j≠m.2.1):a5A j (b3A s m).2.1=a5A j s.2.1:=by
 unfold b3A
 dsimp only
 split
 ·rfl
 ·rename_i q
  rw [y1B (by simpa using q),Ae (fun e=>hj e.symm)]
theorem x4C {f:FlT} {gid:Int} {d:Dc} {x:MsT} (hf:f5A f=true) (o:y3B (gid,f) d x) (h:c6B f d):1≤x.2.2.2.1∧(x.1=5∨x.1=6∨x.1=7∨x.1=8∨x.1=9∨x.1=10∨x.1=15):=by
 obtain ⟨s,e,hh,p,u,l,n,W,M⟩:=f
 rcases o.to with ⟨a,b,c⟩ | ⟨a,b⟩
 ·rcases h.1 with h1 | ⟨h1,h2,_⟩
  ·exact absurd h1.1 c
  ·exact ⟨by omega,by omega⟩
 ·have:=((h0A.1 hf).Mpos _ a).1
  exact ⟨this,by omega⟩
structure o6D (k:Nat) (s t:SvT) (m:MsT) (out:List MsT):Prop where
 run:f8A (k+1) t
 now:t.1=s.1
 oth:∀ j,j≠m.2.1→a5A j t.2.1=a5A j s.2.1
 kept:∀ j,(a5A j s.2.1).isSome=true→(a5A j t.2.1).isSome=true
 out:∀ x∈out,x.2.1=m.2.1∧x.2.2.1=0∧1≤x.2.2.2.1
theorem s3E {V:Type} {l l':List (Int×V)} (h:l.map (·.1)=l'.map (·.1)) (j:Int):(a5A j l).isSome=(a5A j l').isSome:=by
 have key:∀ l:List (Int×V),(a5A j l).isSome=decide (j∈l.map (·.1)):=by
  intro l
  cases hg:a5A j l with
  | none =>
   have:=g1B.1 hg
   symm
   refine Am fun hm => ?_
   obtain ⟨a,ha,hj⟩:=List.mem_map.1 hm
   exact this a ha hj
  | some v=>exact (Ah (List.mem_map.2 ⟨_,n8A hg,rfl⟩)).symm
 rw [key,key,h]
theorem x5C {s:SvT} {m:MsT} {j:Int} (h:(a5A j s.2.1).isSome=true):(a5A j (b3A s m).2.1).isSome=true:=by
 unfold b3A
 dsimp only
 split
 ·exact h
 ·rename_i q
  rw [y1B (by simpa using q)]
  split
  ·rfl
  ·exact h
theorem t4F {m:MsT} (h:okM m=true):0≤m.2.2.1∧m.2.2.1≤1073741824:=by
 unfold okM nO at h
 simp only [Ac,Au] at h
 obtain ⟨⟨⟨⟨⟨⟨⟨_,a⟩,_⟩,_⟩,_⟩,_⟩,_⟩,_⟩:=h
 exact a
theorem o7D {k:Nat} {s:SvT} {m:MsT} (r:f8A k s) (hk:k<1000000) (hm:szM m) (he:(n9A s m).2.2=0):o6D k s (n9A s m).1 m (n9A s m).2.1:=by
 obtain ⟨ho,h⟩:=o5D r hk hm he
 rcases h with ⟨_,e⟩ | ⟨_,rd,f,hf,h⟩
 ·rw [e]
  exact ⟨r.up,rfl,fun _ _=>rfl,fun _ h=>h,fun x hx=>by cases hx⟩
 ·have dec:∀ t out,t9A k (b3A s m) m.2.1 (t,out)→o6D k s t m out:=by
   intro t out d
   obtain ⟨f',hf',ok',o'⟩:=d.here
   refine ⟨d.run,d.now,fun j hj=>(d.oth j hj).trans (x3C hj),fun j hj => ?_,fun x hx => ?_⟩
   ·exact (s3E d.gks j).trans (x5C hj)
   ·obtain ⟨d',od,dk⟩:=o' x hx
    exact ⟨od.grp,od.frm,(x4C ok' od dk).1⟩
  rcases h with ⟨_,t,out,a,d,e,_⟩ | ⟨_,t,out,d,e,_⟩ | ⟨_,e⟩ | ⟨k13,e⟩
  ·rw [e]; exact dec t out d
  ·rw [e]
   have q:=dec t out d
   refine ⟨q.run,q.now,q.oth,q.kept,fun x hx => ?_⟩
   rcases Ck.1 hx with hx | hx
   ·exact q.out x hx
   ·rw [Bo.1 hx]
    have:=rd.frm
    exact ⟨rfl,rfl,by show 1≤m.2.2.1; omega⟩
  ·rw [e]
   obtain ⟨a1,a2,a3⟩:=r8E (m:=m) rd.run
   refine ⟨a1.up,a3,fun j hj => ?_,fun j hj => ?_,fun x hx=>by cases hx⟩
   ·show a5A j (x0A (b3A s m) m).2.1=_
    rw [a2]; exact x3C hj
   ·show (a5A j (x0A (b3A s m) m).2.1).isSome=true
    rw [a2]; exact x5C hj
  ·rw [e]
   refine ⟨rd.run.up,rfl,fun j hj=>x3C hj,fun j hj=>x5C hj,fun x hx => ?_⟩
   have hx:x∈x1A (b3A s m) m:=hx
   unfold x1A at hx
   rw [hf] at hx
   split at hx
   ·obtain ⟨a,b,c,d,_⟩:=h5C hx
    have fo:=(rd.run.G _ (n8A hf)).2.2.2.1
    obtain ⟨s1,e1,hh,p,u,l,n,W,M⟩:=f
    exact ⟨b,c,((h0A.1 fo).Mpos _ d).1⟩
   ·cases hx
theorem o8D {k:Nat} {s:SvT} (r:f8A k s) (hk:k<1000000):l6B s=((s.1+1,(f2A s).1.2.1,(f2A s).1.2.2.map (p7A (s.1+1))),(f2A s).2++(f2A s).1.2.2.flatMap (t8A (s.1+1)),0):=by
 have:=r.nw
 unfold l6B
 rw [r.sv,Bg (show s.1≠1099511627776 by omega)]
 rfl
theorem o9D {V W:Type} {h:V→W} {j:Int}:∀ {l:List (Int×V)},a5A j (l.map fun a=>(a.1,h a.2))=(a5A j l).map h
 | []=>rfl
 | a::l=>by
  show (if a.1=j then some (h a.2) else a5A j (l.map _))=Option.map h (if a.1=j then some a.2 else a5A j l)
  by_cases e:a.1=j
  ·rw [Aj e,Aj e]; rfl
  ·rw [Ae e,Ae e,o9D]
structure s4E (k:Nat) (s:SvT) (r:SvT×List MsT×Int):Prop where
 run:f8A (k+1) r.1
 now:r.1.1=s.1+1
 ok:r.2.2=0
 grp:r.1.2.1=s.2.1.map fun g=>(g.1,(doP g.2 (6,0,0,0,s.1+1)).1)
 out:∀ x∈r.2.1,x.2.2.1=0∧1≤x.2.2.2.1∧(x.1=5∨x.1=6∨x.1=7∨x.1=8∨x.1=9∨x.1=10∨x.1=15)
theorem p0D {k:Nat} {s:SvT} (r:f8A k s) (hk:k<1000000):s4E k s (l6B s):=by
 have h:=r.hs
 have n0:=h.n0
 have nw:=r.nw
 have h':HS (s.1+1,s.2.1,s.2.2):={ h with n0:=by show 0≤s.1+1; omega,n1:=by show s.1+1≤_; omega }
 have ta:=w9C r.ok (by omega)
 have gk:=h9C (n:=s.1+1) (l2:=s.2.1) (l1:=[]) (s:=(s.1+1,s.2.1,s.2.2)) (o:=[]) rfl rfl h' ta
 have eg:s.2.1.foldl (r2A (6,0,0,0,s.1+1)) ((s.1+1,s.2.1,s.2.2),[])=f2A s:=rfl
 rw [eg] at gk
 obtain ⟨k1,k2,k3,k4,k5,k6,⟨L,l1,l2,l3⟩,k7⟩:=gk
 rw [Cv] at k3 l1
 have gd:∀ g∈s.2.1,DoK g.2 (doP g.2 (6,0,0,0,s.1+1))∧f5A (doP g.2 (6,0,0,0,s.1+1)).1=true:=fun g hg=>by
  obtain ⟨a,b⟩:=ta g hg
  have d:=q8B a b
  have:=r.ep g hg
  exact ⟨d,d.ok (by omega)⟩
 have snd1:∀ p∈(f2A s).1.2.2,∀ x∈p.2.2.2.1,i0C x.2.1:=fun p hp x hx=>by
  rcases k7 p hp x hx with ⟨g,hg,d,hd,z⟩ | ⟨q,hq,_,z⟩
  ·exact o3D ((gd g hg).1.dc d hd) z
  ·exact r.snd q hq x z
 rw [o8D r hk]
 have pm:∀ x∈(f2A s).1.2.2.map (p7A (s.1+1)),∃ y∈(f2A s).1.2.2,x=p7A (s.1+1) y:=fun x hx=>by
  obtain ⟨y,hy,e⟩:=List.mem_map.1 hx
  exact ⟨y,hy,e.symm⟩
 have keys:((f2A s).1.2.2.map (p7A (s.1+1))).map (·.1)=(f2A s).1.2.2.map (·.1):=by
  rw [List.map_map]; rfl
 refine ⟨?_,rfl,rfl,k3,fun x hx => ?_⟩
 ·have h2:HS (s.1+1,(f2A s).1.2.1,(f2A s).1.2.2.map (p7A (s.1+1))):={ k1 with
   n0:=by show 0≤s.1+1; omega
   n1:=by show s.1+1≤_; omega
   ps:=by
    show j5A ((f2A s).1.2.2.map (p7A (s.1+1)))
    rw [h2C,keys,←h2C]; exact k1.ps
   P:=by show (List.map _ _).length≤_; rw [List.length_map]; exact k1.P
   pz:=fun x hx=>by
    obtain ⟨y,hy,rfl⟩:=pm x hx
    have:=k1.pz y hy
    exact ⟨this.1,k3E this.2⟩
   pw:=fun x hx=>by
    obtain ⟨y,hy,rfl⟩:=pm x hx
    exact k2E (k1.pw y hy) (by omega) (by omega) }
  have name:∀ x,(a5A x ((f2A s).1.2.2.map (p7A (s.1+1)))).map (·.1)=(a5A x s.2.2).map (·.1):=fun x=>by
   have e:(f2A s).1.2.2.map (p7A (s.1+1))=(f2A s).1.2.2.map (fun a:PeT=>(a.1,(fun v:ByteArray×RS=>(v.1,f7B v.2 (s.1+1))) a.2)):=rfl
   rw [e,o9D (h:=fun v:ByteArray×RS=>(v.1,f7B v.2 (s.1+1))),←k5 x,Option.map_map]
   rfl
  have r2:f8A k s:=r
  refine ⟨⟨h2.n0,h2.n1,?_,?_,h2.gs,h2.ps,fun g hg => ?_,fun x hx => ?_⟩,⟨h2.G,h2.P,h2.fz,h2.pz⟩,fun g hg => ?_,by show s.1+1≤_; omega,fun p hp x hx => ?_⟩
  ·show (f2A s).1.2.1.length≤4
   rw [k3,List.length_map]; exact r.ok.G4
  ·show (List.map _ _).length≤16
   rw [List.length_map,x1C k4]; exact r.ok.P16
  ·have hg:g∈(f2A s).1.2.1:=hg
   rw [k3] at hg
   obtain ⟨y,hy,rfl⟩:=List.mem_map.1 hg
   obtain ⟨a,b,c,d⟩:=r.ok.G y hy
   refine ⟨a,b,?_,(gd y hy).2⟩
   show (doP y.2 (6,0,0,0,s.1+1)).1.2.2.2.2.2.2.1=s.1+1
   rw [m4D (by show (1:Int)≤6; decide) (by show (6:Int)≤6; decide),Aj rfl]
  ·have hx':x∈(f2A s).1.2.2.map (p7A (s.1+1)):=hx
   have hm:x.1∈s.2.2.map (·.1):=by
    show x.1∈(s.1+1,s.2.1,s.2.2).2.2.map (·.1)
    rw [←k4,←keys]; exact List.mem_map.2 ⟨x,hx',rfl⟩
   obtain ⟨y,hy,hxy⟩:=List.mem_map.1 hm
   obtain ⟨a,b,c,d⟩:=r.ok.P y hy
   have n1:=name x.1
   rw [c7B (v:=x.2) h2.ps hx',c7B (x:=x.1) (v:=y.2) r.ok.Ps (by rw [←hxy]; exact hy)] at n1
   have n1:=Bp n1
   dsimp only at n1
   exact ⟨by omega,by omega,by rw [n1]; exact c,h2.pw x hx'⟩
  ·have hg:g∈(f2A s).1.2.1:=hg
   rw [k3] at hg
   obtain ⟨y,hy,rfl⟩:=List.mem_map.1 hg
   have a:=(gd y hy).1.ep
   have b:=r.ep y hy
   show (doP y.2 (6,0,0,0,s.1+1)).1.2.1≤_
   omega
  ·obtain ⟨y,hy,rfl⟩:=pm p hp
   have hx:x∈(k1A (s.1+1) y.2.2.2.1).map (g9A (s.1+1)):=hx
   obtain ⟨z,hz,rfl⟩:=List.mem_map.1 hx
   rw [l9D]
   exact snd1 y hy z (Dd.1 hz).1
 ·have hx:x∈(f2A s).2++(f2A s).1.2.2.flatMap (t8A (s.1+1)):=hx
  rcases Ck.1 hx with hx | hx
  ·rw [l1] at hx
   obtain ⟨g,hg,d,hd,z⟩:=l2 x hx
   have:=x4C (gd g hg).2 z ((gd g hg).1.dc d hd)
   exact ⟨z.frm,this.1,this.2⟩
  ·obtain ⟨y,hy,hx⟩:=List.mem_flatMap.1 hx
   unfold t8A q8A at hx
   obtain ⟨z,hz,rfl⟩:=List.mem_map.1 hx
   have q:=snd1 y hy z (Dd.1 (Dd.1 hz).1).1
   obtain ⟨a,b,c⟩:=q
   exact ⟨a,b,by omega⟩
theorem l9F {f:FlT} (hz:szF f):j5F f f=some true:=by
 have hW:=hz.1
 have hM:=hz.2
 unfold j5F
 rw [nF rfl,nF rfl,nF rfl,nF rfl,nF rfl,nF rfl,nF rfl,k6F (by unfold small; omega) (by unfold small; omega),Aa,Ah rfl,Cc,Ai,Aa]
 dsimp only
 rw [show (((f.2.2.2.2.2.2.2.1.length:Int)) != (f.2.2.2.2.2.2.2.1.length:Int))=false from Fe _,Ai]
 have:=t6A (f:=j7F) (fun i=>((f.2.2.2.2.2.2.2.1.length:Int),(i:Int),f,f,())) f.2.2.2.2.2.2.2.1.length (fun i hi=>by
  obtain ⟨a,ha⟩:∃ a,f.2.2.2.2.2.2.2.1[i]? = some a:=⟨_,Aq hi⟩
  have ws:IntKind.i64.wrap ((i:Int)+1)=((i+1:Nat):Int):=by rw [b8A (by omega) (by omega)]; rfl
  simp (disch:=omega) only [j7F,dT,wT,Ao,gD ha,Dq,Bool.and_self,Cc,Ai,ws]) (r:=.inl ()) (by
  simp (disch:=omega) only [j7F,dF])
 refine (Cp (fun z=>Option.bind z _) this).trans ?_
 rfl
theorem t9F {w:RS} {f t:Int} (h0:0≤f) (h1:f≤1073741824) (h2:0≤t) (h3:t≤1073741824) (h:c4B w f t):e2A w f t=(w,false,0):=by
 obtain ⟨x,hx,hk⟩:=h
 unfold e2A
 rw [Aj ⟨h0,h1,h2,h3⟩,hx]
 dsimp only
 rw [Aj hk]
theorem u0F {m:MsT} (h:okM m=true):0≤m.2.2.2.2.1∧m.2.2.2.2.1≤1073741824:=by
 unfold okM nO at h
 simp only [Ac,Au] at h
 obtain ⟨⟨⟨⟨⟨_,a⟩,_⟩,_⟩,_⟩,_⟩:=h
 exact a
def p0F (s:SvT) (m:MsT):Prop:=∃ x,a5A m.2.2.1 s.2.2=some x∧c4B x.2 m.2.2.1 m.2.2.2.2.1
theorem s2F {s:SvT} {m:MsT} (ho:okM m=true) (h:p0F s m):h7A s m=(s,false,0):=by
 obtain ⟨x,hx,hk⟩:=h
 have a:=t4F ho
 have b:=u0F ho
 unfold h7A
 rw [hx]
 dsimp only
 rw [t9F a.1 a.2 b.1 b.2 hk,Aj rfl]
 dsimp only
 rw [s0F hx]
theorem r5F {s:SvT} {m:MsT} {a:j4A} (ho:okM m=true) (h:p0F s m):h1A s m a=(s,[],0):=by
 unfold h1A
 rw [s2F ho h]
 rfl
theorem u4F {k:Nat} {s:SvT} {m:MsT} (r:f8A k s) (ho:okM m=true) (ht:toB s m=true):n9A s m=g4B (h2A (b3A s m) m):=by
 unfold n9A
 rw [r.sv,ho,Aj (show (true&&true)=true from rfl),Aj ht]
theorem y5F {X R C:Type} {cs:X→List C} {f:C→X→Option (X⊕R)} {r r':R}:∀ {n n':Nat} {x:X},z9B cs f r n x→z9B cs f r' n' x→r=r'
 | 0,_,_,h,_=>h.elim
 | n+1,0,_,_,h=>h.elim
 | n+1,n'+1,x,⟨h1,h2⟩,⟨_,h3⟩=>by
  obtain ⟨c,hc⟩:=List.exists_mem_of_ne_nil _ h1
  have a:=h2 c hc
  have b:=h3 c hc
  cases hf:f c x with
  | none=>rw [hf] at a; exact a.elim
  | some y =>
   rw [hf] at a b
   cases y with
   | inl y=>exact y5F a b
   | inr s=>exact a.symm.trans b
theorem a4G {X R C:Type} {cs:X→List C} {f:C→X→Option (X⊕R)} {x:X} {r:R} {n:Nat} (h:z9B cs f r n x):b0D cs f x=some r:=by
 unfold b0D
 have hex:∃ r n,z9B cs f r n x:=⟨r,n,h⟩
 rw [dif_pos hex]
 obtain ⟨n',hn⟩:=Ei hex
 rw [y5F hn h]
theorem w9F {A V:Type} {es:List (Nat×(A×V))} {ck:Nat} {S:List Nat} (hb:∀ e∈es,e.1<ck) :
  x9A es ck S ck=if (es.filter fun e=>!S.contains e.1)=[] then [none] else (es.filter fun e=>!S.contains e.1).map some:=by
 have h1:(!S.isEmpty&&(!es.isEmpty&&es.all fun e=>decide (ck≤e.1)))=false:=by
  cases es with
  | nil=>simp
  | cons e es =>
   have:=hb e Ax
   rw [List.all_cons,Am (by omega)]
   simp
 unfold x9A
 rw [h1,Ai]
 have h2:((es.filter fun e=>!S.contains e.1).filter fun e=>decide (e.1<ck))=es.filter fun e=>!S.contains e.1:=
  Eu.2 fun e he=>Ah (hb e (Dd.1 he).1)
 have h3:((es.filter fun e=>!S.contains e.1).filter fun e=>decide (ck≤e.1))=[]:=by
  rw [List.filter_eq_nil_iff]
  intro e he
  have:=hb e (Dd.1 he).1
  simp; omega
 rw [h2,h3,Bc]
 cases hc:(es.filter fun e=>!S.contains e.1) with
 | nil=>rfl
 | cons a l=>rfl
theorem x0F {X R A V:Type} {cs:X→List (Option (Nat×(A×V)))} {f:Option (Nat×(A×V))→X→Option (X⊕R)} (es:List (Nat×(A×V))) (ck:Nat) (cur:List Nat→List (Nat×(A×V))) (st:List Nat→X) (r:R) (Inv:List Nat→Prop)
  (hcs:∀ S,cs (st S)=x9A (cur S) ck S ck) (hk:∀ S,(cur S).map (·.1)=es.map (·.1)) (hcur:∀ S,∀ e∈es,e.1 ∉ S→e∈cur S) (hcur2:∀ S,∀ e∈cur S,e.1 ∉ S→e∈es)
  (hb:∀ e∈es,e.1<ck)
  (hstep:∀ S,Inv S→∀ e∈es,e.1 ∉ S→f (some e) (st S)=some (.inl (st (S++[e.1])))∧Inv (S++[e.1])∨f (some e) (st S)=some (.inr r))
  (hfin:∀ S,Inv S→(∀ e∈es,e.1∈S)→f none (st S)=some (.inr r)) (h0:Inv []):b0D cs f (st [])=some r:=by
 have key:∀ (n:Nat) (S:List Nat),((es.map (·.1)).filter fun b=>!S.contains b).length≤n→Inv S→z9B cs f r (n+1) (st S):=by
  have done:∀ (n:Nat) (S:List Nat),Inv S→(∀ e∈es,e.1∈S)→z9B cs f r (n+1) (st S):=by
   intro n S hS hall
   have hu:((cur S).filter fun e=>!S.contains e.1)=[]:=by
    rw [List.filter_eq_nil_iff]
    intro e he
    have hm:e.1∈es.map (·.1):=by rw [←hk S]; exact List.mem_map.2 ⟨e,he,rfl⟩
    obtain ⟨e',he',hee⟩:=List.mem_map.1 hm
    have:=hall e' he'
    rw [hee] at this
    simpa using this
   have hbc:∀ e∈cur S,e.1<ck:=fun e he=>by
    have hm:e.1∈es.map (·.1):=by rw [←hk S]; exact List.mem_map.2 ⟨e,he,rfl⟩
    obtain ⟨e',he',hee⟩:=List.mem_map.1 hm
    rw [←hee]; exact hb e' he'
   refine ⟨?_,fun c hc => ?_⟩
   ·rw [hcs,w9F hbc,Aj hu]; simp
   ·rw [hcs,w9F hbc,Aj hu] at hc
    rw [Bo.1 hc,hfin S hS hall]
  intro n
  induction n with
  | zero =>
   intro S hn hS
   refine done 0 S hS fun e he => ?_
   have:=List.filter_eq_nil_iff.1 (Br.1 (Nat.le_zero.1 hn)) e.1 (List.mem_map.2 ⟨e,he,rfl⟩)
   simpa using this
  | succ n ih =>
   intro S hn hS
   by_cases hall:∀ e∈es,e.1∈S
   ·exact done (n+1) S hS hall
   have hbc:∀ e∈cur S,e.1<ck:=fun e he=>by
    have hm:e.1∈es.map (·.1):=by rw [←hk S]; exact List.mem_map.2 ⟨e,he,rfl⟩
    obtain ⟨e',he',hee⟩:=List.mem_map.1 hm
    rw [←hee]; exact hb e' he'
   have hu:((cur S).filter fun e=>!S.contains e.1)≠[]:=by
    intro hu
    refine hall fun e he=>Decidable.byContradiction fun hne => ?_
    have:=List.filter_eq_nil_iff.1 hu e (hcur S e he hne)
    simp [hne] at this
   refine ⟨?_,fun c hc => ?_⟩
   ·rw [hcs,w9F hbc,Ae hu]
    intro h; exact hu (List.map_eq_nil_iff.1 h)
   ·rw [hcs,w9F hbc,Ae hu] at hc
    obtain ⟨e,he,rfl⟩:=List.mem_map.1 hc
    obtain ⟨he1,he2⟩:=Dd.1 he
    have hns:e.1 ∉ S:=by simpa using he2
    have hes:=hcur2 S e he1 hns
    rcases hstep S hS e hes hns with ⟨h1,h2⟩ | h1
    ·rw [h1]
     refine ih (S++[e.1]) ?_ h2
     have e1:((es.map (·.1)).filter fun b=>!(S++[e.1]).contains b)=(((es.map (·.1)).filter fun b=>!S.contains b).filter fun b=>!(b==e.1)):=by
      rw [List.filter_filter]
      congr 1
      funext b
      by_cases hbe:b=e.1
      ·simp [hbe]
      ·simp [hbe]
     rw [e1]
     have hm:e.1∈(es.map (·.1)).filter fun b=>!S.contains b:=Dd.2 ⟨List.mem_map.2 ⟨e,hes,rfl⟩,he2⟩
     have lt:((((es.map (·.1)).filter fun b=>!S.contains b)).filter fun b=>!(b==e.1)).length<((es.map (·.1)).filter fun b=>!S.contains b).length:=by
      refine Nat.lt_of_le_of_ne (Cm _ _) fun h => ?_
      have:=List.length_filter_eq_length_iff.1 h e.1 hm
      simp at this
     omega
    ·rw [h1]
 exact a4G (key _ [] (Ay _) h0)
theorem y6F {u:Int}:∀ {l:List Int} {b:Int},(u∈(i8A b l).2∨u<(i8A b l).1)↔(u∈l∨u<b)
 | [],b=>Iff.rfl
 | a::l,b=>by
  unfold i8A
  by_cases e:a=b
  ·rw [Aj e,y6F,Bf]
   constructor
   ·rintro (h | h)
    ·exact .inl (.inr h)
    ·by_cases hu:u=a
     ·exact .inl (.inl hu)
     ·exact .inr (by omega)
   ·rintro ((h | h) | h)
    ·exact .inr (by omega)
    ·exact .inl h
    ·exact .inr (by omega)
  ·rw [Ae e]
theorem y7F:∀ {l:List Int} {lo hi:Int},l.Pairwise (·<·)→(∀ x∈l,lo≤x∧x≤hi)→(l.length:Int)≤hi - lo+1∨l=[]
 | [],_,_,_,_=>.inr rfl
 | a::l,lo,hi,hs,h=>by
  left
  have h2:=List.pairwise_cons.1 hs
  have ha:=h a Ax
  rcases y7F (lo:=a+1) (hi:=hi) h2.2 (fun x hx=>⟨by have:=h2.1 x hx; omega,(h x (Bb _ hx)).2⟩) with q | q
  ·rw [Be]; omega
  ·rw [q]; simp; omega
theorem w4F {h:Hrd} {u:Int}:n5A h u=true↔u∈h.2.2∨u<h.2.1:=by
 unfold n5A
 rw [Db,Au,Au]
theorem y8F {q:Int} {h:Hrd} {t u:Int} (ho:l6A q h=true) (ht0:0≤t) (ht:t≤15) (hk:n5A h t=false) (hl:∀ x∈h.2.2,x≤15):n5A (i9A h t) u=true↔u=t∨n5A h u=true:=by
 obtain ⟨_,_,h3,_,_,h6⟩:=t7A.1 ho
 obtain ⟨hs,hb⟩:=z6A h6
 have hnt:t ∉ h.2.2:=fun hm=>by
  have:=w4F.2 (.inl hm:t∈h.2.2∨t<h.2.1)
  rw [hk] at this; cases this
 have is:=t4C hs hnt
 have len:(d9A t h.2.2).length≤16:=by
  rcases y7F (lo:=0) (hi:=15) is (fun x hx=>by
   rcases c3B.1 hx with rfl | hx
   ·exact ⟨ht0,ht⟩
   ·exact ⟨by have:=(hb x hx).1; omega,hl x hx⟩) with z | z
  ·omega
  ·rw [z]; simp
 have e:i9A h t=(h.1,i8A h.2.1 (d9A t h.2.2)):=by
  unfold i9A c2B
  rw [Ae (by omega)]
 rw [e,w4F]
 show (u∈(i8A h.2.1 (d9A t h.2.2)).2∨u<(i8A h.2.1 (d9A t h.2.2)).1)↔_
 rw [y6F,c3B,w4F]
 constructor
 ·rintro ((h | h) | h)
  ·exact .inl h
  ·exact .inr (.inl h)
  ·exact .inr (.inr h)
 ·rintro (h | h | h)
  ·exact .inl (.inl h)
  ·exact .inl (.inr h)
  ·exact .inr h
theorem a5G {w:RS} {f t u:Int} (hz:szW w) (ho:okW w=true) (he:(e2A w f t).2.2=0) (ht:t≤15) (hl:∀ u,c4B w f u→u≤15) (hu:0≤u) :
  (c4B (e2A w f t).1 f u↔u=t∨c4B w f u):=by
 obtain ⟨w1,w2,w3,w4,w5⟩:=z5A.1 ho
 have hs:=x4B w5
 unfold e2A at he ⊢
 by_cases hin:0≤f∧f≤1073741824∧0≤t∧t≤1073741824
 ·rw [Aj hin] at he ⊢
  cases hf:g8A f w.2.2 with
  | some h =>
   rw [hf] at he
   dsimp only at he ⊢
   obtain ⟨hf1,hf2⟩:=x6B hf
   obtain ⟨_,q,hq⟩:=hs.2 h hf2
   by_cases hk:n5A h t=true
   ·rw [Aj hk]
    constructor
    ·exact fun z=>.inr z
    ·rintro (rfl | z)
     ·exact ⟨h,hf,hk⟩
     ·exact z
   ·rw [Ae hk]
    have hk:n5A h t=false:=by simpa using hk
    have hl':∀ x∈h.2.2,x≤15:=fun x hx=>hl x ⟨h,hf,w4F.2 (.inl hx)⟩
    have ak:=fun u=>y8F (u:=u) hq hin.2.2.1 ht hk hl'
    have e1:g8A f (h4A (i9A h t) w.2.2)=some (i9A h t):=by
     rw [g9C,Aj (show (i9A h t).1=f from hf1)]
    constructor
    ·rintro ⟨x,hx,hxk⟩
     have hx:g8A f (h4A (i9A h t) w.2.2)=some x:=hx
     rw [e1] at hx
     rw [←Bp hx] at hxk
     rcases (ak u).1 hxk with z | z
     ·exact .inl z
     ·exact .inr ⟨h,hf,z⟩
    ·rintro (z | ⟨x,hx,z⟩)
     ·exact ⟨i9A h t,e1,(ak u).2 (.inl z)⟩
     ·rw [hf] at hx
      rw [←Bp hx] at z
      exact ⟨i9A h t,e1,(ak u).2 (.inr z)⟩
  | none =>
   rw [hf] at he
   dsimp only at he ⊢
   by_cases h64:64≤w.2.2.length
   ·rw [Aj h64] at he
    exact absurd he (by show (2:Int)≠0; decide)
   ·rw [Ae h64]
    have hq:l6A (-1) (f,0,[])=true:=j5E hin.1 hin.2.1
    have hk:n5A (f,0,[]) t=false:=by
     unfold n5A
     rw [Am (by simp),Am (by show ¬ t<0; omega)]; rfl
    have ak:=fun u=>y8F (u:=u) hq hin.2.2.1 ht hk (fun x hx=>by cases hx)
    have e1:g8A f (h4A (i9A (f,0,[]) t) w.2.2)=some (i9A (f,0,[]) t):=by
     rw [g9C,Aj (show (i9A (f,0,[]) t).1=f from rfl)]
    constructor
    ·rintro ⟨x,hx,hxk⟩
     have hx:g8A f (h4A (i9A (f,0,[]) t) w.2.2)=some x:=hx
     rw [e1] at hx
     rw [←Bp hx] at hxk
     rcases (ak u).1 hxk with z | z
     ·exact .inl z
     ·rcases w4F.1 z with z | z
      ·cases z
      ·have z:u<0:=z
       omega
    ·rintro (z | ⟨x,hx,z⟩)
     ·exact ⟨_,e1,(ak u).2 (.inl z)⟩
     ·rw [hf] at hx; cases hx
 ·rw [Ae hin] at he
  exact absurd he (by show (1:Int)≠0; decide)
def v3F (m:MsT):Bool:=decide (m.1≥1)&&decide (m.1≤4)||(m.1==12)
def KN (s:SvT) (j t:Int):Prop:=∃ x,a5A j s.2.2=some x∧c4B x.2 j t
abbrev FlE:=List (Nat×GrT)
abbrev HdE:=List (Nat×(List Int×Bool))
def hdB (hd:HdE) (j t:Int):Bool:=(l8A (fun b:List Int=>[j,t]==b) hd).getD false
structure FlI (s:SvT) (fl:FlE) (ck:Nat):Prop where
 fb:∀ e∈fl,e.1<ck
 fn:(fl.map (·.1)).Nodup
 kn:(fl.map (·.2.1)).Nodup
 corr:∀ j,l8A (fun b:Int=>j==b) fl=a5A j s.2.1
 len:fl.length=s.2.1.length
structure HrI (s:SvT) (hd:HdE):Prop where
 small:∀ e∈hd,e.2.1.getD 1 0≤15
 heard:∀ j t,0≤t→(hdB hd j t=true↔KN s j t)
theorem y9F {s t:SvT} {j u:Int} (h:(a5A j t.2.2).map (·.2.2.2)=(a5A j s.2.2).map (·.2.2.2)):KN t j u↔KN s j u:=by
 unfold KN c4B
 cases h1:a5A j t.2.2 with
 | none =>
  rw [h1] at h
  cases h2:a5A j s.2.2 with
  | none=>simp
  | some y=>rw [h2] at h; cases h
 | some x =>
  rw [h1] at h
  cases h2:a5A j s.2.2 with
  | none=>rw [h2] at h; cases h
  | some y =>
   rw [h2] at h
   have h:x.2.2.2=y.2.2.2:=Bp h
   simp only [Option.some.injEq,exists_eq_left',h]
theorem x6F {j t:Int}:∀ {hd:HdE},hdB hd j t=true→∃ e∈hd,e.2.1=[j,t]
 | [],h=>by cases h
 | e::hd,h=>by
  unfold hdB at h
  rw [l8A] at h
  cases he:([j,t]==e.2.1) with
  | true=>exact ⟨e,Ax,(Cw.1 he).symm⟩
  | false =>
   rw [he,Ai] at h
   obtain ⟨x,hx,q⟩:=x6F h
   exact ⟨x,Bb _ hx,q⟩
theorem HrI.le {s:SvT} {hd:HdE} (h:HrI s hd) {j u:Int} (k:KN s j u):u≤15:=by
 by_cases hu:0≤u
 ·obtain ⟨e,he,q⟩:=x6F ((h.heard j u hu).2 k)
  have:=h.small e he
  rw [q] at this
  exact this
 ·omega
theorem v5F {A V:Type}:∀ {es:List (Nat×(A×V))} {e:Nat×(A×V)},(es.map (·.1)).Nodup→e∈es→r4B e.1 es=some e.2
 | [],_,_,h=>by cases h
 | a::es,e,hn,h=>by
  have h2:=List.nodup_cons.1 hn
  unfold r4B
  rcases Bf.1 h with rfl | h
  ·rw [Cn]; rfl
  ·have:Nat.beq a.1 e.1=false:=l4D fun q=>h2.1 (List.mem_map.2 ⟨e,h,q.symm⟩)
   rw [this,Ai,v5F h2.2 h]
theorem w5F {V:Type}:∀ {es:List (Nat×(Int×V))} {e:Nat×(Int×V)},(es.map (·.2.1)).Nodup→e∈es→l8A (fun b:Int=>e.2.1==b) es=some e.2.2
 | [],_,_,h=>by cases h
 | a::es,e,hn,h=>by
  have h2:=List.nodup_cons.1 hn
  unfold l8A
  rcases Bf.1 h with rfl | h
  ·rw [Dq]; rfl
  ·have:(e.2.1==a.2.1)=false:=Bg fun q=>h2.1 (List.mem_map.2 ⟨e,h,q⟩)
   rw [this,Ai,w5F h2.2 h]
theorem z0F {V:Type} {y:V}:∀ {es:List (Nat×(Int×V))} {e:Nat×(Int×V)},(es.map (·.1)).Nodup→(es.map (·.2.1)).Nodup→e∈es →
  i9C (fun b:Int=>e.2.1==b) y es=es.map (fun x=>if x.1=e.1 then (x.1,(x.2.1,y)) else x)
 | [],_,_,_,h=>by cases h
 | a::es,e,hn,hk,h=>by
  have h2:=List.nodup_cons.1 hn
  have h3:=List.nodup_cons.1 hk
  unfold i9C
  rcases Bf.1 h with rfl | h
  ·rw [Dq,Al,List.map_cons,Aj rfl]
   congr 1
   refine (List.map_id' _).symm.trans (List.map_congr_left fun x hx => ?_)
   rw [Ae fun q=>h2.1 (List.mem_map.2 ⟨x,hx,q⟩)]
  ·have:(e.2.1==a.2.1)=false:=Bg fun q=>h3.1 (List.mem_map.2 ⟨e,h,q⟩)
   rw [this,Ai,List.map_cons,Ae (fun q=>h2.1 (List.mem_map.2 ⟨e,h,q.symm⟩)),z0F h2.2 h3.2 h]
theorem z1F {V:Type} {g:V→V} {j:Int}:∀ {es:List (Nat×(Int×V))},l8A (fun b:Int=>j==b) (es.map fun e=>(e.1,(e.2.1,g e.2.2)))=(l8A (fun b:Int=>j==b) es).map g
 | []=>rfl
 | a::es=>by
  rw [List.map_cons,l8A,l8A]
  cases (j==a.2.1) with
  | true=>rfl
  | false=>rw [Ai,Ai,z1F]
theorem x1F (S:List Nat) (b:Nat):(!(S++[b]).isEmpty)=true∧(S++[b]).getLastD 0=b:=by
 constructor
 ·cases S <;> rfl
 ·rw [List.getLastD_eq_getLast?]; simp
def v6F (a:j4A) (e:Nat×GrT):Nat×GrT:=(e.1,(e.2.1,(doP e.2.2 a).1))
theorem a6G {k i:Nat} {s t:SvT} {l:List MsT} {m:MsT} {fl:FlE} {ck:Nat} {hd:HdE×Nat} (r:f8A k s) (hk:k<1000000) (F:FlI s fl ck) (ht:t.1=s.1+1) :
  b0D (fun (p7:Bool×Int×List MsT×Int×Int×(FlE×Nat)×(HdE×Nat)×SvT×MsT×SvT×(Nat×List Nat×Nat)×Unit)=>x9A p7.2.2.2.2.2.1.1 p7.2.2.2.2.2.2.2.2.2.2.1.1 p7.2.2.2.2.2.2.2.2.2.2.1.2.1 p7.2.2.2.2.2.2.2.2.2.2.1.2.2)
   w3F (true,0,l,(l.length:Int),(i:Int),(fl,ck),hd,s,m,t,(ck,[],ck),()) =
  some (.inl (true,0,l,(l.length:Int),(i:Int),(fl.map (v6F (6,0,0,0,s.1+1)),ck),hd,s,m,t,())):=by
 have nw:=r.nw
 obtain ⟨cur,hcur⟩:∃ cur:List Nat→FlE,cur=fun S=>fl.map fun e=>if S.contains e.1 then v6F (6,0,0,0,s.1+1) e else e:=⟨_,rfl⟩
 have c0:cur []=fl:=by
  rw [hcur]
  show fl.map (fun e=>if ([]:List Nat).contains e.1=true then _ else e)=fl
  simp
 have keys1:∀ S,(cur S).map (·.1)=fl.map (·.1):=fun S=>by
  rw [hcur]
  show (fl.map _).map _=_
  rw [List.map_map]
  refine List.map_congr_left fun e _ => ?_
  show (if S.contains e.1=true then v6F _ e else e).1=e.1
  split <;> rfl
 have keys2:∀ S,(cur S).map (·.2.1)=fl.map (·.2.1):=fun S=>by
  rw [hcur]
  show (fl.map _).map _=_
  rw [List.map_map]
  refine List.map_congr_left fun e _ => ?_
  show (if S.contains e.1=true then v6F _ e else e).2.1=e.2.1
  split <;> rfl
 have mem1:∀ S,∀ e∈fl,e.1 ∉ S→e∈cur S:=fun S e he hS=>by
  rw [hcur]
  refine List.mem_map.2 ⟨e,he,?_⟩
  rw [Ae (by simpa using hS)]
 have:=x0F (cs:=fun (p7:Bool×Int×List MsT×Int×Int×(FlE×Nat)×(HdE×Nat)×SvT×MsT×SvT×(Nat×List Nat×Nat)×Unit)=>x9A p7.2.2.2.2.2.1.1 p7.2.2.2.2.2.2.2.2.2.2.1.1 p7.2.2.2.2.2.2.2.2.2.2.1.2.1 p7.2.2.2.2.2.2.2.2.2.2.1.2.2)
  (f:=w3F) fl ck cur (fun S=>(true,0,l,(l.length:Int),(i:Int),(cur S,ck),hd,s,m,t,(ck,S,ck),()))
  (.inl (true,0,l,(l.length:Int),(i:Int),(fl.map (v6F (6,0,0,0,s.1+1)),ck),hd,s,m,t,())) (fun _=>True) (fun S=>rfl) keys1 mem1 (fun S e he hS => ?_) F.fb (fun S _ e he hS => ?_) (fun S _ hall => ?_) trivial
 ·rw [c0] at this
  exact this
 ·rw [hcur] at he
  obtain ⟨x,hx,hxe⟩:=List.mem_map.1 he
  by_cases hc:S.contains x.1=true
  ·rw [Aj hc] at hxe
   have:x.1=e.1:=by rw [←hxe]; rfl
   rw [this] at hc
   exact absurd (by simpa using hc) hS
  ·rw [Ae hc] at hxe
   rw [←hxe]; exact hx
 ·left
  refine ⟨?_,trivial⟩
  have hc:=mem1 S e he hS
  obtain ⟨la,lb⟩:=x1F S e.1
  have ef:=v5F (by rw [keys1]; exact F.fn) hc
  have gf:a5A e.2.1 s.2.1=some e.2.2:=by rw [←F.corr]; exact w5F F.kn he
  have hg:=n8A gf
  have fz:=r.hs.fz _ hg
  obtain ⟨g1,g2,g3,g4,g5⟩:=r.G _ hg
  dsimp only at g3 g4
  have ak:k7A e.2.2 (6,0,0,0,s.1+1)=true:=by
   show (decide (e.2.2.2.2.2.2.2.2.1≤s.1+1)&&decide (s.1+1≤1099511627776))=true
   rw [Ah (by omega),Ah (by omega)]; rfl
  unfold w3F
  dsimp only
  rw [la,lb,ef,Cn,ht]
  rw [show (true&&(true&&(some e.2).isSome))=true from rfl,Al]
  rw [show ((some e.2).getD (0,(0,(0,(0,(0,(0,(0,(0,([],[]))))))))))=e.2 from rfl,m1E fz.1 fz.2,Aa,k9B g4 ak]
  dsimp only
  have fe:l8A (fun b:Int=>e.2.1==b) (cur S)=some e.2.2:=w5F (by rw [keys2]; exact F.kn) hc
  unfold z1B ckE
  rw [nF rfl,fe,show (some e.2.2).isSome=true from rfl,Al,Al,z0F (by rw [keys1]; exact F.fn) (by rw [keys2]; exact F.kn) hc]
  have e2:(cur S).map (fun x=>if x.1=e.1 then (x.1,(x.2.1,(doP e.2.2 (6,0,0,0,s.1+1)).1)) else x)=cur (S++[e.1]):=by
   rw [hcur]
   show (fl.map _).map _=fl.map _
   rw [List.map_map]
   refine List.map_congr_left fun x hx => ?_
   show (fun y:Nat×GrT=>if y.1=e.1 then (y.1,(y.2.1,(doP e.2.2 (6,0,0,0,s.1+1)).1)) else y) (if S.contains x.1=true then v6F (6,0,0,0,s.1+1) x else x)=_
   by_cases hx1:x.1=e.1
   ·have hxe:x=e:=by
     have q1:=v5F F.fn hx
     have q2:=v5F F.fn he
     rw [hx1,q2] at q1
     exact Prod.ext hx1 (Bp q1).symm
    subst hxe
    rw [Ae (show ¬ S.contains x.1=true by simpa using hS)]
    dsimp only
    rw [Aj rfl,Aj (by simp)]
    rfl
   ·by_cases hc:S.contains x.1=true
    ·rw [Aj hc]
     dsimp only
     rw [Ae (show ¬ (v6F (6,0,0,0,s.1+1) x).1=e.1 from hx1),Aj (by simp at hc ⊢; exact .inl hc)]
    ·rw [Ae hc]
     dsimp only
     rw [Ae hx1,Ae (by simp at hc ⊢; exact ⟨hc,hx1⟩)]
  rw [e2]
 ·have:cur S=fl.map (v6F (6,0,0,0,s.1+1)):=by
   rw [hcur]
   refine List.map_congr_left fun x hx => ?_
   rw [Aj (by simpa using hall x hx)]
  show w3F none (true,0,l,(l.length:Int),(i:Int),(cur S,ck),hd,s,m,t,(ck,S,ck),())=_
  rw [this]
  rfl
theorem a7G {k:Nat} {s:SvT} (r:f8A k s) (hk:k<1000000) (j:Int):(a5A j (l6B s).1.2.2).map (·.2.2.2)=(a5A j s.2.2).map (·.2.2.2):=by
 have h:=r.hs
 have h':HS (s.1+1,s.2.1,s.2.2):={ h with n0:=by have:=h.n0; show 0≤s.1+1; omega,n1:=by have:=r.nw; show s.1+1≤_; omega }
 have ta:=w9C r.ok (by have:=r.nw; omega)
 have gk:=h9C (n:=s.1+1) (l2:=s.2.1) (l1:=[]) (s:=(s.1+1,s.2.1,s.2.2)) (o:=[]) rfl rfl h' ta
 have eg:s.2.1.foldl (r2A (6,0,0,0,s.1+1)) ((s.1+1,s.2.1,s.2.2),[])=f2A s:=rfl
 rw [eg] at gk
 obtain ⟨_,_,_,_,_,k6,_⟩:=gk
 rw [o8D r hk]
 have e:(f2A s).1.2.2.map (p7A (s.1+1))=(f2A s).1.2.2.map (fun a:PeT=>(a.1,(fun v:ByteArray×RS=>(v.1,f7B v.2 (s.1+1))) a.2)):=rfl
 show (a5A j ((f2A s).1.2.2.map (p7A (s.1+1)))).map _=_
 rw [e,o9D (h:=fun v:ByteArray×RS=>(v.1,f7B v.2 (s.1+1))),←k6 j,Option.map_map]
 rfl
theorem FlI.tick {k:Nat} {s:SvT} {fl:FlE} {ck:Nat} (r:f8A k s) (hk:k<1000000) (F:FlI s fl ck):FlI (l6B s).1 (fl.map (v6F (6,0,0,0,s.1+1))) ck:=by
 have g:=(p0D r hk).grp
 refine ⟨fun e he => ?_,?_,?_,fun j => ?_,?_⟩
 ·obtain ⟨x,hx,rfl⟩:=List.mem_map.1 he
  exact F.fb x hx
 ·rw [List.map_map]; exact F.fn
 ·rw [List.map_map]; exact F.kn
 ·have:=z1F (g:=fun v=>(doP v (6,0,0,0,s.1+1)).1) (j:=j) (es:=fl)
  refine this.trans ?_
  rw [F.corr,g]
  exact (o9D (h:=fun v=>(doP v (6,0,0,0,s.1+1)).1)).symm
 ·rw [List.length_map,g,List.length_map,F.len]
theorem HrI.same {s t:SvT} {hd:HdE} (h:HrI s hd) (e:∀ j,(a5A j t.2.2).map (·.2.2.2)=(a5A j s.2.2).map (·.2.2.2)):HrI t hd:=
 ⟨h.small,fun j u hu=>(h.heard j u hu).trans (y9F (e j)).symm⟩
theorem a8G {hd:HdE} {ck:Nat} (hb:∀ e∈hd,e.1<ck) (hn:(hd.map (·.1)).Nodup) (h:∀ e∈hd,e.2.1.getD 1 0≤15) :
  b0D (fun (p31:(HdE×Nat)×(Nat×List Nat×Nat)×Unit)=>x9A p31.1.1 p31.2.1.1 p31.2.1.2.1 p31.2.1.2.2) v2F ((hd,ck),(ck,[],ck),())=some (.inl ((hd,ck),())):=by
 refine x0F (cs:=fun (p31:(HdE×Nat)×(Nat×List Nat×Nat)×Unit)=>x9A p31.1.1 p31.2.1.1 p31.2.1.2.1 p31.2.1.2.2) (f:=v2F) hd ck (fun _=>hd) (fun S=>((hd,ck),(ck,S,ck),())) _ (fun _=>True) (fun _=>rfl) (fun _=>rfl) (fun _ e he _=>he) (fun _ e he _=>he) hb (fun S _ e he hS=>.inl ⟨?_,trivial⟩) (fun S _ _=>rfl) trivial
 obtain ⟨la,lb⟩:=x1F S e.1
 unfold v2F
 dsimp only
 rw [la,lb,v5F hn he,Cn]
 rw [show (true&&(true&&(some e.2).isSome))=true from rfl,Al,wT (by decide) (by decide)]
 rw [show (((some e.2).getD ((List.replicate 2 0),false)).1).getD 1 0=e.2.1.getD 1 0 from rfl,dF (by have:=h e he; omega)]
theorem a9G {hd:HdE} {ck:Nat} (hb:∀ e∈hd,e.1<ck) (hn:(hd.map (·.1)).Nodup) (h:∃ e∈hd,15<e.2.1.getD 1 0) :
  b0D (fun (p31:(HdE×Nat)×(Nat×List Nat×Nat)×Unit)=>x9A p31.1.1 p31.2.1.1 p31.2.1.2.1 p31.2.1.2.2) v2F ((hd,ck),(ck,[],ck),())=some (.inr (true,(hd,ck),())):=by
 refine x0F (cs:=fun (p31:(HdE×Nat)×(Nat×List Nat×Nat)×Unit)=>x9A p31.1.1 p31.2.1.1 p31.2.1.2.1 p31.2.1.2.2) (f:=v2F) hd ck (fun _=>hd) (fun S=>((hd,ck),(ck,S,ck),())) _ (fun S=>∀ e∈hd,e.1∈S→e.2.1.getD 1 0≤15) (fun _=>rfl) (fun _=>rfl) (fun _ e he _=>he) (fun _ e he _=>he) hb (fun S hS e he hne => ?_) (fun S hS hall => ?_) (fun e _ hq=>by cases hq)
 ·obtain ⟨la,lb⟩:=x1F S e.1
  unfold v2F
  dsimp only
  rw [la,lb,v5F hn he,Cn]
  rw [show (true&&(true&&(some e.2).isSome))=true from rfl,Al,wT (by decide) (by decide)]
  rw [show (((some e.2).getD ((List.replicate 2 0),false)).1).getD 1 0=e.2.1.getD 1 0 from rfl]
  by_cases hf:e.2.1.getD 1 0>15
  ·right
   rw [dT hf]
  ·left
   refine ⟨by rw [dF hf],fun x hx hxs => ?_⟩
   rcases Ck.1 hxs with hxs | hxs
   ·exact hS x hx hxs
   ·have hxe:x=e:=by
     have q0:=Bo.1 hxs
     have q1:=v5F hn hx
     have q2:=v5F hn he
     rw [q0,q2] at q1
     exact Prod.ext q0 (Bp q1).symm
    rw [hxe]; omega
 ·obtain ⟨e,he,hf⟩:=h
  have:=hS e he (hall e he)
  omega
theorem b0G {k i:Nat} {s:SvT} {l:List MsT} {fl:FlE} {ck:Nat} {hd:HdE×Nat} (r:f8A k s) (F:FlI s fl ck) :
  b0D (fun (p38:Bool×List MsT×Int×Int×(FlE×Nat)×(HdE×Nat)×SvT×(Nat×List Nat×Nat)×Unit)=>x9A p38.2.2.2.2.1.1 p38.2.2.2.2.2.2.2.1.1 p38.2.2.2.2.2.2.2.1.2.1 p38.2.2.2.2.2.2.2.1.2.2) v4F
   (true,l,(l.length:Int),(i:Int),(fl,ck),hd,s,(ck,[],ck),())=some (.inl (true,l,(l.length:Int),(i:Int),(fl,ck),hd,s,())):=by
 refine x0F (cs:=fun (p38:Bool×List MsT×Int×Int×(FlE×Nat)×(HdE×Nat)×SvT×(Nat×List Nat×Nat)×Unit)=>x9A p38.2.2.2.2.1.1 p38.2.2.2.2.2.2.2.1.1 p38.2.2.2.2.2.2.2.1.2.1 p38.2.2.2.2.2.2.2.1.2.2) (f:=v4F) fl ck (fun _=>fl)
  (fun S=>(true,l,(l.length:Int),(i:Int),(fl,ck),hd,s,(ck,S,ck),())) _ (fun _=>True) (fun _=>rfl) (fun _=>rfl) (fun _ e he _=>he) (fun _ e he _=>he) F.fb (fun S _ e he hS=>.inl ⟨?_,trivial⟩) (fun S _ _=>rfl) trivial
 obtain ⟨la,lb⟩:=x1F S e.1
 have gf:a5A e.2.1 s.2.1=some e.2.2:=by rw [←F.corr]; exact w5F F.kn he
 have fl1:l5B s e.2.1=(e.2.2,true):=by
  unfold l5B
  rw [r.sv,Aj rfl,gf]
 unfold v4F
 dsimp only
 rw [la,lb,v5F F.fn he,Cn]
 rw [show (true&&(true&&(some e.2).isSome))=true from rfl,Al]
 rw [show ((some e.2).getD (0,(0,(0,(0,(0,(0,(0,(0,([],[]))))))))))=e.2 from rfl,w7C r.sz,Aa,fl1]
 dsimp only
 rw [Cc,Ai,l9F (r.hs.fz _ (n8A gf)),Aa,Cc,Aa]
 dsimp only
 rw [Ai]
def v7F (m:MsT):j4A:=
 if m.1=1 then (1,m.2.2.1,0,m.2.2.2.2.2.1,0) else if m.1=2 then (2,m.2.2.1,0,m.2.2.2.2.2.1,0) else
 if m.1=3 then (3,m.2.2.1,w3C m.2.2.2.2.2.2.1,m.2.2.2.2.2.1,0) else if m.1=12 then (5,m.2.2.1,0,m.2.2.2.2.2.1,0) else
 if m.1=4 then (4,m.2.2.1,0,m.2.2.2.2.2.1,0) else (0,m.2.2.1,0,m.2.2.2.2.2.1,0)
def w0F (f:FlT) (m:MsT):FlT:=
 if (m.1=2∨m.1=4)∧y4B f m=true then f else if (doR f (v7F m)).2.2=0 then (doR f (v7F m)).1 else f
theorem z2F {f:FlT} {m:MsT} {a:j4A}:(bif (f.1 != 0) then
 bif (f.2.2.1==m.2.2.1) then
 some ((f.2.1 != m.2.2.2.2.2.1),f,zFl,a,())
 else
 some (false,f,zFl,a,())
 else
 some (false,f,zFl,a,()):Option (Bool×FlT×FlT×j4A×Unit))=some (y4B f m,f,zFl,a,()):=by
 unfold y4B
 by_cases h1:f.1=0
 ·rw [nF h1,Am (fun q=>q.1 h1)]
 ·rw [nT h1]
  by_cases h2:f.2.2.1=m.2.2.1
  ·rw [eT h2]
   by_cases h3:f.2.1=m.2.2.2.2.2.1
   ·rw [Am (fun q=>q.2.2 h3),show (f.2.1 != m.2.2.2.2.2.1)=false by rw [h3]; exact Fe _]
   ·rw [Ah ⟨h1,h2,h3⟩,show (f.2.1 != m.2.2.2.2.2.1)=true from bne_iff_ne.2 h3]
  ·rw [eF h2,Am (fun q=>h2 q.2.1)]
theorem b1G {f:FlT} {m:MsT} (hz:szF f):v9F f m=some (w0F f m):=by
 have fin:∀ a:j4A,((some (Sum.inl (f,zFl,a,())):Option ((FlT×FlT×j4A×Unit)⊕(FlT×Unit))).bind fun j3 =>
 (match j3 with
 | .inl j4 =>
 ((n3A j4.1 j4.2.2.1).bind fun y6 =>
 bif (y6.2.2 != 0) then
 some j4.1
 else
 some y6.1)
 | .inr j5 =>
 (some j5.1)):Option FlT)=some (if (doR f a).2.2=0 then (doR f a).1 else f):=by
  intro a
  rw [Aa]
  dsimp only
  rw [m1E hz.1 hz.2,Aa]
  by_cases h:(doR f a).2.2=0
  ·rw [nF h,Aj h]
  ·rw [nT h,Ae h]
 unfold v9F w0F v7F
 by_cases k1:m.1=1
 ·rw [eT k1,Aj k1,Ae (fun q=>by omega)]
  exact fin (1,m.2.2.1,0,m.2.2.2.2.2.1,0)
 rw [eF k1,Ae k1]
 by_cases k2:m.1=2
 ·rw [eT k2,Aj k2]
  refine (Cp (fun z=>Option.bind (Option.bind z _) _) (z2F (a:=(0,(m.2.2.1,(0,(m.2.2.2.2.2.1,0))))))).trans ?_
  rw [Aa]
  dsimp only
  cases ho:y4B f m with
  | true=>rw [Al,Aa,Aj ⟨.inl k2,rfl⟩]
  | false =>
   rw [Ai,Ae (fun q=>by cases q.2)]
   exact fin (2,m.2.2.1,0,m.2.2.2.2.2.1,0)
 rw [eF k2,Ae k2]
 by_cases k3:m.1=3
 ·rw [eT k3,Aj k3,Ae (show ¬ ((m.1=2∨m.1=4)∧y4B f m=true) from fun q=>by omega)]
  exact fin (3,m.2.2.1,w3C m.2.2.2.2.2.2.1,m.2.2.2.2.2.1,0)
 rw [eF k3,Ae k3]
 by_cases k12:m.1=12
 ·rw [eT k12,Aj k12,Ae (fun q=>by omega)]
  exact fin (5,m.2.2.1,0,m.2.2.2.2.2.1,0)
 rw [eF k12,Ae k12]
 by_cases k4:m.1=4
 ·rw [eT k4,Aj k4]
  refine (Cp (fun z=>Option.bind (Option.bind z _) _) (z2F (a:=(0,(m.2.2.1,(0,(m.2.2.2.2.2.1,0))))))).trans ?_
  rw [Aa]
  dsimp only
  cases ho:y4B f m with
  | true=>rw [Al,Aa,Aj ⟨.inr k4,rfl⟩]
  | false =>
   rw [Ai,Ae (fun q=>by cases q.2)]
   exact fin (4,m.2.2.1,0,m.2.2.2.2.2.1,0)
 rw [eF k4,Ae k4,Ae (fun q=>by omega)]
 exact fin (0,m.2.2.1,0,m.2.2.2.2.2.1,0)
theorem z3F {f:FlT} {a b c d:Int}:doP f (1,a,b,c,d)=k4B a f:=Aj rfl
theorem z4F {f:FlT} {a b c d:Int}:doP f (2,a,b,c,d)=k5B a f:=(Ae (show ¬ (2:Int)=1 by decide)).trans (Aj rfl)
theorem z5F {f:FlT} {a b c d:Int}:doP f (3,a,b,c,d)=k6B a b f:=(Ae (show ¬ (3:Int)=1 by decide)).trans ((Ae (show ¬ (3:Int)=2 by decide)).trans (Aj rfl))
theorem z6F {f:FlT} {a b c d:Int}:doP f (4,a,b,c,d)=q9A a f:=(Ae (show ¬ (4:Int)=1 by decide)).trans ((Ae (show ¬ (4:Int)=2 by decide)).trans ((Ae (show ¬ (4:Int)=3 by decide)).trans (Aj rfl)))
theorem b2G {f:FlT} {a b c d b' c':Int}:doR f (1,a,b,c,d)=doR f (1,a,b',c',d):=by
 have e1:k7A f (1,a,b,c,d)=k7A f (1,a,b',c',d):=rfl
 unfold doR
 rw [e1,z3F,z3F]
theorem b3G {f:FlT} {a b c d b' c':Int}:doR f (2,a,b,c,d)=doR f (2,a,b',c',d):=by
 have e1:k7A f (2,a,b,c,d)=k7A f (2,a,b',c',d):=rfl
 unfold doR
 rw [e1,z4F,z4F]
theorem b4G {f:FlT} {a b c d c':Int}:doR f (3,a,b,c,d)=doR f (3,a,b,c',d):=by
 have e1:k7A f (3,a,b,c,d)=k7A f (3,a,b,c',d):=rfl
 unfold doR
 rw [e1,z5F,z5F]
theorem b5G {f:FlT} {a b c d b' c':Int}:doR f (4,a,b,c,d)=doR f (4,a,b',c',d):=by
 have e1:k7A f (4,a,b,c,d)=k7A f (4,a,b',c',d):=rfl
 unfold doR
 rw [e1,z6F,z6F]
theorem b6G {s:SvT} {m:MsT} {x:ByteArray×RS} (hx:a5A m.2.2.1 s.2.2=some x) (he:(h7A s m).2.2=0) (hn:¬ p0F s m):(h7A s m).2.1=true:=by
 unfold h7A at he ⊢
 rw [hx] at he ⊢
 dsimp only at he ⊢
 by_cases hq:(e2A x.2 m.2.2.1 m.2.2.2.2.1).2.2=0
 ·rw [Aj hq]
  show (e2A x.2 m.2.2.1 m.2.2.2.2.1).2.1=true
  unfold e2A at hq ⊢
  by_cases hin:0≤m.2.2.1∧m.2.2.1≤1073741824∧0≤m.2.2.2.2.1∧m.2.2.2.2.1≤1073741824
  ·rw [Aj hin] at hq ⊢
   cases hf:g8A m.2.2.1 x.2.2.2 with
   | some h =>
    rw [hf] at hq
    dsimp only at hq ⊢
    by_cases hk:n5A h m.2.2.2.2.1=true
    ·exact absurd ⟨x,hx,h,hf,hk⟩ hn
    ·rw [Ae hk]
   | none =>
    rw [hf] at hq
    dsimp only at hq ⊢
    by_cases h64:64≤x.2.2.2.length
    ·rw [Aj h64] at hq; exact absurd hq (by show (2:Int)≠0; decide)
    ·rw [Ae h64]
  ·rw [Ae hin] at hq; exact absurd hq (by show (1:Int)≠0; decide)
 ·rw [Ae hq] at he; exact absurd he hq
theorem z7F {s:SvT} {m:MsT} {x:ByteArray×RS} (h:HS s) (hx:a5A m.2.2.1 s.2.2=some x) (he:(h7A s m).2.2=0) (ht:m.2.2.2.2.1≤15) (hl:∀ u,KN s m.2.2.1 u→u≤15) {j u:Int} (hu:0≤u) :
  KN (h7A s m).1 j u↔KN s j u∨(j=m.2.2.1∧u=m.2.2.2.2.1):=by
 have hm:=n8A hx
 unfold h7A at he ⊢
 rw [hx] at he ⊢
 dsimp only at he ⊢
 by_cases hq:(e2A x.2 m.2.2.1 m.2.2.2.2.1).2.2=0
 ·rw [Aj hq]
  have kw:=a5G (u:=u) (h.pz _ hm).2 (h.pw _ hm) hq ht (fun u hu=>hl u ⟨x,hx,hu⟩) hu
  unfold KN
  dsimp only
  rw [c8B]
  by_cases e:m.2.2.1=j
  ·subst e
   rw [Aj rfl,hx]
   simp only [Option.map_some,Option.some.injEq,exists_eq_left',true_and]
   rw [kw]
   exact Or.comm
  ·rw [Ae e]
   constructor
   ·exact fun z=>.inl z
   ·rintro (z | ⟨z,_⟩)
    ·exact z
    ·exact absurd z.symm e
 ·rw [Ae hq] at he; exact absurd he hq
theorem z8F {s:SvT} {m:MsT} {a:j4A} {x:ByteArray×RS} (h:HS s) (hx:a5A m.2.2.1 s.2.2=some x) (he:(h1A s m a).2.2=0):(h7A s m).2.2=0:=by
 by_cases hb:(h7A s m).2.1=true
 ·exact p0E h hx hb
 ·unfold h1A at he
  rw [Ae hb] at he
  exact he
theorem b7G {s:SvT} {m:MsT} {a:j4A} {f:FlT} (h:HS s) (hf:a5A m.2.1 s.2.1=some f) (j:Int):(a5A j (h1A s m a).1.2.2).map (·.2.2.2)=(a5A j (h7A s m).1.2.2).map (·.2.2.2):=by
 obtain ⟨k1,k2,k3,_⟩:=l3B (m:=m) h
 unfold h1A
 by_cases hb:(h7A s m).2.1=true
 ·rw [Aj hb,hf]
  show (a5A j (g5A (h7A s m).1 [] m.2.1 f a).1.2.2).map _=_
  rcases v9C f a with ⟨h0,h1,h2,_⟩ | ⟨h0,h1⟩
  ·exact (w8C (o:=[]) (gid:=m.2.1) k1 h1 h2).heard j
  ·have hn:(doR f a).2.2≠0:=by rw [h0]; decide
   unfold g5A
   rw [Ae hn]
 ·rw [Ae hb]
theorem b8G {s:SvT} {m:MsT} {a:j4A} {f:FlT} {x:ByteArray×RS} (h:HS s) (hx:a5A m.2.2.1 s.2.2=some x) (hf:a5A m.2.1 s.2.1=some f) (he:(h1A s m a).2.2=0) (hn:¬ p0F s m) :
  (doR f a).2.2=0∧∀ j,a5A j (h1A s m a).1.2.1=if m.2.1=j then some (doR f a).1 else a5A j s.2.1:=by
 obtain ⟨k1,k2,k3,_⟩:=l3B (m:=m) h
 have hb:=b6G hx (z8F h hx he) hn
 unfold h1A at he ⊢
 rw [Aj hb,hf] at he ⊢
 have he:(g5A (h7A s m).1 [] m.2.1 f a).2.2=0:=he
 rcases v9C f a with ⟨h0,h1,h2,h3,_⟩ | ⟨h0,h1⟩
 ·refine ⟨h0,fun j => ?_⟩
  have t:=(w8C (o:=[]) (gid:=m.2.1) k1 h1 h2).grp
  show a5A j (g5A (h7A s m).1 [] m.2.1 f a).1.2.1=_
  dsimp only at t
  rw [t,c8B,k3,h3]
  by_cases e:m.2.1=j
  ·subst e
   rw [Aj rfl,Aj rfl,hf]; rfl
  ·rw [Ae e,Ae e]
 ·have hn:(doR f a).2.2≠0:=by rw [h0]; decide
  unfold g5A at he
  rw [Ae hn] at he
  exact absurd he hn
structure w6F (s c t:SvT) (f:FlT) (m:MsT):Prop where
 keys:t.2.1.map (·.1)=c.2.1.map (·.1)
 flo1:p0F c m→t.2.1=c.2.1
 flo2:¬ p0F c m→∀ j,a5A j t.2.1=if m.2.1=j then some (w0F f m) else a5A j c.2.1
 per:(a5A m.2.2.1 t.2.2).isSome=true
 hea:m.2.2.2.2.1≤15→(∀ u,KN c m.2.2.1 u→u≤15)→∀ j u,0≤u→(KN t j u↔KN c j u∨(j=m.2.2.1∧u=m.2.2.2.2.1))
theorem x2F {k:Nat} {s c t:SvT} {m:MsT} {a:j4A} {out:List MsT} {f:FlT} {x:ByteArray×RS} (ho:okM m=true) (r:f8A k c) (hx:a5A m.2.2.1 c.2.2=some x) (hf:a5A m.2.1 c.2.1=some f) (e:h1A c m a=(t,out,0)) (d:t9A k c m.2.1 (t,out))
  (ha:doR f a=doR f (v7F m)) (hno:¬ ((m.1=2∨m.1=4)∧y4B f m=true)):w6F s c t f m:=by
 have h:=r.hs
 have he:(h1A c m a).2.2=0:=by rw [e]
 have et:(h1A c m a).1=t:=by rw [e]
 refine ⟨d.gks,fun hk => ?_,fun hk j => ?_,(s3E d.pks _).trans (by rw [hx]; rfl),fun ht hl j u hu => ?_⟩
 ·have:=r5F (a:=a) ho hk
  rw [e] at this
  have:t=c:=Cp (·.1) this
  rw [this]
 ·obtain ⟨q1,q2⟩:=b8G h hx hf he hk
  rw [et] at q2
  rw [q2 j]
  unfold w0F
  rw [Ae hno,←ha,Aj q1]
 ·have hh:=b7G (a:=a) h hf j
  rw [et] at hh
  exact (y9F hh).trans (z7F h hx (z8F h hx he) ht hl hu)
theorem b9G {k:Nat} {s c t:SvT} {m:MsT} {out:List MsT} {f:FlT} {x:ByteArray×RS} (ho:okM m=true) (r:f8A k c) (hx:a5A m.2.2.1 c.2.2=some x) (hf:a5A m.2.1 c.2.1=some f) (e:h8A c m m.1=(t,out,0)) (d:t9A k c m.2.1 (t,out)) (h24:m.1=2∨m.1=4):w6F s c t f m:=by
 have h:=r.hs
 unfold h8A at e
 rw [hf,Option.getD_some] at e
 by_cases hot:y4B f m=true
 ·rw [Aj hot] at e
  have et:(h7A c m).1=t:=Cp (·.1) e
  have ee:(h7A c m).2.2=0:=Cp (·.2.2) e
  obtain ⟨k1,k2,k3,_⟩:=l3B (m:=m) h
  rw [et] at k3
  refine ⟨d.gks,fun _=>k3,fun _ j => ?_,(s3E d.pks _).trans (by rw [hx]; rfl),fun ht hl j u hu => ?_⟩
  ·have ea:w0F f m=f:=by unfold w0F; exact Aj ⟨h24,hot⟩
   rw [k3,ea]
   split
   ·rename_i q; rw [←q,hf]
   ·rfl
  ·rw [←et]
   exact z7F h hx ee ht hl hu
 ·rw [Ae hot] at e
  refine x2F ho r hx hf e d ?_ (fun q=>hot q.2)
  unfold v7F
  rcases h24 with h24 | h24
  ·rw [h24,Ae (by decide),Aj rfl]; exact b3G
  ·rw [h24,Ae (by decide),Ae (by decide),Ae (by decide),Ae (by decide),Aj rfl]; exact b5G
theorem x7F {s:SvT} {m:MsT} {j u:Int} (hu:0≤u):KN (b3A s m) j u↔KN s j u:=by
 unfold b3A KN
 dsimp only
 by_cases h:(a5A m.2.2.1 s.2.2).isSome=true
 ·rw [Aj h]
 ·rw [Ae h]
  have hn:a5A m.2.2.1 s.2.2=none:=by simpa using h
  rw [y1B hn]
  by_cases e:m.2.2.1=j
  ·subst e
   rw [Aj rfl,hn]
   constructor
   ·rintro ⟨x,hx,y,hy,_⟩
    rw [←Bp hx] at hy
    cases hy
   ·rintro ⟨x,hx,_⟩; cases hx
  ·rw [Ae e]
theorem c0G {k:Nat} {s:SvT} {m:MsT} (r:f8A k s) (hk:k<1000000) (hm:szM m) (he:(n9A s m).2.2=0) (ha:v3F m=true) (h0:m.2.2.2.1=0) (h1:m.2.2.1>0) (hc:m7A s m=true) :
  okM m=true∧∃ f,a5A m.2.1 (b3A s m).2.1=some f∧szF f∧w6F s (b3A s m) (n9A s m).1 f m:=by
 obtain ⟨ho,h⟩:=o5D r hk hm he
 have kb:x2A m.1=true:=by
  unfold v3F at ha
  simp only [Db,Ac,Au,Cw] at ha
  unfold x2A
  simp only [Db,Cw]
  omega
 have ht:toB s m=true:=by
  unfold toB
  rw [kb,hc,h0,Ah h1]; rfl
 refine ⟨ho,?_⟩
 rcases h with ⟨q,_⟩ | ⟨_,rd,f,hf,h⟩
 ·rw [ht] at q; cases q
 ·obtain ⟨x,hx⟩:=Dn.1 (w4C (s:=s) (m:=m)).1
  refine ⟨f,hf,rd.run.hs.fz _ (n8A hf),?_⟩
  have rt:=u4F r ho ht
  rcases h with ⟨k1,t,out,a,d,e,_,ea⟩ | ⟨k1,t,out,d,e,ea⟩ | ⟨k1,e⟩ | ⟨k1,e⟩
  ·rw [e]
   have wk:h2A (b3A s m) m=(t,out,0):=by
    have q1:(g4B (h2A (b3A s m) m)).2.2=0:=by rw [←rt,e]
    obtain ⟨_,q2⟩:=s0E q1
    rw [←q2,←rt,e]
   rcases k1 with k1 | k1
   ·have:h2A (b3A s m) m=h1A (b3A s m) m (1,m.2.2.1,0,0,0):=by unfold h2A; rw [k1]; rfl
    rw [this] at wk
    refine x2F ho rd.run hx hf wk d ?_ (fun q=>by omega)
    unfold v7F
    rw [k1,Aj rfl]; exact b2G
   ·have:h2A (b3A s m) m=h1A (b3A s m) m (3,m.2.2.1,w3C m.2.2.2.2.2.2.1,0,0):=by unfold h2A; rw [k1]; rfl
    rw [this] at wk
    refine x2F ho rd.run hx hf wk d ?_ (fun q=>by omega)
    unfold v7F
    rw [k1,Ae (by decide),Ae (by decide),Aj rfl]; exact b4G
  ·rw [e]
   rcases ea with ⟨k12,ea⟩ | ⟨k12,ea⟩
   ·refine x2F ho rd.run hx hf ea d ?_ (fun q=>by omega)
    unfold v7F
    rw [k12,Ae (by decide),Ae (by decide),Ae (by decide),Aj rfl]
   ·exact b9G ho rd.run hx hf ea d (by omega)
  ·unfold v3F at ha
   simp only [Db,Ac,Au,Cw] at ha
   omega
  ·unfold v3F at ha
   simp only [Db,Ac,Au,Cw] at ha
   omega
theorem c1G {k:Nat} {s:SvT} {m:MsT} (r:f8A k s) (hk:k<1000000) (hm:szM m) (he:(n9A s m).2.2=0) (ha:v3F m=false) :
  (n9A s m).1.2.1=s.2.1∧∀ j,(a5A j (n9A s m).1.2.2).map (·.2.2.2)=(a5A j s.2.2).map (·.2.2.2):=by
 obtain ⟨ho,h⟩:=o5D r hk hm he
 unfold v3F at ha
 simp only [Fi,Bool.and_eq_false_iff,Ee,beq_eq_false_iff_ne,ne_eq] at ha
 rcases h with ⟨q,e⟩ | ⟨_,rd,f,hf,h⟩
 ·rw [e]; exact ⟨rfl,fun _=>rfl⟩
 ·rcases h with ⟨k1,t,out,a,d,e,_,ea⟩ | ⟨k1,t,out,d,e,ea⟩ | ⟨k1,e⟩ | ⟨k1,e⟩
  ·exfalso; omega
  ·exfalso; omega
  ·have hc:=s2E rd.cb (show m.1≠1 by omega)
   rw [e,hc.1]
   refine ⟨(r8E (m:=m) r).2.1,fun j => ?_⟩
   show (a5A j (x0A s m).2.2).map _=_
   unfold x0A
   cases hg:a5A m.2.2.1 s.2.2 with
   | none=>rfl
   | some x =>
    dsimp only
    rw [c8B]
    by_cases ej:m.2.2.1=j
    ·subst ej; rw [Aj rfl,hg]; rfl
    ·rw [Ae ej]
  ·have hc:=s2E rd.cb (show m.1≠1 by omega)
   rw [e,hc.1]
   exact ⟨rfl,fun _=>rfl⟩
theorem x3F {A V:Type} {eq:A→Bool} {x:V}:∀ {es:List (Nat×(A×V))},(i9C eq x es).map (·.1)=es.map (·.1)
 | []=>rfl
 | p::es=>by
  unfold i9C
  cases eq p.2.1 with
  | true=>rfl
  | false=>rw [Ai,List.map_cons,List.map_cons,x3F]
theorem x8F {A V:Type} {eq:A→Bool} {x:V}:∀ {es:List (Nat×(A×V))},(i9C eq x es).map (·.2.1)=es.map (·.2.1)
 | []=>rfl
 | p::es=>by
  unfold i9C
  cases eq p.2.1 with
  | true=>rfl
  | false=>rw [Ai,List.map_cons,List.map_cons,x8F]
theorem z9F {A V:Type} {eq:A→Bool} {k:A} {x:V} {ck:Nat} {es:List (Nat×(A×V))} (hb:∀ e∈es,e.1<ck) (hn:(es.map (·.1)).Nodup) :
  (∀ e∈z1B eq k x ck es,e.1<ckE eq ck es)∧((z1B eq k x ck es).map (·.1)).Nodup:=by
 unfold z1B ckE
 cases (l8A eq es).isSome with
 | true =>
  rw [Al,Al,x3F]
  refine ⟨fun e he => ?_,hn⟩
  have hm:e.1∈es.map (·.1):=by rw [←x3F (eq:=eq) (x:=x)]; exact List.mem_map.2 ⟨e,he,rfl⟩
  obtain ⟨e',he',q⟩:=List.mem_map.1 hm
  rw [←q]; exact hb e' he'
 | false =>
  rw [Ai,Ai]
  refine ⟨fun e he => ?_,?_⟩
  ·rcases Ck.1 he with he | he
   ·have:=hb e he; omega
   ·rw [Bo.1 he]; exact Cg _
  ·rw [List.map_append,List.map_singleton]
   refine List.nodup_append.2 ⟨hn,by simp,fun a ha b hb' => ?_⟩
   obtain ⟨e,he,rfl⟩:=List.mem_map.1 ha
   have:=hb e he
   rw [Bo.1 hb']
   show e.1≠ck
   omega
theorem c2G {A V:Type} {eq:A→Bool} {k:A} {x:V} {ck:Nat} {es:List (Nat×(A×V))}:∀ e∈z1B eq k x ck es,(∃ e'∈es,e'.2.1=e.2.1)∨e.2.1=k:=by
 unfold z1B
 cases (l8A eq es).isSome with
 | true =>
  rw [Al]
  intro e he
  have hm:e.2.1∈es.map (·.2.1):=by rw [←x8F (eq:=eq) (x:=x)]; exact List.mem_map.2 ⟨e,he,rfl⟩
  obtain ⟨e',he',q⟩:=List.mem_map.1 hm
  exact .inl ⟨e',he',q⟩
 | false =>
  rw [Ai]
  intro e he
  rcases Ck.1 he with he | he
  ·exact .inl ⟨e,he,rfl⟩
  ·rw [Bo.1 he]; exact .inr rfl
theorem FlI.ins {s t:SvT} {fl:FlE} {ck:Nat} {gid:Int} {f:FlT} (F:FlI s fl ck) (h:∀ j,a5A j t.2.1=if gid=j then some f else a5A j s.2.1)
  (hl:t.2.1.length=if (a5A gid s.2.1).isSome=true then s.2.1.length else s.2.1.length+1):FlI t (z1B (fun b:Int=>gid==b) gid f ck fl) (ckE (fun b:Int=>gid==b) ck fl):=by
 have ib:=z9F (eq:=fun b:Int=>gid==b) (k:=gid) (x:=f) F.fb F.fn
 refine ⟨ib.1,ib.2,?_,fun j => ?_,?_⟩
 ·unfold z1B
  have c:=F.corr gid
  cases hf:l8A (fun b:Int=>gid==b) fl with
  | some y =>
   rw [show (some y).isSome=true from rfl,Al,x8F]
   exact F.kn
  | none =>
   rw [show (none:Option FlT).isSome=false from rfl,Ai,List.map_append,List.map_singleton]
   refine List.nodup_append.2 ⟨F.kn,by simp,fun a ha b hb' => ?_⟩
   rw [Bo.1 hb']
   intro e
   obtain ⟨x,hx,hxe⟩:=List.mem_map.1 ha
   have:=w5F F.kn hx
   rw [hxe,e] at this
   rw [hf] at this; cases this
 ·rw [a3G,h,F.corr]
 ·unfold z1B
  rw [hl,←F.corr gid]
  cases hf:l8A (fun b:Int=>gid==b) fl with
  | some y =>
   rw [show (some y).isSome=true from rfl,Al,Aj rfl]
   have:=Cp List.length (x3F (eq:=fun b:Int=>gid==b) (x:=f) (es:=fl))
   rw [List.length_map,List.length_map] at this
   rw [this,F.len]
  | none =>
   rw [show (none:Option FlT).isSome=false from rfl,Ai,Ae (by decide),Ak,By,F.len]
theorem FlI.same {s t:SvT} {fl:FlE} {ck:Nat} (F:FlI s fl ck) (h:t.2.1=s.2.1):FlI t fl ck:=⟨F.fb,F.fn,F.kn,fun j=>by rw [h]; exact F.corr j,by rw [h]; exact F.len⟩
theorem a0G {s:SvT} {x:Int} (hl:s.2.2.length≤1000):v8F s x=some (a5A x s.2.2).isSome:=by
 have:=u1C (f:=w8F) s.2.2 (fun p:PeT=>p.1==x) (fun i=>(x,s.2.2,(s.2.2.length:Int),(i:Int),())) (fun _=>.inr (true,())) (.inl ()) (by
  intro i a hi
  have:=g1A hi
  have ws:IntKind.i64.wrap ((i:Int)+1)=((i+1:Nat):Int):=by rw [b8A (by omega) (by omega)]; rfl
  simp (disch:=omega) only [w8F,dT,wT,Ao,gD hi,ws]
  cases (a.1==x) <;> rfl) (by simp (disch:=omega) only [w8F,dF])
 unfold v8F
 refine (Cp (fun z=>Option.bind z _) this).trans ?_
 rw [Aa]
 by_cases h:s.2.2.findIdx (fun p:PeT=>p.1==x)<s.2.2.length
 ·rw [Aj h]
  cases hg:a5A x s.2.2 with
  | some v=>rfl
  | none =>
   have h1:=List.findIdx_getElem (p:=fun p:PeT=>p.1==x) (xs:=s.2.2) (w:=h)
   exact absurd (Cw.1 h1) (g1B.1 hg _ (List.getElem_mem h))
 ·rw [Ae h]
  cases hg:a5A x s.2.2 with
  | some v=>exact absurd (List.findIdx_lt_length_of_exists ⟨_,n8A hg,by simp⟩) h
  | none=>rfl
theorem HrI.ins {s t:SvT} {hd:HdE} {ck2:Nat} {j0 t0:Int} (H:HrI s hd) (h0:t0≤15) (h:∀ j u,0≤u→(KN t j u↔KN s j u∨(j=j0∧u=t0))):HrI t (z1B (fun b:List Int=>[j0,t0]==b) [j0,t0] true ck2 hd):=by
 refine ⟨fun e he => ?_,fun j u hu => ?_⟩
 ·rcases c2G e he with ⟨e',he',q⟩ | q
  ·rw [←q]; exact H.small e' he'
  ·rw [q]; exact h0
 ·unfold hdB
  rw [y2F,h j u hu]
  by_cases e:[j0,t0]=[j,u]
  ·rw [Aj e]
   simp only [List.cons.injEq,and_true] at e
   exact ⟨fun _=>.inr ⟨e.1.symm,e.2.symm⟩,fun _=>rfl⟩
  ·rw [Ae e]
   rw [show ((l8A (fun b:List Int=>[j,u]==b) hd).getD false=true↔KN s j u) from H.heard j u hu]
   refine ⟨fun z=>.inl z,fun z => ?_⟩
   rcases z with z | ⟨rfl,rfl⟩
   ·exact z
   ·exact absurd rfl e
theorem c3G {hd:HdE} {ck2:Nat} {j0 t0:Int} (h0:15<t0):∃ e∈z1B (fun b:List Int=>[j0,t0]==b) [j0,t0] true ck2 hd,15<e.2.1.getD 1 0:=by
 have:hdB (z1B (fun b:List Int=>[j0,t0]==b) [j0,t0] true ck2 hd) j0 t0=true:=by
  unfold hdB
  rw [y2F,Aj rfl]; rfl
 obtain ⟨e,he,q⟩:=x6F this
 exact ⟨e,he,by rw [q]; exact h0⟩
theorem x4F {k i:Nat} {e:Int} {s t u:SvT} {l:List MsT} {fl:FlE} {ck:Nat} {hd:HdE} {ck2:Nat} (hl:i<1000) (hu:u=if e=0 then t else s) (r:f8A k u) (F:FlI u fl ck) (hb:∀ e∈hd,e.1<ck2) (hn:(hd.map (·.1)).Nodup)
  (hh:(∃ e∈hd,15<e.2.1.getD 1 0)∨HrI u hd) :
  (((some (Sum.inl (true,e,l,(l.length:Int),(i:Int),(fl,ck),(hd,ck2),s,t,())):Option ((Bool×Int×(List Yz1)×Int×Int×(List (Nat×Yz2)×Nat)×Yz4×Yz0×Yz0×Unit)⊕(Bool×Unit))).bind fun j27 =>
 (match j27 with
 | .inl j28 =>
 ((bif (j28.2.1==0) then
 some (j28.1,j28.2.2.1,j28.2.2.2.1,j28.2.2.2.2.1,(j28.2.2.2.2.2.1.1,j28.2.2.2.2.2.1.2),(j28.2.2.2.2.2.2.1.1,j28.2.2.2.2.2.2.1.2),j28.2.2.2.2.2.2.2.2.1,())
 else
 some (j28.1,j28.2.2.1,j28.2.2.2.1,j28.2.2.2.2.1,(j28.2.2.2.2.2.1.1,j28.2.2.2.2.2.1.2),(j28.2.2.2.2.2.2.1.1,j28.2.2.2.2.2.2.1.2),j28.2.2.2.2.2.2.2.1,()):Option ((Bool×(List Yz1)×Int×Int×(List (Nat×Yz2)×Nat)×Yz4×Yz0×Unit))).bind fun j30 =>
 ((b0D (fun (p31:Yz4×(Nat×List Nat×Nat)×Unit)=>x9A p31.1.1 p31.2.1.1 p31.2.1.2.1 p31.2.1.2.2) (v2F) ((j30.2.2.2.2.2.1.1,j30.2.2.2.2.2.1.2),(j30.2.2.2.2.2.1.2,[],j30.2.2.2.2.2.1.2),())).bind fun j34 =>
 (match j34 with
 | .inl j35 =>
 (some (j30.1,j30.2.1,j30.2.2.1,j30.2.2.2.1,false,(j30.2.2.2.2.1.1,j30.2.2.2.2.1.2),(j35.1.1,j35.1.2),j30.2.2.2.2.2.2.1,()))
 | .inr j36 =>
 (some (j30.1,j30.2.1,j30.2.2.1,j30.2.2.2.1,j36.1,(j30.2.2.2.2.1.1,j30.2.2.2.2.1.2),(j36.2.1.1,j36.2.1.2),j30.2.2.2.2.2.2.1,()))):Option ((Bool×(List Yz1)×Int×Int×Bool×(List (Nat×Yz2)×Nat)×Yz4×Yz0×Unit))).bind fun j37 =>
 bif j37.2.2.2.2.1 then
 some (Sum.inr (Sum.inr (j37.1,())))
 else
 (b0D (fun (p38:Bool×(List Yz1)×Int×Int×(List (Nat×Yz2)×Nat)×Yz4×Yz0×(Nat×List Nat×Nat)×Unit)=>x9A p38.2.2.2.2.1.1 p38.2.2.2.2.2.2.2.1.1 p38.2.2.2.2.2.2.2.1.2.1 p38.2.2.2.2.2.2.2.1.2.2) (v4F) (j37.1,j37.2.1,j37.2.2.1,j37.2.2.2.1,(j37.2.2.2.2.2.1.1,j37.2.2.2.2.2.1.2),(j37.2.2.2.2.2.2.1.1,j37.2.2.2.2.2.2.1.2),j37.2.2.2.2.2.2.2.1,(j37.2.2.2.2.2.1.2,[],j37.2.2.2.2.2.1.2),())).bind fun j44 =>
 (match j44 with
 | .inl j45 =>
 (some (Sum.inl (j45.1,j45.2.1,j45.2.2.1,(IntKind.i64.wrap (j45.2.2.2.1+1)),(j45.2.2.2.2.1.1,j45.2.2.2.2.1.2),(j45.2.2.2.2.2.1.1,j45.2.2.2.2.2.1.2),j45.2.2.2.2.2.2.1,())))
 | .inr j46 =>
 (some (Sum.inr (Sum.inr (j46.1,()))))))
 | .inr j29 =>
 (some (Sum.inr (Sum.inr (j29.1,()))))):Option ((Bool×List MsT×Int×Int×(FlE×Nat)×(HdE×Nat)×SvT×Unit)⊕((Bool×(FlE×Nat)×SvT×Unit)⊕(Bool×Unit))))=some (.inl (true,l,(l.length:Int),((i+1:Nat):Int),(fl,ck),(hd,ck2),u,()))∧HrI u hd) ∨
  ((some (Sum.inl (true,e,l,(l.length:Int),(i:Int),(fl,ck),(hd,ck2),s,t,())):Option ((Bool×Int×(List Yz1)×Int×Int×(List (Nat×Yz2)×Nat)×Yz4×Yz0×Yz0×Unit)⊕(Bool×Unit))).bind fun j27 =>
 (match j27 with
 | .inl j28 =>
 ((bif (j28.2.1==0) then
 some (j28.1,j28.2.2.1,j28.2.2.2.1,j28.2.2.2.2.1,(j28.2.2.2.2.2.1.1,j28.2.2.2.2.2.1.2),(j28.2.2.2.2.2.2.1.1,j28.2.2.2.2.2.2.1.2),j28.2.2.2.2.2.2.2.2.1,())
 else
 some (j28.1,j28.2.2.1,j28.2.2.2.1,j28.2.2.2.2.1,(j28.2.2.2.2.2.1.1,j28.2.2.2.2.2.1.2),(j28.2.2.2.2.2.2.1.1,j28.2.2.2.2.2.2.1.2),j28.2.2.2.2.2.2.2.1,()):Option ((Bool×(List Yz1)×Int×Int×(List (Nat×Yz2)×Nat)×Yz4×Yz0×Unit))).bind fun j30 =>
 ((b0D (fun (p31:Yz4×(Nat×List Nat×Nat)×Unit)=>x9A p31.1.1 p31.2.1.1 p31.2.1.2.1 p31.2.1.2.2) (v2F) ((j30.2.2.2.2.2.1.1,j30.2.2.2.2.2.1.2),(j30.2.2.2.2.2.1.2,[],j30.2.2.2.2.2.1.2),())).bind fun j34 =>
 (match j34 with
 | .inl j35 =>
 (some (j30.1,j30.2.1,j30.2.2.1,j30.2.2.2.1,false,(j30.2.2.2.2.1.1,j30.2.2.2.2.1.2),(j35.1.1,j35.1.2),j30.2.2.2.2.2.2.1,()))
 | .inr j36 =>
 (some (j30.1,j30.2.1,j30.2.2.1,j30.2.2.2.1,j36.1,(j30.2.2.2.2.1.1,j30.2.2.2.2.1.2),(j36.2.1.1,j36.2.1.2),j30.2.2.2.2.2.2.1,()))):Option ((Bool×(List Yz1)×Int×Int×Bool×(List (Nat×Yz2)×Nat)×Yz4×Yz0×Unit))).bind fun j37 =>
 bif j37.2.2.2.2.1 then
 some (Sum.inr (Sum.inr (j37.1,())))
 else
 (b0D (fun (p38:Bool×(List Yz1)×Int×Int×(List (Nat×Yz2)×Nat)×Yz4×Yz0×(Nat×List Nat×Nat)×Unit)=>x9A p38.2.2.2.2.1.1 p38.2.2.2.2.2.2.2.1.1 p38.2.2.2.2.2.2.2.1.2.1 p38.2.2.2.2.2.2.2.1.2.2) (v4F) (j37.1,j37.2.1,j37.2.2.1,j37.2.2.2.1,(j37.2.2.2.2.2.1.1,j37.2.2.2.2.2.1.2),(j37.2.2.2.2.2.2.1.1,j37.2.2.2.2.2.2.1.2),j37.2.2.2.2.2.2.2.1,(j37.2.2.2.2.2.1.2,[],j37.2.2.2.2.2.1.2),())).bind fun j44 =>
 (match j44 with
 | .inl j45 =>
 (some (Sum.inl (j45.1,j45.2.1,j45.2.2.1,(IntKind.i64.wrap (j45.2.2.2.1+1)),(j45.2.2.2.2.1.1,j45.2.2.2.2.1.2),(j45.2.2.2.2.2.1.1,j45.2.2.2.2.2.1.2),j45.2.2.2.2.2.2.1,())))
 | .inr j46 =>
 (some (Sum.inr (Sum.inr (j46.1,()))))))
 | .inr j29 =>
 (some (Sum.inr (Sum.inr (j29.1,()))))):Option ((Bool×List MsT×Int×Int×(FlE×Nat)×(HdE×Nat)×SvT×Unit)⊕((Bool×(FlE×Nat)×SvT×Unit)⊕(Bool×Unit))))=some (.inr (.inr (true,()))):=by
 have ws:IntKind.i64.wrap ((i:Int)+1)=((i+1:Nat):Int):=by rw [b8A (by omega) (by omega)]; rfl
 have pick:(bif (e==0) then
 some (true,l,(l.length:Int),(i:Int),(fl,ck),(hd,ck2),t,())
 else
 some (true,l,(l.length:Int),(i:Int),(fl,ck),(hd,ck2),s,()):Option (Bool×List MsT×Int×Int×(FlE×Nat)×(HdE×Nat)×SvT×Unit))=some (true,l,(l.length:Int),(i:Int),(fl,ck),(hd,ck2),u,()):=by
  by_cases h:e=0
  ·rw [eT h,hu,Aj h]
  ·rw [eF h,hu,Ae h]
 rw [Aa]
 dsimp only
 rw [pick,Aa]
 dsimp only
 rcases hh with hh | hh
 ·right
  rw [a9G hb hn hh,Aa]
  dsimp only
  rw [Aa]
  dsimp only
  rw [Al]
 ·left
  refine ⟨?_,hh⟩
  rw [a8G hb hn hh.small,Aa]
  dsimp only
  rw [Aa]
  dsimp only
  rw [Ai,b0G r F,Aa]
  dsimp only
  rw [ws]
abbrev ArY:=Bool×List MsT×Int×Int×(FlE×Nat)×(HdE×Nat)×SvT×Unit
abbrev ArZ:=ArY⊕((Bool×(FlE×Nat)×SvT×Unit)⊕(Bool×Unit))
def c4G (k i:Nat) (l:List MsT) (y:ArY):Prop:=∃ u fl ck hd ck2,y=(true,l,(l.length:Int),((i+1:Nat):Int),(fl,ck),(hd,ck2),u,())∧f8A k u∧FlI u fl ck∧(∀ e∈hd,e.1<ck2)∧(hd.map (·.1)).Nodup∧HrI u hd
def w1F (k i:Nat) (l:List MsT) (z:ArZ):Prop:=(∃ y,z=.inl y∧c4G k i l y)∨z=.inr (.inr (true,()))
theorem a1G {R:Type} (p q r:Bool) (X:Bool→Option R):(bif p then bif q then X true else X r else X r)=X (p&&q||r):=by cases p <;> cases q <;> rfl
theorem x5F {k i:Nat} {u:SvT} {l:List MsT} {fl:FlE} {ck:Nat} {hd:HdE} {ck2:Nat} {T:Option ArZ} (r:f8A k u) (F:FlI u fl ck) (hb:∀ e∈hd,e.1<ck2) (hn:(hd.map (·.1)).Nodup)
  (h:(T=some (.inl (true,l,(l.length:Int),((i+1:Nat):Int),(fl,ck),(hd,ck2),u,()))∧HrI u hd)∨T=some (.inr (.inr (true,())))):∃ z,T=some z∧w1F k i l z:=by
 rcases h with ⟨h,h2⟩ | h
 ·exact ⟨_,h,.inl ⟨_,rfl,u,fl,ck,hd,ck2,rfl,r,F,hb,hn,h2⟩⟩
 ·exact ⟨_,h,.inr rfl⟩
theorem x9F {k i:Nat} {e:Int} {s t u:SvT} {l:List MsT} {m:MsT} {fl:FlE} {ck:Nat} {hd:HdE} {ck2:Nat} (hl:i<1000) (ha:v3F m=false) (hu:u=if e=0 then t else s) (r:f8A k u) (F:FlI u fl ck) (hb:∀ e∈hd,e.1<ck2) (hn:(hd.map (·.1)).Nodup) (H:HrI u hd) :
  ∃ z,((some (Sum.inl (true,e,l,(l.length:Int),(i:Int),(fl,ck),(hd,ck2),s,m,t,())):Option ((Bool×Int×(List Yz1)×Int×Int×(List (Nat×Yz2)×Nat)×Yz4×Yz0×Yz1×Yz0×Unit)⊕(Bool×Unit))).bind fun j14 =>
 Zt j14:Option ((Bool×List MsT×Int×Int×(FlE×Nat)×(HdE×Nat)×SvT×Unit)⊕((Bool×(FlE×Nat)×SvT×Unit)⊕(Bool×Unit))))=some z∧w1F k i l z:=by
 have st:=a1G (decide (m.1≥1)) (decide (m.1≤4)) (m.1==12) (fun b=>(some (true,e,b,l,(l.length:Int),(i:Int),(fl,ck),(hd,ck2),s,m,t,()):Option (Bool×Int×Bool×List MsT×Int×Int×(FlE×Nat)×(HdE×Nat)×SvT×MsT×SvT×Unit)))
 rw [show (decide (m.1≥1)&&decide (m.1≤4)||(m.1==12))=false from ha] at st
 have tl:=x5F r F hb hn (x4F (e:=e) (s:=s) (t:=t) (l:=l) hl hu r F hb hn (.inr H))
 rw [Aa]
 unfold Zt
 dsimp only
 rw [st,Aa]
 dsimp only
 by_cases h:e=0
 ·rw [nF h,Aa]
  dsimp only
  rw [Ai,eT h,Ai,Aa]
  dsimp only
  rw [Ai,Ai]
  exact tl
 ·rw [nT h,Ai,Aa]
  dsimp only
  rw [Ai,eF h,Aa]
  dsimp only
  rw [Ai,Ai]
  exact tl
theorem c5G {R:Type} (a b c d e:Bool) (X:Bool→Option R):(bif a then bif b then bif c then bif d then X e else X false else X false else X false else X false)=X (a&&b&&c&&d&&e):=by
 cases a <;> cases b <;> cases c <;> cases d <;> rfl
theorem a2G {k i:Nat} {s t:SvT} {l:List MsT} {m:MsT} {fl1:FlE} {ck1:Nat} {hd:HdE} {ck2:Nat} {e:Int} {f:FlT} (hl:i<1000) (h:e=0) (r:f8A (k+1) t) (ho:okM m=true) (hf:a5A m.2.1 (b3A s m).2.1=some f) (hz:szF f) (A:w6F s (b3A s m) t f m)
  (F:FlI (b3A s m) fl1 ck1) (hb:∀ e∈hd,e.1<ck2) (hn:(hd.map (·.1)).Nodup) (H:HrI s hd) :
  ∃ z,(((some (true,e,l,(l.length:Int),(i:Int),(fl1,ck1),(hd,ck2),s,m,t,()):Option ((Bool×Int×(List Yz1)×Int×Int×(List (Nat×Yz2)×Nat)×Yz4×Yz0×Yz1×Yz0×Unit))).bind fun j22 =>
 (bif (l8A (fun b:Int=>j22.2.2.2.2.2.2.2.2.1.2.1==b) j22.2.2.2.2.2.1.1).isSome then
 (v8F j22.2.2.2.2.2.2.2.2.2.1 j22.2.2.2.2.2.2.2.2.1.2.2.1).bind fun y23 =>
 some (j22.1,j22.2.1,j22.2.2.1,j22.2.2.2.1,j22.2.2.2.2.1,y23,(j22.2.2.2.2.2.1.1,j22.2.2.2.2.2.1.2),(j22.2.2.2.2.2.2.1.1,j22.2.2.2.2.2.2.1.2),j22.2.2.2.2.2.2.2.1,j22.2.2.2.2.2.2.2.2.1,j22.2.2.2.2.2.2.2.2.2.1,((l8A (fun b:Int=>j22.2.2.2.2.2.2.2.2.1.2.1==b) j22.2.2.2.2.2.1.1).getD (0,(0,(0,(0,(0,(0,(0,([],[]))))))))),())
 else
 some (j22.1,j22.2.1,j22.2.2.1,j22.2.2.2.1,j22.2.2.2.2.1,false,(j22.2.2.2.2.2.1.1,j22.2.2.2.2.2.1.2),(j22.2.2.2.2.2.2.1.1,j22.2.2.2.2.2.2.1.2),j22.2.2.2.2.2.2.2.1,j22.2.2.2.2.2.2.2.2.1,j22.2.2.2.2.2.2.2.2.2.1,((l8A (fun b:Int=>j22.2.2.2.2.2.2.2.2.1.2.1==b) j22.2.2.2.2.2.1.1).getD (0,(0,(0,(0,(0,(0,(0,([],[]))))))))),()):Option ((Bool×Int×(List Yz1)×Int×Int×Bool×(List (Nat×Yz2)×Nat)×Yz4×Yz0×Yz1×Yz0×Yz3×Unit))).bind fun j24 =>
 bif j24.2.2.2.2.2.1 then
 (bif (!((l8A (fun b:List Int=>[j24.2.2.2.2.2.2.2.2.2.1.2.2.1,j24.2.2.2.2.2.2.2.2.2.1.2.2.2.2.1]==b) j24.2.2.2.2.2.2.2.1.1).getD false)) then
 (v9F j24.2.2.2.2.2.2.2.2.2.2.2.1 j24.2.2.2.2.2.2.2.2.2.1).bind fun y25 =>
 some (j24.1,j24.2.1,j24.2.2.1,j24.2.2.2.1,j24.2.2.2.2.1,((z1B (fun b:Int=>j24.2.2.2.2.2.2.2.2.2.1.2.1==b) j24.2.2.2.2.2.2.2.2.2.1.2.1 y25 j24.2.2.2.2.2.2.1.2 j24.2.2.2.2.2.2.1.1),(ckE (fun b:Int=>j24.2.2.2.2.2.2.2.2.2.1.2.1==b) j24.2.2.2.2.2.2.1.2 j24.2.2.2.2.2.2.1.1)),(j24.2.2.2.2.2.2.2.1.1,j24.2.2.2.2.2.2.2.1.2),j24.2.2.2.2.2.2.2.2.1,j24.2.2.2.2.2.2.2.2.2.1,j24.2.2.2.2.2.2.2.2.2.2.1,())
 else
 some (j24.1,j24.2.1,j24.2.2.1,j24.2.2.2.1,j24.2.2.2.2.1,(j24.2.2.2.2.2.2.1.1,j24.2.2.2.2.2.2.1.2),(j24.2.2.2.2.2.2.2.1.1,j24.2.2.2.2.2.2.2.1.2),j24.2.2.2.2.2.2.2.2.1,j24.2.2.2.2.2.2.2.2.2.1,j24.2.2.2.2.2.2.2.2.2.2.1,()):Option ((Bool×Int×(List Yz1)×Int×Int×(List (Nat×Yz2)×Nat)×Yz4×Yz0×Yz1×Yz0×Unit))).bind fun j26 =>
 some (Sum.inl (j26.1,j26.2.1,j26.2.2.1,j26.2.2.2.1,j26.2.2.2.2.1,(j26.2.2.2.2.2.1.1,j26.2.2.2.2.2.1.2),((z1B (fun b:List Int=>[j26.2.2.2.2.2.2.2.2.1.2.2.1,j26.2.2.2.2.2.2.2.2.1.2.2.2.2.1]==b) [j26.2.2.2.2.2.2.2.2.1.2.2.1,j26.2.2.2.2.2.2.2.2.1.2.2.2.2.1] true j26.2.2.2.2.2.2.1.2 j26.2.2.2.2.2.2.1.1),(ckE (fun b:List Int=>[j26.2.2.2.2.2.2.2.2.1.2.2.1,j26.2.2.2.2.2.2.2.2.1.2.2.2.2.1]==b) j26.2.2.2.2.2.2.1.2 j26.2.2.2.2.2.2.1.1)),j26.2.2.2.2.2.2.2.1,j26.2.2.2.2.2.2.2.2.2.1,()))
 else
 some (Sum.inl (j24.1,j24.2.1,j24.2.2.1,j24.2.2.2.1,j24.2.2.2.2.1,(j24.2.2.2.2.2.2.1.1,j24.2.2.2.2.2.2.1.2),(j24.2.2.2.2.2.2.2.1.1,j24.2.2.2.2.2.2.2.1.2),j24.2.2.2.2.2.2.2.2.1,j24.2.2.2.2.2.2.2.2.2.2.1,())):Option ((Bool×Int×(List Yz1)×Int×Int×(List (Nat×Yz2)×Nat)×Yz4×Yz0×Yz0×Unit)⊕(Bool×Unit))).bind fun j27 =>
 (match j27 with
 | .inl j28 =>
 ((bif (j28.2.1==0) then
 some (j28.1,j28.2.2.1,j28.2.2.2.1,j28.2.2.2.2.1,(j28.2.2.2.2.2.1.1,j28.2.2.2.2.2.1.2),(j28.2.2.2.2.2.2.1.1,j28.2.2.2.2.2.2.1.2),j28.2.2.2.2.2.2.2.2.1,())
 else
 some (j28.1,j28.2.2.1,j28.2.2.2.1,j28.2.2.2.2.1,(j28.2.2.2.2.2.1.1,j28.2.2.2.2.2.1.2),(j28.2.2.2.2.2.2.1.1,j28.2.2.2.2.2.2.1.2),j28.2.2.2.2.2.2.2.1,()):Option ((Bool×(List Yz1)×Int×Int×(List (Nat×Yz2)×Nat)×Yz4×Yz0×Unit))).bind fun j30 =>
 ((b0D (fun (p31:Yz4×(Nat×List Nat×Nat)×Unit)=>x9A p31.1.1 p31.2.1.1 p31.2.1.2.1 p31.2.1.2.2) (v2F) ((j30.2.2.2.2.2.1.1,j30.2.2.2.2.2.1.2),(j30.2.2.2.2.2.1.2,[],j30.2.2.2.2.2.1.2),())).bind fun j34 =>
 (match j34 with
 | .inl j35 =>
 (some (j30.1,j30.2.1,j30.2.2.1,j30.2.2.2.1,false,(j30.2.2.2.2.1.1,j30.2.2.2.2.1.2),(j35.1.1,j35.1.2),j30.2.2.2.2.2.2.1,()))
 | .inr j36 =>
 (some (j30.1,j30.2.1,j30.2.2.1,j30.2.2.2.1,j36.1,(j30.2.2.2.2.1.1,j30.2.2.2.2.1.2),(j36.2.1.1,j36.2.1.2),j30.2.2.2.2.2.2.1,()))):Option ((Bool×(List Yz1)×Int×Int×Bool×(List (Nat×Yz2)×Nat)×Yz4×Yz0×Unit))).bind fun j37 =>
 bif j37.2.2.2.2.1 then
 some (Sum.inr (Sum.inr (j37.1,())))
 else
 (b0D (fun (p38:Bool×(List Yz1)×Int×Int×(List (Nat×Yz2)×Nat)×Yz4×Yz0×(Nat×List Nat×Nat)×Unit)=>x9A p38.2.2.2.2.1.1 p38.2.2.2.2.2.2.2.1.1 p38.2.2.2.2.2.2.2.1.2.1 p38.2.2.2.2.2.2.2.1.2.2) (v4F) (j37.1,j37.2.1,j37.2.2.1,j37.2.2.2.1,(j37.2.2.2.2.2.1.1,j37.2.2.2.2.2.1.2),(j37.2.2.2.2.2.2.1.1,j37.2.2.2.2.2.2.1.2),j37.2.2.2.2.2.2.2.1,(j37.2.2.2.2.2.1.2,[],j37.2.2.2.2.2.1.2),())).bind fun j44 =>
 (match j44 with
 | .inl j45 =>
 (some (Sum.inl (j45.1,j45.2.1,j45.2.2.1,(IntKind.i64.wrap (j45.2.2.2.1+1)),(j45.2.2.2.2.1.1,j45.2.2.2.2.1.2),(j45.2.2.2.2.2.1.1,j45.2.2.2.2.2.1.2),j45.2.2.2.2.2.2.1,())))
 | .inr j46 =>
 (some (Sum.inr (Sum.inr (j46.1,()))))))
 | .inr j29 =>
 (some (Sum.inr (Sum.inr (j29.1,()))))):Option ((Bool×List MsT×Int×Int×(FlE×Nat)×(HdE×Nat)×SvT×Unit)⊕((Bool×(FlE×Nat)×SvT×Unit)⊕(Bool×Unit))))=some z∧w1F (k+1) i l z:=by
 have tid:=u0F ho
 have ib:=z9F (eq:=fun b:List Int=>[m.2.2.1,m.2.2.2.2.1]==b) (k:=[m.2.2.1,m.2.2.2.2.1]) (x:=true) hb hn
 have hr:(∃ e∈z1B (fun b:List Int=>[m.2.2.1,m.2.2.2.2.1]==b) [m.2.2.1,m.2.2.2.2.1] true ck2 hd,15<e.2.1.getD 1 0)∨HrI t (z1B (fun b:List Int=>[m.2.2.1,m.2.2.2.2.1]==b) [m.2.2.1,m.2.2.2.2.1] true ck2 hd):=by
  by_cases ht:m.2.2.2.2.1≤15
  ·right
   refine H.ins ht fun j u hu => ?_
   refine (A.hea ht (fun u hu => ?_) j u hu).trans ?_
   ·by_cases hu0:0≤u
    ·exact H.le ((x7F hu0).1 hu)
    ·omega
   ·rw [x7F hu]
  ·exact .inl (c3G (by omega))
 have kn:p0F (b3A s m) m↔hdB hd m.2.2.1 m.2.2.2.2.1=true:=(x7F tid.1).trans (H.heard _ _ tid.1).symm
 have gl:t.2.1.length=(b3A s m).2.1.length:=x1C A.keys
 have fd:l8A (fun b:Int=>m.2.1==b) fl1=some f:=by rw [F.corr]; exact hf
 rw [Aa]
 dsimp only
 rw [fd,show (some f).isSome=true from rfl,Al,a0G r.hs.P,Aa,A.per,Aa]
 dsimp only
 rw [Al,show (some f).getD (0,(0,(0,(0,(0,(0,(0,([],[]))))))))=f from rfl]
 cases hh:hdB hd m.2.2.1 m.2.2.2.2.1 with
 | false =>
  have nk:¬ p0F (b3A s m) m:=fun q=>by rw [kn.1 q] at hh; cases hh
  rw [show ((l8A (fun b:List Int=>[m.2.2.1,m.2.2.2.2.1]==b) hd).getD false)=false from hh,Cr,Al,b1G hz,Aa,Aa]
  dsimp only
  have F2:FlI t _ _:=F.ins (t:=t) (gid:=m.2.1) (f:=w0F f m) (A.flo2 nk) (by rw [hf,gl]; rfl)
  exact x5F r F2 ib.1 ib.2 (x4F (e:=e) (s:=s) (t:=t) (l:=l) hl (by rw [Aj h]) r F2 ib.1 ib.2 hr)
 | true =>
  have F2:FlI t fl1 ck1:=F.same (A.flo1 (kn.2 hh))
  rw [show ((l8A (fun b:List Int=>[m.2.2.1,m.2.2.2.2.1]==b) hd).getD false)=true from hh,Cc,Ai,Aa]
  dsimp only
  exact x5F r F2 ib.1 ib.2 (x4F (e:=e) (s:=s) (t:=t) (l:=l) hl (by rw [Aj h]) r F2 ib.1 ib.2 hr)
set_option maxHeartbeats 2000000 in
theorem c6G {k i:Nat} {s:SvT} {l:List MsT} {m:MsT} {fl:FlE} {ck:Nat} {hd:HdE} {ck2:Nat} (hl:i<1000) (ha:v3F m=true) (hm:szM m) (r:f8A k s) (hk:k<1000000) (F:FlI s fl ck) (hb:∀ e∈hd,e.1<ck2) (hn:(hd.map (·.1)).Nodup) (H:HrI s hd) {t:SvT} {e:Int} (et:t=(n9A s m).1) (ee:e=(n9A s m).2.2) :
    ∃ z,((some (Sum.inl (true,e,l,(l.length:Int),(i:Int),(fl,ck),(hd,ck2),s,m,t,())):Option ((Bool×Int×(List Yz1)×Int×Int×(List (Nat×Yz2)×Nat)×Yz4×Yz0×Yz1×Yz0×Unit)⊕(Bool×Unit))).bind fun j14 =>
 Zt j14:Option ((Bool×List MsT×Int×Int×(FlE×Nat)×(HdE×Nat)×SvT×Unit)⊕((Bool×(FlE×Nat)×SvT×Unit)⊕(Bool×Unit))))=some z∧w1F (k+1) i l z:=by
  have st:=a1G (decide (m.1≥1)) (decide (m.1≤4)) (m.1==12) (fun b=>(some (true,e,b,l,(l.length:Int),(i:Int),(fl,ck),(hd,ck2),s,m,t,()):Option (Bool×Int×Bool×List MsT×Int×Int×(FlE×Nat)×(HdE×Nat)×SvT×MsT×SvT×Unit)))
  rw [show (decide (m.1≥1)&&decide (m.1≤4)||(m.1==12))=true from ha] at st
  have out:∀ z:ArZ,z=.inr (.inr (true,()))→∃ z',(some z:Option ArZ)=some z'∧w1F (k+1) i l z':=fun z hz=>⟨z,rfl,.inr hz⟩
  rw [Aa]
  unfold Zt
  dsimp only
  rw [st,Aa]
  dsimp only
  by_cases h:¬ e=0
  · rw [nT h,Al,l8F hm.1,Aa,Aa]
    dsimp only
    cases okM m with
    | true =>
      rw [show (err true==0)=true from rfl,Al]
      exact out _ rfl
    | false =>
      rw [show (err false==0)=false from rfl,Ai,eF h,Aa]
      dsimp only
      rw [Ai,Al,Aa]
      exact out _ rfl
  have h:=Decidable.of_not_not h
  have he:(n9A s m).2.2=0:=by rw [←ee]; exact h
  have q:=o7D r hk hm he
  rw [←et] at q
  rw [nF h,Aa]
  dsimp only
  rw [Ai]
  have g:=c5G (e==0) true (m.2.2.2.1==0) (decide (m.2.2.1>0)) (decide ((t.2.2.length:Int)≤15)&&decide ((t.2.1.length:Int)≤3)) (fun b=>(some (true,e,true,l,(l.length:Int),(i:Int),b,(fl,ck),(hd,ck2),s,m,t,()):Option (Bool×Int×Bool×List MsT×Int×Int×Bool×(FlE×Nat)×(HdE×Nat)×SvT×MsT×SvT×Unit)))
  have g2:(bif decide ((t.2.2.length:Int)≤15) then some (true,e,true,l,(l.length:Int),(i:Int),decide ((t.2.1.length:Int)≤3),(fl,ck),(hd,ck2),s,m,t,()) else some (true,e,true,l,(l.length:Int),(i:Int),false,(fl,ck),(hd,ck2),s,m,t,()):Option (Bool×Int×Bool×List MsT×Int×Int×Bool×(FlE×Nat)×(HdE×Nat)×SvT×MsT×SvT×Unit)) =
      some (true,e,true,l,(l.length:Int),(i:Int),decide ((t.2.2.length:Int)≤15)&&decide ((t.2.1.length:Int)≤3),(fl,ck),(hd,ck2),s,m,t,()):=by cases decide ((t.2.2.length:Int)≤15) <;> rfl
  rw [g2,g,Aa]
  dsimp only
  cases hg:((e==0)&&true&&(m.2.2.2.1==0)&&decide (m.2.2.1>0)&&(decide ((t.2.2.length:Int)≤15)&&decide ((t.2.1.length:Int)≤3))) with
  | false =>
    rw [Ai,Al,Aa]
    exact out _ rfl
  | true =>
  rw [Al]
  simp only [Ac,Cw,Au,and_true] at hg
  obtain ⟨⟨⟨_,h0⟩,h1⟩,hP,hG⟩:=hg
  have now:t.1=s.1:=q.now
  have nocome:m7A s m=false→(n9A s m).1=s:=by
    intro hc
    have:toB s m=false:=by unfold toB; rw [hc,Bw]
    unfold n9A at he ⊢
    by_cases q:(p6A s&&okM m)=true
    · rw [Aj q,Ae (by rw [this]; decide)]
    · rw [Ae q] at he
      exact absurd he (by decide)
  have quiet:m7A s m=false→∃ z,_=some z∧w1F (k+1) i l z:=fun hc=>by
    have ts:t=s:=et.trans (nocome hc)
    have r2:f8A (k+1) t:=q.run
    have F2:FlI t fl ck:=F.same (by rw [ts])
    have H2:HrI t hd:=by rw [ts]; exact H
    exact x5F r2 F2 hb hn (x4F (e:=e) (s:=s) (t:=t) (l:=l) hl (by rw [Aj h]) r2 F2 hb hn (.inr H2))
  have come:m7A s m=true→okM m=true∧∃ f,a5A m.2.1 (b3A s m).2.1=some f∧szF f∧w6F s (b3A s m) t f m:=fun hc=>by
    rw [et]
    exact c0G r hk hm he ha h0 h1 hc
  -- whether the group is there
  cases hgs:(a5A m.2.1 s.2.1).isSome with
  | false =>
    rw [F.corr,hgs,Cr,Al,Aa]
    dsimp only
    by_cases k1:m.1=1
    · have hc:m7A s m=true:=by
        cases hc:m7A s m with
        | true=>rfl
        | false =>
          have ts:t=s:=et.trans (nocome hc)
          rw [ts] at hP hG
          unfold m7A at hc
          rw [k1,Ah (show s.2.2.length<16 by omega),Ah (show s.2.1.length<4 by omega)] at hc
          simp at hc
      obtain ⟨ho,f,hf,hz,A⟩:=come hc
      have cG:(b3A s m).2.1=n7A m.2.1 (v4C s.1) s.2.1:=by
        unfold b3A
        dsimp only
        rw [Ae (by rw [hgs]; decide)]
      have F1:FlI (b3A s m) (z1B (fun b:Int=>m.2.1==b) m.2.1 (v4C s.1) ck fl) (ckE (fun b:Int=>m.2.1==b) ck fl):=
        F.ins (t:=b3A s m) (fun j=>by rw [cG,y1B (by simpa using hgs)]) (by rw [hgs,Ae (by decide),cG,y0B])
      have:=a2G (e:=e) (s:=s) (l:=l) hl h q.run ho hf hz A F1 hb hn H
      rw [eT k1,now]
      exact this
    · have hc:m7A s m=false:=by
        unfold m7A
        rw [hgs,Bg k1]; simp
      have fn:l8A (fun b:Int=>m.2.1==b) fl=none:=by rw [F.corr]; simpa using hgs
      rw [eF k1,Aa]
      dsimp only
      rw [fn,show (none:Option FlT).isSome=false from rfl,Ai,Aa]
      dsimp only
      rw [Ai]
      exact quiet hc
  | true =>
    rw [F.corr,hgs,Cc,Ai,Aa]
    dsimp only
    rw [Ai]
    have cG:(b3A s m).2.1=s.2.1:=by
      unfold b3A
      dsimp only
      rw [Aj hgs]
    cases hc:m7A s m with
    | true =>
      obtain ⟨ho,f,hf,hz,A⟩:=come hc
      have F1:FlI (b3A s m) fl ck:=F.same cG
      exact a2G (e:=e) (s:=s) (l:=l) hl h q.run ho hf hz A F1 hb hn H
    | false =>
      have ts:t=s:=et.trans (nocome hc)
      have pn:(a5A m.2.2.1 t.2.2).isSome=false:=by
        rw [ts]
        unfold m7A at hc
        rw [hgs,Bool.true_or,Bool.and_true] at hc
        simp only [Fi] at hc
        exact hc.1
      obtain ⟨f,hf⟩:=Dn.1 hgs
      have fn:l8A (fun b:Int=>m.2.1==b) fl=some f:=by rw [F.corr]; exact hf
      rw [Aa]
      dsimp only
      rw [fn,show (some f).isSome=true from rfl,Al,a0G q.run.hs.P,pn,Aa,Aa]
      dsimp only
      rw [Ai]
      exact quiet hc
theorem c7G {k i:Nat} {s:SvT} {l:List MsT} {m:MsT} {fl:FlE} {ck:Nat} {hd:HdE} {ck2:Nat} (hi:l[i]? = some m) (hl:l.length≤60) (hm:szM m) (r:f8A k s) (hk:k<1000000) (F:FlI s fl ck) (hb:∀ e∈hd,e.1<ck2) (hn:(hd.map (·.1)).Nodup) (H:HrI s hd) :
  ∃ z,w2F (true,l,(l.length:Int),(i:Int),(fl,ck),(hd,ck2),s,())=some z∧w1F (k+1) i l z:=by
 have hlt:=g1A hi
 unfold w2F
 dsimp only
 rw [dT (by omega),wT (by omega) (by omega),Ao,gD hi,r0E r.sz hm,Aa,show r9C m=some (m.1==0) from rfl,Aa]
 unfold h9A
 by_cases h0:m.1=0
 ·have tk:=p0D r hk
  rw [Aj h0,eT h0,nF tk.ok,tk.ok,a6G (hd:=(hd,ck2)) r hk F tk.now,Aa]
  have ha:v3F m=false:=by unfold v3F; rw [h0]; rfl
  exact x9F (e:=0) (s:=s) (t:=(l6B s).1) (by omega) ha (by rw [Aj rfl]) tk.run (F.tick r hk) hb hn (H.same (a7G r hk))
 ·rw [Ae h0,eF h0]
  cases ha:v3F m with
  | true=>exact c6G (by omega) ha hm r hk F hb hn H rfl rfl
  | false =>
   by_cases he:(n9A s m).2.2=0
   ·obtain ⟨q1,q2⟩:=c1G r hk hm he ha
    exact x9F (e:=(n9A s m).2.2) (s:=s) (t:=(n9A s m).1) (by omega) ha (by rw [Aj he]) (o7D r hk hm he).run (F.same q1) hb hn (H.same q2)
   ·exact x9F (e:=(n9A s m).2.2) (s:=s) (t:=(n9A s m).1) (by omega) ha (by rw [Ae he]) r.up F hb hn H
theorem c8G {l:List MsT} (hl:l.length≤9223372036854775807) (hz:∀ m∈l,szM m):w7F l=some true:=by
 obtain ⟨b,hb,hb2⟩:=q9E l hl
 unfold w7F
 rw [q8E,Aa,hb,Aa]
 cases b with
 | false=>rfl
 | true =>
  have hl2:=hb2 rfl
  rw [Cc,Ai,show u1B=some zSv from rfl,Aa]
  have loop:∃ r,iter w2F (true,l,(l.length:Int),0,(([]:FlE),0),(([]:HdE),0),zSv,())=some r∧((∃ u fl ck,r=.inl (true,(fl,ck),u,())∧fl.length=u.2.1.length)∨r=.inr (true,())):=by
   refine f3B (f:=w2F) (fun y=>(y.2.2.1 - y.2.2.2.1).toNat)
    (fun y=>∃ (i:Nat) (s:SvT) (fl:FlE) (ck:Nat) (hd:HdE) (ck2:Nat),y=(true,l,(l.length:Int),(i:Int),(fl,ck),(hd,ck2),s,())∧i≤l.length∧f8A i s∧FlI s fl ck∧(∀ e∈hd,e.1<ck2)∧(hd.map (·.1)).Nodup∧HrI s hd)
    (fun r=>(∃ u fl ck,r=.inl (true,(fl,ck),u,())∧fl.length=u.2.1.length)∨r=.inr (true,())) ?_ _
    ⟨0,zSv,[],0,[],0,rfl,De _,r4E,⟨(fun e he=>by cases he),List.nodup_nil,List.nodup_nil,fun j=>rfl,rfl⟩,(fun e he=>by cases he),List.nodup_nil,⟨(fun e he=>by cases he),fun j t ht=>⟨(fun q=>by cases q),fun ⟨x,hx,_⟩=>by cases hx⟩⟩⟩
   rintro y ⟨i,s,fl,ck,hd,ck2,rfl,hi,r,F,hb,hn,H⟩
   by_cases h:i<l.length
   ·obtain ⟨m,hm⟩:∃ m,l[i]? = some m:=⟨_,Aq h⟩
    obtain ⟨z,hz1,hz2⟩:=c7G hm hl2 (hz m (h6A hm)) r (by omega) F hb hn H
    rcases hz2 with ⟨y,rfl,u,fl',ck',hd',ck2',rfl,r',F',hb',hn',H'⟩ | rfl
    ·left
     exact ⟨_,hz1,⟨i+1,u,fl',ck',hd',ck2',rfl,h,r',F',hb',hn',H'⟩,by simp only; omega⟩
    ·right
     exact ⟨_,hz1,.inr rfl⟩
   ·right
    refine ⟨_,?_,.inl ⟨s,fl,ck,rfl,F.len⟩⟩
    unfold w2F
    dsimp only
    rw [dF (by omega)]
  obtain ⟨r,h1,h2⟩:=loop
  rw [h1,Aa]
  rcases h2 with ⟨u,fl,ck,rfl,h2⟩ | rfl
  ·dsimp only
   rw [Al,h2,Dq]
  ·rfl
theorem c9G (x:c8A [(false,.sl t3C)]) (h:wfL _ x):w7F x=some true:=c8G h.1 fun m hm=>i4E (h.2 m hm)
end Go.Sq
