import Derived.Test.YtjbbjnjcjjomgaaGreatDoorF
import Derived.Test.YtjbbjnjcjjomgaaGreatDoorL3
import Derived.Test.YtjbbjnjcjjomgaaGreatDoorX4
import Derived.Test.YtjbbjnjcjjomgaaGreatDoorL4
set_option linter.unusedSimpArgs false
set_option linter.unusedVariables false
set_option linter.unusedSectionVars false
namespace Go.Sq
open Go.Rx
abbrev by8 (s:ByteArray) (i:Nat):Nat:=(s.data.getD i 0).toNat
theorem f4B (s:ByteArray) (i:Nat):by8 s i<256:=UInt8.toNat_lt _
abbrev sfx (s:ByteArray) (p:Nat):ByteArray:=s.extract p s.size
theorem o4A (s:ByteArray) (p:Nat):(sfx s p).size=s.size - p:=by simp [sfx,ByteArray.size_extract]
theorem c1B (s:ByteArray) (p i:Nat):by8 (sfx s p) i=by8 s (p+i):=by
 unfold by8 sfx
 congr 1
 rw [Array.getD_eq_getD_getElem?,Array.getD_eq_getD_getElem?]
 congr 1
 rw [ByteArray.data_extract,Array.getElem?_extract]
 split
 ·rfl
 ·rename_i h
  rw [Eg]
  have:s.data.size=s.size:=rfl
  omega
theorem s1C (s:ByteArray) (p q:Nat):sfx (sfx s p) q=sfx s (p+q):=by
 unfold sfx
 rw [ByteArray.extract_extract]
 congr 1
 have:=o4A s p
 unfold sfx at this
 rw [this]
 omega
theorem j6D (s:ByteArray):sfx s 0=s:=by unfold sfx; simp
theorem k8F {b:Nat} (h:b<256):i5A .and .u8 (b:Int) 192=((b / 64*64:Nat):Int):=by
 have:=k1F (a:=b) (b:=192) (by omega) (by decide)
 rw [show (192:Int)=((192:Nat):Int) from rfl,this]
 congr 1
 revert b; decide +kernel
theorem k9F {b:Nat} (h:b<256):i5A .and .u8 (b:Int) 63=((b % 64:Nat):Int):=by
 have:=k1F (a:=b) (b:=63) (by omega) (by decide)
 rw [show (63:Int)=((63:Nat):Int) from rfl,this]
 congr 1
 revert b; decide +kernel
theorem l0F {a b:Nat} (ha:a<2 ^ 62) (hb:b<2 ^ 62):i5A .or .i64 (a:Int) (b:Int)=((a|||b:Nat):Int):=by
 have hor:a|||b<2 ^ 62:=Dm ha hb
 have ea:(BitVec.ofInt 64 (a:Int)).toNat=a:=by simp; omega
 have eb:(BitVec.ofInt 64 (b:Int)).toNat=b:=by simp; omega
 show IntKind.i64.wrap (((BitVec.ofInt 64 (a:Int)|||BitVec.ofInt 64 (b:Int)).toNat:Nat):Int)=_
 rw [BitVec.toNat_or,ea,eb]
 exact b8A (by omega) (by omega)
theorem l1F {a b:Nat} (ha:a<2 ^ 62) (hb:b<2 ^ 62):i5A .and .i64 (a:Int) (b:Int)=((a&&&b:Nat):Int):=by
 have hor:a&&&b<2 ^ 62:=Nat.and_lt_two_pow a hb
 have ea:(BitVec.ofInt 64 (a:Int)).toNat=a:=by simp; omega
 have eb:(BitVec.ofInt 64 (b:Int)).toNat=b:=by simp; omega
 show IntKind.i64.wrap (((BitVec.ofInt 64 (a:Int)&&&BitVec.ofInt 64 (b:Int)).toNat:Nat):Int)=_
 rw [BitVec.toNat_and,ea,eb]
 exact b8A (by omega) (by omega)
theorem six {v b:Nat} (hv:v<2 ^ 40) (hb:b<256):i5A .or .i64 (l4A .i64 (v:Int) 6) (IntKind.i64.wrap (i5A .and .u8 (b:Int) 63))=((v*64+b % 64:Nat):Int):=by
 rw [k9F hb,b8A (by omega) (by omega)]
 have:l4A .i64 (v:Int) 6=((v <<< 6:Nat):Int):=by
  show IntKind.i64.wrap ((v:Int)*2 ^ min (6:Int).toNat 64)=_
  rw [show min (6:Int).toNat 64=6 from rfl,b8A (by omega) (by omega),Nat.shiftLeft_eq]
  push_cast; rfl
 rw [this,l0F (by rw [Nat.shiftLeft_eq]; omega) (by omega),←Nat.shiftLeft_add_eq_or_of_lt (by omega:b % 64<2 ^ 6),Nat.shiftLeft_eq]
def co (s:ByteArray) (i:Nat):Prop:=i<s.size∧by8 s i / 64=2
instance (s:ByteArray) (i:Nat):Decidable (co s i):=by unfold co; infer_instance
def two (s:ByteArray):Nat:=by8 s 0 % 32*64+by8 s 1 % 64
def m5A (s:ByteArray):Nat:=(by8 s 0 % 16*64+by8 s 1 % 64)*64+by8 s 2 % 64
def q5A (s:ByteArray):Nat:=((by8 s 0 % 8*64+by8 s 1 % 64)*64+by8 s 2 % 64)*64+by8 s 3 % 64
def e8A (s:ByteArray):Nat×Nat:=
 if by8 s 0<128 then (by8 s 0,1)
 else if 194≤by8 s 0∧by8 s 0<224 then if co s 1 then (two s,2) else (0,0)
 else if 224≤by8 s 0∧by8 s 0<240 then if co s 1∧co s 2∧2048≤m5A s∧¬ (55296≤m5A s∧m5A s<57344) then (m5A s,3) else (0,0)
 else if 240≤by8 s 0∧by8 s 0<245 then if co s 1∧co s 2∧co s 3∧65536≤q5A s∧q5A s≤1114111 then (q5A s,4) else (0,0)
 else (0,0)
theorem i6F {s:ByteArray} {n v i:Nat} (hi:i<n) (hn:n≤s.size) (hv:v<2 ^ 40) (h4:n≤4):i2F (s,(n:Int),(v:Int),(i:Int),()) =
  if co s i then some (.inl (s,(n:Int),((v*64+by8 s i % 64:Nat):Int),((i+1:Nat):Int),())) else some (.inr (.inr (0,0,()))):=by
 have hb:=f4B s i
 have ws:IntKind.i64.wrap ((i:Int)+1)=((i+1:Nat):Int):=k7F (by omega)
 simp (disch:=omega) only [i2F,dT,wT,Ao,k8F hb,six hv hb,ws]
 by_cases h:by8 s i / 64=2
 ·rw [Aj (show co s i from ⟨by omega,h⟩),nF (by omega)]
 ·rw [Ae (fun q:co s i=>h q.2),nT (by omega)]
theorem j9F {s:ByteArray} {n v:Int}:i2F (s,n,v,n,())=some (.inr (.inl (n,v,()))):=by
 simp only [i2F,Int.lt_irrefl,decide_false,Ai]
theorem k0F {x m k:Nat} (hx:x<256) (hm:m<256) (h:∀ y,y<256→y&&&m=y % k):i5A .and .i64 (x:Int) (m:Int)=((x % k:Nat):Int):=by
 rw [l1F (by omega) (by omega),h x hx]
set_option maxRecDepth 20000 in
theorem l2F {s:ByteArray} (h:0<s.size):j2F s=some (((e8A s).1:Int),((e8A s).2:Int)):=by
 have hb:=f4B s 0
 have b1:=f4B s 1
 have b2:=f4B s 2
 have b3:=f4B s 3
 have w0:IntKind.i64.wrap ((s.data.getD 0 0).toNat:Int)=(by8 s 0:Int):=b8A (show (_:Int)≤(by8 s 0:Int) by omega) (show (by8 s 0:Int)<_ by omega)
 unfold j2F e8A
 rw [wT (by omega) (by omega)]
 simp only [w0]
 by_cases c1:by8 s 0<128
 ·rw [Aj c1,dT (by omega)]
  rfl
 ·rw [Ae c1,dF (by omega)]
  by_cases c2:194≤by8 s 0
  ·rw [dT (by omega)]
   by_cases c3:by8 s 0<224
   ·rw [Aj ⟨c2,c3⟩]
    have a:=k0F (k:=32) (m:=31) hb (by decide) (by decide +kernel)
    simp only [Aa,Ah (show (by8 s 0:Int)<224 by omega),Al,show ((2:Int)==0)=false from rfl,Ai]
    by_cases hz:2≤s.size
    ·simp only [Am (show ¬ (s.size:Int)<2 by omega),Ai]
     rw [show (31:Int)=((31:Nat):Int) from rfl,a]
     have r1:=i6F (s:=s) (n:=2) (v:=by8 s 0 % 32) (i:=1) (by omega) hz (by omega) (by omega)
     by_cases k1:co s 1
     ·rw [Aj k1] at r1 ⊢
      rw [show iter i2F (s,2,((by8 s 0 % 32:Nat):Int),1,())=_ from (l5A r1).trans (m4A j9F)]
      rfl
     ·rw [Ae k1] at r1 ⊢
      rw [show iter i2F (s,2,((by8 s 0 % 32:Nat):Int),1,())=_ from m4A r1]
      rfl
    ·rw [Ae (fun q:co s 1=>by have:=q.1; omega)]
     simp only [Ah (show (s.size:Int)<2 by omega),Al]
     rfl
   ·rw [Ae (fun q=>c3 q.2)]
    simp only [Aa,Am (show ¬ (by8 s 0:Int)<224 by omega),Ai]
    rw [dT (by omega)]
    by_cases c4:by8 s 0<240
    ·rw [Aj ⟨by omega,c4⟩]
     have a:=k0F (k:=16) (m:=15) hb (by decide) (by decide +kernel)
     simp only [Aa,Ah (show (by8 s 0:Int)<240 by omega),Al,show ((3:Int)==0)=false from rfl,Ai]
     by_cases hz:3≤s.size
     ·simp only [Am (show ¬ (s.size:Int)<3 by omega),Ai]
      rw [show (15:Int)=((15:Nat):Int) from rfl,a]
      have r1:=i6F (s:=s) (n:=3) (v:=by8 s 0 % 16) (i:=1) (by omega) hz (by omega) (by omega)
      have r2:=i6F (s:=s) (n:=3) (v:=by8 s 0 % 16*64+by8 s 1 % 64) (i:=2) (by omega) hz (by omega) (by omega)
      by_cases k1:co s 1
      ·rw [Aj k1] at r1
       by_cases k2:co s 2
       ·rw [Aj k2] at r2
        rw [show iter i2F (s,3,((by8 s 0 % 16:Nat):Int),1,())=_ from (l5A r1).trans ((l5A r2).trans (m4A j9F))]
        have hv:(by8 s 0 % 16*64+by8 s 1 % 64)*64+by8 s 2 % 64=m5A s:=rfl
        rw [hv]
        simp only [Aa,show (((3:Nat):Int)==3)=true from rfl,Al,show (((3:Nat):Int)==4)=false from rfl,Ai]
        by_cases d1:m5A s<2048
        ·rw [Ae (fun q=>by omega),dT (by omega)]; rfl
        ·rw [dF (by omega)]
         by_cases d2:55296≤m5A s
         ·rw [dT (by omega)]
          by_cases d3:m5A s<57344
          ·rw [Ae (fun q=>q.2.2.2 ⟨d2,d3⟩),dT (by omega)]; rfl
          ·rw [Aj ⟨k1,k2,by omega,fun q=>d3 q.2⟩,dF (by omega)]; rfl
         ·rw [Aj ⟨k1,k2,by omega,fun q=>d2 q.1⟩,dF (by omega)]; rfl
       ·rw [Ae k2] at r2
        rw [show iter i2F (s,3,((by8 s 0 % 16:Nat):Int),1,())=_ from (l5A r1).trans (m4A r2),Ae (fun q=>k2 q.2.1)]
        rfl
      ·rw [Ae k1] at r1
       rw [show iter i2F (s,3,((by8 s 0 % 16:Nat):Int),1,())=_ from m4A r1,Ae (fun q=>k1 q.1)]
       rfl
     ·rw [Ae (fun q=>by have:=q.2.1.1; omega)]
      simp only [Ah (show (s.size:Int)<3 by omega),Al]
      rfl
    ·rw [Ae (fun q=>c4 q.2)]
     simp only [Aa,Am (show ¬ (by8 s 0:Int)<240 by omega),Ai]
     rw [dT (by omega)]
     by_cases c5:by8 s 0<245
     ·rw [Aj ⟨by omega,c5⟩]
      have a:=k0F (k:=8) (m:=7) hb (by decide) (by decide +kernel)
      simp only [Aa,Ah (show (by8 s 0:Int)<245 by omega),Al,show ((4:Int)==0)=false from rfl,Ai]
      by_cases hz:4≤s.size
      ·simp only [Am (show ¬ (s.size:Int)<4 by omega),Ai]
       rw [show (7:Int)=((7:Nat):Int) from rfl,a]
       have r1:=i6F (s:=s) (n:=4) (v:=by8 s 0 % 8) (i:=1) (by omega) hz (by omega) (by omega)
       have r2:=i6F (s:=s) (n:=4) (v:=by8 s 0 % 8*64+by8 s 1 % 64) (i:=2) (by omega) hz (by omega) (by omega)
       have r3:=i6F (s:=s) (n:=4) (v:=(by8 s 0 % 8*64+by8 s 1 % 64)*64+by8 s 2 % 64) (i:=3) (by omega) hz (by omega) (by omega)
       by_cases k1:co s 1
       ·rw [Aj k1] at r1
        by_cases k2:co s 2
        ·rw [Aj k2] at r2
         by_cases k3:co s 3
         ·rw [Aj k3] at r3
          rw [show iter i2F (s,4,((by8 s 0 % 8:Nat):Int),1,())=_ from (l5A r1).trans ((l5A r2).trans ((l5A r3).trans (m4A j9F)))]
          have hv:((by8 s 0 % 8*64+by8 s 1 % 64)*64+by8 s 2 % 64)*64+by8 s 3 % 64=q5A s:=rfl
          rw [hv]
          simp only [Aa,show (((4:Nat):Int)==3)=false from rfl,Al,show (((4:Nat):Int)==4)=true from rfl,Ai]
          by_cases d1:q5A s<65536
          ·rw [Ae (fun q=>by omega),dT (by omega)]; rfl
          ·rw [dF (by omega)]
           by_cases d2:q5A s≤1114111
           ·rw [Aj ⟨k1,k2,k3,by omega,d2⟩]
            simp only [Aa,Am (show ¬ (q5A s:Int)>1114111 by omega),Ai]
           ·rw [Ae (fun q=>d2 q.2.2.2.2)]
            simp only [Aa,Ah (show (q5A s:Int)>1114111 by omega),Al]; rfl
         ·rw [Ae k3] at r3
          rw [show iter i2F (s,4,((by8 s 0 % 8:Nat):Int),1,())=_ from (l5A r1).trans ((l5A r2).trans (m4A r3)),Ae (fun q=>k3 q.2.2.1)]
          rfl
        ·rw [Ae k2] at r2
         rw [show iter i2F (s,4,((by8 s 0 % 8:Nat):Int),1,())=_ from (l5A r1).trans (m4A r2),Ae (fun q=>k2 q.2.1)]
         rfl
       ·rw [Ae k1] at r1
        rw [show iter i2F (s,4,((by8 s 0 % 8:Nat):Int),1,())=_ from m4A r1,Ae (fun q=>k1 q.1)]
        rfl
      ·rw [Ae (fun q=>by have:=q.2.2.1.1; omega)]
       simp only [Ah (show (s.size:Int)<4 by omega),Al]
       rfl
     ·rw [Ae (fun q=>c5 q.2)]
      simp only [Aa,Am (show ¬ (by8 s 0:Int)<245 by omega),Ai]
      rfl
  ·rw [Ae (fun q=>c2 q.1),Ae (fun q=>by omega),Ae (fun q=>by omega),dF (by omega)]
   simp only [Aa,Ai]
   rw [dF (by omega)]
   simp only [Aa,Ai]
   rw [dF (by omega)]
   rfl
end Go.Sq
namespace Go.Sq
open Go.Rx
theorem s2C {s:ByteArray} (h:(e8A s).2≠0):1≤(e8A s).2∧(e8A s).2≤4∧(0<s.size→(e8A s).2≤s.size):=by
 unfold e8A at h ⊢
 split
 ·exact ⟨Ay 1,show 1≤4 by decide,id⟩
 ·split
  ·split
   ·rename_i k; exact ⟨show 1≤2 by decide,show 2≤4 by decide,fun _=>k.1⟩
   ·rename_i a b c; rw [Ae a,Aj b,Ae c] at h; exact absurd rfl h
  ·split
   ·split
    ·rename_i k; exact ⟨show 1≤3 by decide,show 3≤4 by decide,fun _=>k.2.1.1⟩
    ·rename_i a b c d; rw [Ae a,Ae b,Aj c,Ae d] at h; exact absurd rfl h
   ·split
    ·split
     ·rename_i k; exact ⟨show 1≤4 by decide,show 4≤4 by decide,fun _=>k.2.2.1.1⟩
     ·rename_i a b c d e; rw [Ae a,Ae b,Ae c,Aj d,Ae e] at h; exact absurd rfl h
    ·rename_i a b c d; rw [Ae a,Ae b,Ae c,Ae d] at h; exact absurd rfl h
theorem f5E (s:ByteArray) (i:Nat):(s.get! i).toNat=by8 s i:=by
 unfold by8
 congr 1
theorem j7D {s:ByteArray} {p:Nat} (hp:p<s.size) (h:(e8A (sfx s p)).2≠0):Utf8.decode s p=e8A (sfx s p):=by
 have hb:=f4B s p
 have hz:=o4A s p
 have g0:by8 (sfx s p) 0=by8 s p:=by rw [c1B]; rfl
 have g1:by8 (sfx s p) 1=by8 s (p+1):=c1B s p 1
 have g2:by8 (sfx s p) 2=by8 s (p+2):=c1B s p 2
 have g3:by8 (sfx s p) 3=by8 s (p+3):=c1B s p 3
 have cc:∀ {i},co (sfx s p) i→(decide (p+i<s.size)&&by8 s (p+i) / 64==2)=true:=fun {i} k=>by
  obtain ⟨k1,k2⟩:=k
  rw [hz] at k1
  rw [c1B] at k2
  simp only [Ac,Au,Cw]
  exact ⟨by omega,k2⟩
 unfold Utf8.decode
 simp only [f5E,Dx]
 revert h
 unfold e8A
 rw [g0]
 by_cases c1:by8 s p<128
 ·simp only [Aj c1]; intro _; trivial
 ·simp only [Ae c1]
  by_cases c2:194≤by8 s p∧by8 s p<224
  ·simp only [Aj c2]
   by_cases k:co (sfx s p) 1
   ·simp only [Aj k]
    intro _
    have t2:two (sfx s p)=by8 s p % 32*64+by8 s (p+1) % 64:=by unfold two; rw [g0,g1]
    rw [cc k,Bool.and_true,show (by8 s p / 32==6)=true from Cw.2 (by omega),Aj rfl,t2,Aj (by omega)]
   ·simp only [Ae k]; intro h; exact absurd rfl h
  ·simp only [Ae c2]
   by_cases c3:224≤by8 s p∧by8 s p<240
   ·simp only [Aj c3]
    by_cases k:co (sfx s p) 1∧co (sfx s p) 2∧2048≤m5A (sfx s p)∧¬(55296≤m5A (sfx s p)∧m5A (sfx s p)<57344)
    ·simp only [Aj k]
     intro _
     have t3:m5A (sfx s p)=by8 s p % 16*4096+by8 s (p+1) % 64*64+by8 s (p+2) % 64:=by unfold m5A; rw [g0,g1,g2]; omega
     obtain ⟨k1,k2,k3,k4⟩:=k
     rw [t3] at k3 k4 ⊢
     rw [cc k1,cc k2,show (by8 s p / 32==6)=false from Bg (by omega),show (by8 s p / 16==14)=true from Cw.2 (by omega)]
     simp only [Bh,Cf,Fb,Bool.and_self,Ep]
     rw [Aj]
     simp only [Ac,Au,Utf8.valid,Db]
     omega
    ·simp only [Ae k]; intro h; exact absurd rfl h
   ·simp only [Ae c3]
    by_cases c4:240≤by8 s p∧by8 s p<245
    ·simp only [Aj c4]
     by_cases k:co (sfx s p) 1∧co (sfx s p) 2∧co (sfx s p) 3∧65536≤q5A (sfx s p)∧q5A (sfx s p)≤1114111
     ·simp only [Aj k]
      intro _
      have t4:q5A (sfx s p)=by8 s p % 8*262144+by8 s (p+1) % 64*4096+by8 s (p+2) % 64*64+by8 s (p+3) % 64:=by unfold q5A; rw [g0,g1,g2,g3]; omega
      obtain ⟨k1,k2,k3,k4,k5⟩:=k
      rw [t4] at k4 k5 ⊢
      rw [cc k1,cc k2,cc k3,show (by8 s p / 32==6)=false from Bg (by omega),show (by8 s p / 16==14)=false from Bg (by omega),show (by8 s p / 8==30)=true from Cw.2 (by omega)]
      simp only [Bh,Cf,Fb,Bool.and_self,Ep]
      rw [Aj]
      simp only [Ac,Au,Utf8.valid,Db]
      omega
     ·simp only [Ae k]; intro h; exact absurd rfl h
    ·simp only [Ae c4]; intro h; exact absurd rfl h
theorem f6E (s:ByteArray) (p:Nat):1≤q4A s p∧q4A s p≤4:=by
 have h1:∀ v:Nat,1≤(v,1).2∧(v,1).2≤4:=fun _=>⟨show 1≤1 by decide,show 1≤4 by decide⟩
 have h2:∀ v:Nat,1≤(v,2).2∧(v,2).2≤4:=fun _=>⟨show 1≤2 by decide,show 2≤4 by decide⟩
 have h3:∀ v:Nat,1≤(v,3).2∧(v,3).2≤4:=fun _=>⟨show 1≤3 by decide,show 3≤4 by decide⟩
 have h4:∀ v:Nat,1≤(v,4).2∧(v,4).2≤4:=fun _=>⟨show 1≤4 by decide,show 4≤4 by decide⟩
 unfold q4A Utf8.decode
 simp only
 split
 ·exact h1 _
 ·split
  ·split
   ·exact h2 _
   ·exact h1 _
  ·split
   ·split
    ·exact h3 _
    ·exact h1 _
   ·split
    ·split
     ·exact h4 _
     ·exact h1 _
    ·exact h1 _
def e6A (s:ByteArray):Option (List Nat):=
 if _h:s.size=0 then some [] else
 if k:(e8A s).2=0 then none else
 (e6A (sfx s (e8A s).2)).map ((e8A s).1::·)
termination_by s.size
decreasing_by
 rw [o4A]
 have:=(s2C k).1
 omega
theorem j8D {s:ByteArray} (h:s.size=0):e6A s=some []:=by rw [e6A,dif_pos h]
theorem s3C {s:ByteArray} (h:s.size≠0) (k:(e8A s).2=0):e6A s=none:=by rw [e6A,dif_neg h,dif_pos k]
theorem g3C {s:ByteArray} (h:s.size≠0) (k:(e8A s).2≠0):e6A s=(e6A (sfx s (e8A s).2)).map ((e8A s).1::·):=by
 rw [e6A,dif_neg h,dif_neg k]
def j7B (v:Nat):Bool:=decide (32≤v)&&v != 127
def w2A (s:ByteArray):Bool:=
 match e6A s with
 | none=>false
 | some l=>l.all j7B&&decide (l.length≤16)
theorem l3F {s:ByteArray} (hs:s.size≤9223372036854775807):j3F s=some (w2A s):=by
 obtain ⟨r,h1,h2⟩:=f3B (f:=i3F) (fun x=>x.1.size)
  (fun x=>∃ l1:List Nat,x.2.1=(l1.length:Int)∧l1.length+x.1.size≤s.size∧l1.all j7B=true∧e6A s=(e6A x.1).map (l1++·))
  (fun r=>match r with
   | .inl (m,_)=>∃ l:List Nat,e6A s=some l∧m=(l.length:Int)∧l.all j7B=true
   | .inr (b,_)=>b=false∧w2A s=false) (fun x hx=>by
   obtain ⟨t,m,u⟩:=x
   obtain ⟨l1,hm,hsz,hc,hr⟩:=hx
   have hm:m=(l1.length:Int):=hm
   have hsz:l1.length+t.size≤s.size:=hsz
   have hr:e6A s=(e6A t).map (l1++·):=hr
   subst hm
   by_cases h0:t.size=0
   ·right
    refine ⟨.inl ((l1.length:Int),()),by simp (disch:=omega) only [i3F,dF],l1,?_,rfl,hc⟩
    rw [hr,j8D h0,Option.map_some,Bc]
   ·have hf:=l2F (s:=t) (by omega)
    by_cases hk:(e8A t).2=0
    ·right
     refine ⟨.inr (false,()),?_,rfl,?_⟩
     ·simp (disch:=omega) only [i3F,dT,hf,Aa,hk,Dq,Al,show ((0:Nat):Int)=0 from rfl]
     ·unfold w2A; rw [hr,s3C h0 hk]; rfl
    ·have hp:=s2C hk
     by_cases hcl:j7B (e8A t).1=true
     ·left
      have hcl2:=hcl
      simp only [j7B,Ac,Au,bne_iff_ne] at hcl2
      have ws:IntKind.i64.wrap ((l1.length:Int)+1)=((l1.length+1:Nat):Int):=by rw [b8A (by omega) (by omega)]; rfl
      refine ⟨(sfx t (e8A t).2,((l1.length+1:Nat):Int),()),?_,⟨l1++[(e8A t).1],by simp,?_,?_,?_⟩,?_⟩
      ·have e1:(((e8A t).2:Int)==0)=false:=Bg (by omega)
       have e2:(((e8A t).1:Int)==127)=false:=Bg (by omega)
       simp (disch:=omega) only [i3F,dT,dF,hf,Aa,e1,e2,Ai,gT,Ao,ws]
      ·have:=o4A t (e8A t).2
       show (l1++[(e8A t).1]).length+(sfx t (e8A t).2).size≤s.size
       rw [Ak,By]
       have:=hp.2.2 (by omega)
       omega
      ·rw [List.all_append,hc]; simp [hcl]
      ·show e6A s=(e6A (sfx t (e8A t).2)).map _
       rw [hr,g3C h0 hk,Option.map_map]
       congr 1
       funext q
       simp
      ·have:=o4A t (e8A t).2
       show (sfx t (e8A t).2).size<t.size
       omega
     ·right
      refine ⟨.inr (false,()),?_,rfl,?_⟩
      ·have e1:(((e8A t).2:Int)==0)=false:=Bg (by omega)
       simp only [j7B,Ac,Au,bne_iff_ne] at hcl
       by_cases h32:(e8A t).1<32
       ·simp (disch:=omega) only [i3F,dT,hf,Aa,e1,Ai,Al]
       ·have e2:(((e8A t).1:Int)==127)=true:=Cw.2 (by omega)
        simp (disch:=omega) only [i3F,dT,dF,hf,Aa,e1,e2,Ai,Al]
      ·unfold w2A
       rw [hr,g3C h0 hk]
       cases e6A (sfx t (e8A t).2) with
       | none=>rfl
       | some q =>
        simp only [Option.map_some,List.all_append,List.all_cons,hc,Cs]
        rw [Bool.not_eq_true] at hcl
        rw [hcl]; rfl) (s,0,()) ⟨[],rfl,by simp,rfl,by cases e6A s <;> simp⟩
 unfold j3F
 rw [h1]
 match r,h2 with
 | .inl (m,()),⟨l,e1,e2,e3⟩ =>
  simp only [Aa,e2]
  unfold w2A
  rw [e1]
  simp only [e3,Cs]
  congr 1
  apply decide_eq_decide.2
  omega
 | .inr (b,()),⟨e1,e2⟩=>simp only [Aa,e1,e2]
end Go.Sq
namespace Go.Sq
open Go.Rx
def w3A:Nat:=9259542123273814144
def wordN (s:ByteArray):Nat:=((((((by8 s 0|||by8 s 1 <<< 8)|||by8 s 2 <<< 16)|||by8 s 3 <<< 24)|||by8 s 4 <<< 32)|||by8 s 5 <<< 40)|||by8 s 6 <<< 48)|||by8 s 7 <<< 56
theorem j8B {b n:Nat} (hb:b<256) (hn:n≤56):l4A .u64 (IntKind.u64.wrap (b:Int)) (n:Int)=((b <<< n:Nat):Int)∧b <<< n<2 ^ 64:=by
 have h1:b <<< n<2 ^ 64:=by
  rw [Nat.shiftLeft_eq]
  calc b*2 ^ n≤255*2 ^ 56:=Nat.mul_le_mul (by omega) (Nat.pow_le_pow_right (by decide) hn)
   _<2 ^ 64:=by decide
 rw [c0B (by omega) (by omega),f3E (by omega),Nat.mod_eq_of_lt h1]
 exact ⟨rfl,h1⟩
theorem j9B {s:ByteArray} (h:8≤s.size):z1A s=some ((wordN s:Nat):Int)∧wordN s<2 ^ 64:=by
 have b:=f4B s
 have b0:=b 0
 obtain ⟨e1,l1⟩:=j8B (n:=8) (b 1) (by decide)
 obtain ⟨e2,l2⟩:=j8B (n:=16) (b 2) (by decide)
 obtain ⟨e3,l3⟩:=j8B (n:=24) (b 3) (by decide)
 obtain ⟨e4,l4⟩:=j8B (n:=32) (b 4) (by decide)
 obtain ⟨e5,l5⟩:=j8B (n:=40) (b 5) (by decide)
 obtain ⟨e6,l6⟩:=j8B (n:=48) (b 6) (by decide)
 obtain ⟨e7,l7⟩:=j8B (n:=56) (b 7) (by decide)
 have l0:by8 s 0<2 ^ 64:=by omega
 have m1:=Dm l0 l1
 have m2:=Dm m1 l2
 have m3:=Dm m2 l3
 have m4:=Dm m3 l4
 have m5:=Dm m4 l5
 have m6:=Dm m5 l6
 have m7:=Dm m6 l7
 refine ⟨?_,m7⟩
 have e0:IntKind.u64.wrap ((s.data.getD 0 0).toNat:Int)=(by8 s 0:Int):=c0B (show (0:Int)≤(by8 s 0:Int) by omega) (show (by8 s 0:Int)<_ by omega)
 unfold z1A
 iterate 8 rw [wT (by omega) (by omega)]
 rw [e0]
 have e1:l4A .u64 (IntKind.u64.wrap ((s.data.getD 1 0).toNat:Int)) 8=_:=e1
 have e2:l4A .u64 (IntKind.u64.wrap ((s.data.getD 2 0).toNat:Int)) 16=_:=e2
 have e3:l4A .u64 (IntKind.u64.wrap ((s.data.getD 3 0).toNat:Int)) 24=_:=e3
 have e4:l4A .u64 (IntKind.u64.wrap ((s.data.getD 4 0).toNat:Int)) 32=_:=e4
 have e5:l4A .u64 (IntKind.u64.wrap ((s.data.getD 5 0).toNat:Int)) 40=_:=e5
 have e6:l4A .u64 (IntKind.u64.wrap ((s.data.getD 6 0).toNat:Int)) 48=_:=e6
 have e7:l4A .u64 (IntKind.u64.wrap ((s.data.getD 7 0).toNat:Int)) 56=_:=e7
 rw [e1,e2,e3,e4,e5,e6,e7,w1A l0 l1,w1A m1 l2,w1A m2 l3,w1A m3 l4,w1A m4 l5,w1A m5 l6,w1A m6 l7]
 rfl
theorem f7E {b:Nat} (h:b<256) (h':128≤b):b.testBit 7=true:=by
 revert h h'; revert b; decide +kernel
theorem w4A {a b m:Nat} (h:(a|||b)&&&m=0):a&&&m=0∧b&&&m=0:=by
 constructor
 ·apply Nat.eq_of_testBit_eq
  intro i
  have:=Cp (·.testBit i) h
  simp only [Nat.testBit_and,Nat.testBit_or,Nat.zero_testBit] at this ⊢
  cases ha:a.testBit i <;> cases hm:m.testBit i <;> simp [ha,hm] at this ⊢
 ·apply Nat.eq_of_testBit_eq
  intro i
  have:=Cp (·.testBit i) h
  simp only [Nat.testBit_and,Nat.testBit_or,Nat.zero_testBit] at this ⊢
  cases ha:b.testBit i <;> cases hm:m.testBit i <;> simp [ha,hm] at this ⊢
theorem f5B {b n:Nat} (hb:b<256) (h:b <<< n&&&w3A=0) (hm:w3A.testBit (n+7)=true):b<128:=by
 refine Nat.lt_of_not_le fun h' => ?_
 have:=Cp (·.testBit (n+7)) h
 have e:(b <<< n).testBit (n+7)=true:=by rw [Nat.testBit_shiftLeft]; simp [f7E hb h']
 simp [Nat.testBit_and,e,hm] at this
theorem w9B {s:ByteArray} (h:wordN s&&&w3A=0):∀ i,i<8→by8 s i<128:=by
 have b:=f4B s
 unfold wordN at h
 obtain ⟨h,h7⟩:=w4A h
 obtain ⟨h,h6⟩:=w4A h
 obtain ⟨h,h5⟩:=w4A h
 obtain ⟨h,h4⟩:=w4A h
 obtain ⟨h,h3⟩:=w4A h
 obtain ⟨h,h2⟩:=w4A h
 obtain ⟨h,h1⟩:=w4A h
 intro i hi
 match i,hi with
 | 0,_=>exact f5B (n:=0) (b 0) (by simpa using h) (by decide +kernel)
 | 1,_=>exact f5B (b 1) h1 (by decide +kernel)
 | 2,_=>exact f5B (b 2) h2 (by decide +kernel)
 | 3,_=>exact f5B (b 3) h3 (by decide +kernel)
 | 4,_=>exact f5B (b 4) h4 (by decide +kernel)
 | 5,_=>exact f5B (b 5) h5 (by decide +kernel)
 | 6,_=>exact f5B (b 6) h6 (by decide +kernel)
 | 7,_=>exact f5B (b 7) h7 (by decide +kernel)
theorem s4C {w:Nat} (h:w<2 ^ 64):((i5A .and .u64 (w:Int) 9259542123273814144)==0)=decide (w&&&w3A=0):=by
 have:=f2E (a:=w) (b:=w3A) h (by decide)
 rw [show (9259542123273814144:Int)=((w3A:Nat):Int) from rfl,this]
 by_cases k:w&&&w3A=0
 ·rw [k,Ah rfl]; rfl
 ·rw [Am k]; exact Bg (by omega)
theorem f8E {s:ByteArray} (h:by8 s 0<128):e8A s=(by8 s 0,1):=Aj h
theorem g4C {s:ByteArray}:∀ k,k≤s.size→(∀ i,i<k→by8 s i<128)→(e6A s).isSome=(e6A (sfx s k)).isSome
 | 0,_,_=>by rw [j6D]
 | k+1,hk,h=>by
  have hz:=o4A s k
  have h0:by8 (sfx s k) 0<128:=by rw [c1B]; exact h k (by omega)
  have e:=f8E h0
  rw [g4C k (by omega) (fun i hi=>h i (by omega)),g3C (s:=sfx s k) (by omega) (by rw [e]; exact Nat.one_ne_zero),Option.isSome_map,e,s1C]
theorem f9E (s:ByteArray):∃ t:ByteArray,iter p2B (s,())=some (t,())∧t.size≤s.size∧(e6A t).isSome=(e6A s).isSome:=by
 obtain ⟨r,h1,h2⟩:=f3B (f:=p2B) (fun x=>x.1.size) (fun x=>x.1.size≤s.size∧(e6A x.1).isSome=(e6A s).isSome) (fun r=>r.1.size≤s.size∧(e6A r.1).isSome=(e6A s).isSome) (fun x hx=>by
  obtain ⟨t,u⟩:=x
  obtain ⟨hz,hr⟩:=hx
  have hz:t.size≤s.size:=hz
  have hr:(e6A t).isSome=(e6A s).isSome:=hr
  by_cases h:32<t.size
  ·have z8:=o4A t 8
   have z16:=o4A t 16
   have z24:=o4A t 24
   have z32:=o4A t 32
   obtain ⟨w0,l0⟩:=j9B (s:=t) (by omega)
   obtain ⟨w1,l1⟩:=j9B (s:=sfx t 8) (by omega)
   obtain ⟨w2,l2⟩:=j9B (s:=sfx t 16) (by omega)
   obtain ⟨w3,l3⟩:=j9B (s:=sfx t 24) (by omega)
   have m:=s4C (Dm (Dm l0 l1) (Dm l2 l3))
   have e1:=w1A l0 l1
   have e2:=w1A l2 l3
   have e3:=w1A (Dm l0 l1) (Dm l2 l3)
   by_cases k:((wordN t|||wordN (sfx t 8))|||(wordN (sfx t 16)|||wordN (sfx t 24)))&&&w3A=0
   ·left
    refine ⟨(sfx t 32,()),?_,⟨by show (sfx t 32).size≤_; omega,?_⟩,by show (sfx t 32).size<t.size; omega⟩
    ·simp (disch:=omega) only [p2B,dT,w0,w1,w2,w3,Aa,gT,Ao,e1,e2,e3,m,Ah k,Al]
    ·obtain ⟨ka,kb⟩:=w4A k
     obtain ⟨k0,k1⟩:=w4A ka
     obtain ⟨k2,k3⟩:=w4A kb
     show (e6A (sfx t 32)).isSome=_
     rw [←g4C (s:=t) 32 (by omega) (fun i hi => ?_)]
     ·exact hr
     ·by_cases i0:i<8
      ·exact w9B k0 i i0
      ·by_cases i1:i<16
       ·have:=w9B k1 (i - 8) (by omega); rw [c1B,show 8+(i - 8)=i by omega] at this; exact this
       ·by_cases i2:i<24
        ·have:=w9B k2 (i - 16) (by omega); rw [c1B,show 16+(i - 16)=i by omega] at this; exact this
        ·have:=w9B k3 (i - 24) (by omega); rw [c1B,show 24+(i - 24)=i by omega] at this; exact this
   ·right
    refine ⟨(t,()),?_,hz,hr⟩
    simp (disch:=omega) only [p2B,dT,w0,w1,w2,w3,Aa,gT,Ao,e1,e2,e3,m,Am k,Ai]
  ·right
   refine ⟨(t,()),?_,hz,hr⟩
   simp (disch:=omega) only [p2B,dF,Aa,Ai]) (s,()) ⟨Ay _,rfl⟩
 exact ⟨r.1,h1,h2⟩
end Go.Sq
namespace Go.Sq
open Go.Rx
theorem s5C {s:ByteArray} (h:8≤s.size) (k:wordN s&&&w3A=0):(e6A (sfx s 8)).isSome=(e6A s).isSome:=(g4C 8 h (w9B k)).symm
theorem g0E {s:ByteArray} (h0:0<s.size) (hx:by8 s 0<128):∃ t:ByteArray,p5A (s,())=some (.inl (t,()))∧t.size<s.size∧(e6A t).isSome=(e6A s).isSome:=by
 have z1:=o4A s 1
 have q1:(e6A (sfx s 1)).isSome=(e6A s).isSome:=(g4C 1 h0 (fun i hi=>by rw [show i=0 by omega]; exact hx)).symm
 obtain ⟨u,eu⟩:∃ u,sfx s 1=u:=⟨_,rfl⟩
 have e1:s.extract 1 s.size=u:=eu
 have hxi:((s.data.getD 0 0).toNat:Int)<128:=by show (by8 s 0:Int)<128; omega
 rw [eu] at z1 q1
 by_cases h8:8<u.size
 ·obtain ⟨w0,l0⟩:=j9B (s:=u) (by omega)
  have m0:=s4C l0
  by_cases k0:wordN u&&&w3A=0
  ·have z2:=o4A u 8
   have q2:=s5C (s:=u) (by omega) k0
   obtain ⟨v,ev⟩:∃ v,sfx u 8=v:=⟨_,rfl⟩
   have e2:u.extract 8 u.size=v:=ev
   rw [ev] at z2 q2
   by_cases h16:16<v.size
   ·have z3:=o4A v 8
    obtain ⟨w1,l1⟩:=j9B (s:=v) (by omega)
    obtain ⟨w2,l2⟩:=j9B (s:=sfx v 8) (by omega)
    have o:=w1A l1 l2
    have m:=s4C (Dm l1 l2)
    by_cases k:(wordN v|||wordN (sfx v 8))&&&w3A=0
    ·obtain ⟨k1,k2⟩:=w4A k
     have z4:=o4A v 16
     have q3:(e6A (sfx v 16)).isSome=(e6A v).isSome:=by
      rw [←s5C (s:=v) (by omega) k1,←s5C (s:=sfx v 8) (by omega) k2,s1C]
     obtain ⟨t,r1,r2,r3⟩:=f9E (sfx v 16)
     refine ⟨t,?_,by omega,r3.trans (q3.trans (q2.trans q1))⟩
     simp (disch:=omega) only [p5A,dT,wT,gT,Ao,e1,w0,Aa,m0,Ah k0,Al,e2,w1,w2,o,m,Ah k,r1]
    ·refine ⟨v,?_,by omega,q2.trans q1⟩
     simp (disch:=omega) only [p5A,dT,wT,gT,Ao,e1,w0,Aa,m0,Ah k0,Al,e2,w1,w2,o,m,Am k,Ai]
   ·refine ⟨v,?_,by omega,q2.trans q1⟩
    simp (disch:=omega) only [p5A,dT,dF,wT,gT,Ao,e1,w0,Aa,m0,Ah k0,Al,e2,Ai]
  ·refine ⟨u,?_,by omega,q1⟩
   simp (disch:=omega) only [p5A,dT,wT,gT,Ao,e1,w0,Aa,m0,Am k0,Ai]
 ·refine ⟨u,?_,by omega,q1⟩
  simp (disch:=omega) only [p5A,dT,dF,wT,gT,Ao,e1,Aa,Ai]
def q6A (x:Nat):Nat:=(m2A.getD x 0).toNat % 8
def q7A (x:Nat):Nat:=(m2A.getD x 0).toNat / 16
theorem j9D:∀ x,x<256→IntKind.i64.wrap (i5A .and .u8 (m2A.getD x 0) 7)=(q6A x:Int)∧g4A .u8 (m2A.getD x 0) 4=(q7A x:Int)∧q7A x<16:=by decide +kernel
theorem g1E:∀ x,x<256→194≤x→x<224→q6A x=2∧q7A x=0:=by decide +kernel
theorem g2E:∀ x,x<256→224<x→x<240→x≠237→q6A x=3∧q7A x=0:=by decide +kernel
theorem g3E:∀ x,x<256→240<x→x<244→q6A x=4∧q7A x=0:=by decide +kernel
theorem g4E:∀ x,x<256→128≤x→(x<194∨244<x)→q6A x=1:=by decide +kernel
theorem g5E:(q6A 224=3∧q7A 224=1)∧(q6A 237=3∧q7A 237=2)∧(q6A 240=4∧q7A 240=3)∧(q6A 244=4∧q7A 244=4):=by decide +kernel
theorem g6E:(l3A.getD 0 (0,0)=(128,191))∧(l3A.getD 1 (0,0)=(160,191))∧(l3A.getD 2 (0,0)=(128,159))∧(l3A.getD 3 (0,0)=(144,191))∧(l3A.getD 4 (0,0)=(128,143)):=by decide +kernel
theorem g7E:∀ a,a<16→l3A.getD a (0,0)=(((l3A.getD a (0,0)).1.toNat:Int),((l3A.getD a (0,0)).2.toNat:Int)):=by decide +kernel
def okN (s:ByteArray) (lo hi:Nat):Nat→Prop
 | 2=>2≤s.size∧lo≤by8 s 1∧by8 s 1≤hi
 | 3=>3≤s.size∧lo≤by8 s 1∧by8 s 1≤hi∧128≤by8 s 2∧by8 s 2≤191
 | 4=>4≤s.size∧lo≤by8 s 1∧by8 s 1≤hi∧128≤by8 s 2∧by8 s 2≤191∧128≤by8 s 3∧by8 s 3≤191
 | _=>False
instance (s:ByteArray) (lo hi n:Nat):Decidable (okN s lo hi n):=by unfold okN; split <;> infer_instance
theorem g8E {s:ByteArray} (h0:0<s.size) (hx:128≤by8 s 0) {lo hi:Nat} (ht:l3A.getD (q7A (by8 s 0)) (0,0)=((lo:Int),(hi:Int))) :
  p5A (s,())=if okN s lo hi (q6A (by8 s 0)) then some (.inl (sfx s (q6A (by8 s 0)),())) else some (.inr (.inr (false,()))):=by
 have b0:=f4B s 0
 obtain ⟨f1,f2,f3⟩:=j9D (by8 s 0) b0
 have en:(((s.data.getD 0 0).toNat:Int)).toNat=by8 s 0:=rfl
 have hxi:decide (((s.data.getD 0 0).toNat:Int)<128)=false:=Am (show ¬ (by8 s 0:Int)<128 by omega)
 have hxw:a7A ((s.data.getD 0 0).toNat:Int) 256=true:=w0A.2 ⟨show (0:Int)≤(by8 s 0:Int) by omega,show (by8 s 0:Int)<_ by omega⟩
 have haw:a7A ((q7A (by8 s 0):Nat):Int) 16=true:=w0A.2 ⟨by omega,by omega⟩
 have ea:(((q7A (by8 s 0):Nat):Int)).toNat=q7A (by8 s 0):=rfl
 have g1:((s.data.getD 1 0).toNat:Int)=(by8 s 1:Int):=rfl
 have g2:((s.data.getD 2 0).toNat:Int)=(by8 s 2:Int):=rfl
 have g3:((s.data.getD 3 0).toNat:Int)=(by8 s 3:Int):=rfl
 have hc:q6A (by8 s 0)<8:=Nat.mod_lt _ (by decide)
 have step:∀ {r},r=p5A (s,())→r=p5A (s,()):=id
 unfold p5A
 simp only [Ah (show (s.size:Int)>0 by omega),Al,w0A.2 (show (0:Int)≤0∧(0:Int)<(s.size:Int) by omega),hxi,Ai,hxw,en,f1,f2,haw,ea,ht,g1,g2,g3]
 generalize q6A (by8 s 0)=c at hc ⊢
 by_cases c2:c=2
 ·subst c2
  rw [eT (show ((2:Nat):Int)=2 from rfl)]
  by_cases hz:s.size<2
  ·rw [Ae (fun q=>by have:=q.1; omega)]
   simp only [Ah (show (s.size:Int)<2 by omega),Al,Aa]
  ·simp only [Am (show ¬ (s.size:Int)<2 by omega),Ai,w0A.2 (show (0:Int)≤1∧(1:Int)<(s.size:Int) by omega),Al]
   by_cases h1:by8 s 1<lo
   ·rw [Ae (fun q=>by have:=q.2.1; omega)]
    simp only [Ah (show (by8 s 1:Int)<(lo:Int) by omega),Al,Aa]
   ·simp only [Am (show ¬ (by8 s 1:Int)<(lo:Int) by omega),Ai,Aa]
    by_cases h2:hi<by8 s 1
    ·rw [Ae (fun q=>by have:=q.2.2; omega)]
     simp only [Ah (show (hi:Int)<(by8 s 1:Int) by omega),Al]
    ·rw [Aj ⟨by omega,by omega,by omega⟩]
     simp only [Am (show ¬ (hi:Int)<(by8 s 1:Int) by omega),Ai]
     rw [gT (by omega) (by omega) (by omega),Ao]
 ·rw [eF (by omega)]
  by_cases c3:c=3
  ·subst c3
   rw [eT (show ((3:Nat):Int)=3 from rfl)]
   by_cases hz:s.size<3
   ·rw [Ae (fun q=>by have:=q.1; omega)]
    simp only [Ah (show (s.size:Int)<3 by omega),Al,Aa]
   ·simp only [Am (show ¬ (s.size:Int)<3 by omega),Ai,w0A.2 (show (0:Int)≤1∧(1:Int)<(s.size:Int) by omega),w0A.2 (show (0:Int)≤2∧(2:Int)<(s.size:Int) by omega),Al]
    by_cases h1:by8 s 1<lo
    ·rw [Ae (fun q=>by have:=q.2.1; omega)]
     simp only [Ah (show (by8 s 1:Int)<(lo:Int) by omega),Al,Aa]
    ·simp only [Am (show ¬ (by8 s 1:Int)<(lo:Int) by omega),Ai]
     by_cases h2:hi<by8 s 1
     ·rw [Ae (fun q=>by have:=q.2.2.1; omega)]
      simp only [Ah (show (hi:Int)<(by8 s 1:Int) by omega),Al,Aa]
     ·simp only [Am (show ¬ (hi:Int)<(by8 s 1:Int) by omega),Ai]
      by_cases h3:by8 s 2<128
      ·rw [Ae (fun q=>by have:=q.2.2.2.1; omega)]
       simp only [Ah (show (by8 s 2:Int)<128 by omega),Al,Aa]
      ·simp only [Am (show ¬ (by8 s 2:Int)<128 by omega),Ai,Aa]
       by_cases h4:191<by8 s 2
       ·rw [Ae (fun q=>by have:=q.2.2.2.2; omega)]
        simp only [Ah (show (191:Int)<(by8 s 2:Int) by omega),Al]
       ·rw [Aj ⟨by omega,by omega,by omega,by omega,by omega⟩]
        simp only [Am (show ¬ (191:Int)<(by8 s 2:Int) by omega),Ai]
        rw [gT (by omega) (by omega) (by omega),Ao]
  ·rw [eF (by omega)]
   by_cases c4:c=4
   ·subst c4
    rw [eT (show ((4:Nat):Int)=4 from rfl)]
    by_cases hz:s.size<4
    ·rw [Ae (fun q=>by have:=q.1; omega)]
     simp only [Ah (show (s.size:Int)<4 by omega),Al,Aa]
    ·simp only [Am (show ¬ (s.size:Int)<4 by omega),Ai,w0A.2 (show (0:Int)≤1∧(1:Int)<(s.size:Int) by omega),w0A.2 (show (0:Int)≤2∧(2:Int)<(s.size:Int) by omega),w0A.2 (show (0:Int)≤3∧(3:Int)<(s.size:Int) by omega),Al]
     by_cases h1:by8 s 1<lo
     ·rw [Ae (fun q=>by have:=q.2.1; omega)]
      simp only [Ah (show (by8 s 1:Int)<(lo:Int) by omega),Al,Aa]
     ·simp only [Am (show ¬ (by8 s 1:Int)<(lo:Int) by omega),Ai]
      by_cases h2:hi<by8 s 1
      ·rw [Ae (fun q=>by have:=q.2.2.1; omega)]
       simp only [Ah (show (hi:Int)<(by8 s 1:Int) by omega),Al,Aa]
      ·simp only [Am (show ¬ (hi:Int)<(by8 s 1:Int) by omega),Ai]
       by_cases h3:by8 s 2<128
       ·rw [Ae (fun q=>by have:=q.2.2.2.1; omega)]
        simp only [Ah (show (by8 s 2:Int)<128 by omega),Al,Aa]
       ·simp only [Am (show ¬ (by8 s 2:Int)<128 by omega),Ai]
        by_cases h4:191<by8 s 2
        ·rw [Ae (fun q=>by have:=q.2.2.2.2.1; omega)]
         simp only [Ah (show (191:Int)<(by8 s 2:Int) by omega),Al,Aa]
        ·simp only [Am (show ¬ (191:Int)<(by8 s 2:Int) by omega),Ai]
         by_cases h5:by8 s 3<128
         ·rw [Ae (fun q=>by have:=q.2.2.2.2.2.1; omega)]
          simp only [Ah (show (by8 s 3:Int)<128 by omega),Al,Aa]
         ·simp only [Am (show ¬ (by8 s 3:Int)<128 by omega),Ai,Aa]
          by_cases h6:191<by8 s 3
          ·rw [Ae (fun q=>by have:=q.2.2.2.2.2.2; omega)]
           simp only [Ah (show (191:Int)<(by8 s 3:Int) by omega),Al]
          ·rw [Aj ⟨by omega,by omega,by omega,by omega,by omega,by omega,by omega⟩]
           simp only [Am (show ¬ (191:Int)<(by8 s 3:Int) by omega),Ai]
           rw [gT (by omega) (by omega) (by omega),Ao]
   ·rw [eF (by omega),Ae]
    match c,hc,c2,c3,c4 with
    | 0,_,_,_,_=>exact id
    | 1,_,_,_,_=>exact id
    | 5,_,_,_,_=>exact id
    | 6,_,_,_,_=>exact id
    | 7,_,_,_,_=>exact id
theorem g9E {s:ByteArray} (h0:0<s.size) (hx:128≤by8 s 0):p5A (s,())=if (e8A s).2=0 then some (.inr (.inr (false,()))) else some (.inl (sfx s (e8A s).2,())):=by
 have b0:=f4B s 0
 have b1:=f4B s 1
 have b2:=f4B s 2
 have b3:=f4B s 3
 obtain ⟨a0,a1,a2,a3,a4⟩:=g6E
 obtain ⟨c2,c4,c5,c7⟩:=g5E
 have fin:∀ {lo hi n:Nat},l3A.getD (q7A (by8 s 0)) (0,0)=((lo:Int),(hi:Int))→q6A (by8 s 0)=n→(okN s lo hi n→(e8A s).2=n∧n≠0)→(¬ okN s lo hi n→(e8A s).2=0) →
   p5A (s,())=if (e8A s).2=0 then some (.inr (.inr (false,()))) else some (.inl (sfx s (e8A s).2,())):=by
  intro lo hi n ht hc hy hn
  rw [g8E h0 hx ht,hc]
  by_cases k:okN s lo hi n
  ·obtain ⟨e1,e2⟩:=hy k
   rw [Aj k,e1,Ae e2]
  ·rw [Ae k,hn k,Aj rfl]
 have n0:¬ by8 s 0<128:=by omega
 have f2:194≤by8 s 0→by8 s 0<224→e8A s=if co s 1 then (two s,2) else (0,0):=fun p q=>by unfold e8A; rw [Ae n0,Aj ⟨p,q⟩]
 have f3:224≤by8 s 0→by8 s 0<240→e8A s=if co s 1∧co s 2∧2048≤m5A s∧¬ (55296≤m5A s∧m5A s<57344) then (m5A s,3) else (0,0):=fun p q=>by
  unfold e8A; rw [Ae n0,Ae (by omega),Aj ⟨p,q⟩]
 have f4:240≤by8 s 0→by8 s 0<245→e8A s=if co s 1∧co s 2∧co s 3∧65536≤q5A s∧q5A s≤1114111 then (q5A s,4) else (0,0):=fun p q=>by
  unfold e8A; rw [Ae n0,Ae (by omega),Ae (by omega),Aj ⟨p,q⟩]
 have t3:m5A s=by8 s 0 % 16*4096+by8 s 1 % 64*64+by8 s 2 % 64:=by unfold m5A; omega
 have t4:q5A s=by8 s 0 % 8*262144+by8 s 1 % 64*4096+by8 s 2 % 64*64+by8 s 3 % 64:=by unfold q5A; omega
 have three_of:∀ {lo hi:Nat},224≤by8 s 0→by8 s 0<240→(by8 s 1 / 64=2→by8 s 2 / 64=2→((lo≤by8 s 1∧by8 s 1≤hi)↔2048≤m5A s∧¬ (55296≤m5A s∧m5A s<57344)))→128≤lo→hi≤191 →
   (okN s lo hi 3→(e8A s).2=3∧3≠0)∧(¬ okN s lo hi 3→(e8A s).2=0):=by
  intro lo hi p q hh hlo hhi
  rw [f3 p q]
  refine ⟨fun k => ?_,fun k => ?_⟩
  ·obtain ⟨k1,k2,k3,k4,k5⟩:=k
   have:=(hh (by omega) (by omega)).1 ⟨k2,k3⟩
   rw [Aj ⟨⟨by omega,by omega⟩,⟨by omega,by omega⟩,this⟩]
   exact ⟨rfl,by decide⟩
  ·rw [Ae fun r => ?_]
   obtain ⟨⟨r1,r2⟩,⟨r3,r4⟩,r5⟩:=r
   have:=(hh r2 r4).2 r5
   exact k ⟨by omega,this.1,this.2,by omega,by omega⟩
 have four_of:∀ {lo hi:Nat},240≤by8 s 0→by8 s 0<245→(by8 s 1 / 64=2→by8 s 2 / 64=2→by8 s 3 / 64=2→((lo≤by8 s 1∧by8 s 1≤hi)↔65536≤q5A s∧q5A s≤1114111))→128≤lo→hi≤191 →
   (okN s lo hi 4→(e8A s).2=4∧4≠0)∧(¬ okN s lo hi 4→(e8A s).2=0):=by
  intro lo hi p q hh hlo hhi
  rw [f4 p q]
  refine ⟨fun k => ?_,fun k => ?_⟩
  ·obtain ⟨k1,k2,k3,k4,k5,k6,k7⟩:=k
   have:=(hh (by omega) (by omega) (by omega)).1 ⟨k2,k3⟩
   rw [Aj ⟨⟨by omega,by omega⟩,⟨by omega,by omega⟩,⟨by omega,by omega⟩,this⟩]
   exact ⟨rfl,by decide⟩
  ·rw [Ae fun r => ?_]
   obtain ⟨⟨r1,r2⟩,⟨r3,r4⟩,⟨r5,r6⟩,r7⟩:=r
   have:=(hh r2 r4 r6).2 r7
   exact k ⟨by omega,this.1,this.2,by omega,by omega,by omega,by omega⟩
 by_cases k1:by8 s 0<194∨244<by8 s 0
 ·have hc:=g4E _ b0 hx k1
  have hz:(e8A s).2=0:=by unfold e8A; rw [Ae n0,Ae (by omega),Ae (by omega),Ae (by omega)]
  have ht:=g7E _ (j9D _ b0).2.2
  exact fin ht hc (fun k=>k.elim) (fun _=>hz)
 ·by_cases k2:by8 s 0<224
  ·obtain ⟨d1,d2⟩:=g1E _ b0 (by omega) k2
   refine fin (lo:=128) (hi:=191) (by rw [d2]; exact a0) d1 (fun k => ?_) (fun k => ?_)
   ·obtain ⟨k1,k2,k3⟩:=k
    rw [f2 (by omega) (by omega),Aj ⟨by omega,by omega⟩]
    exact ⟨rfl,by decide⟩
   ·rw [f2 (by omega) (by omega),Ae fun r=>k ⟨by have:=r.1; omega,by have:=r.2; omega,by have:=r.2; omega⟩]
  ·by_cases k3:by8 s 0<240
   ·by_cases k4:by8 s 0=224
    ·have hh:=three_of (lo:=160) (hi:=191) (by omega) k3 (fun p q=>by rw [t3,k4]; omega) (by decide) (by decide)
     exact fin (by rw [k4,c2.2]; exact a1) (by rw [k4]; exact c2.1) hh.1 hh.2
    ·by_cases k5:by8 s 0=237
     ·have hh:=three_of (lo:=128) (hi:=159) (by omega) k3 (fun p q=>by rw [t3,k5]; omega) (by decide) (by decide)
      exact fin (by rw [k5,c4.2]; exact a2) (by rw [k5]; exact c4.1) hh.1 hh.2
     ·obtain ⟨d1,d2⟩:=g2E _ b0 (by omega) k3 k5
      have hh:=three_of (lo:=128) (hi:=191) (by omega) k3 (fun p q=>by rw [t3]; omega) (by decide) (by decide)
      exact fin (by rw [d2]; exact a0) d1 hh.1 hh.2
   ·by_cases k4:by8 s 0=240
    ·have hh:=four_of (lo:=144) (hi:=191) (by omega) (by omega) (fun p q r=>by rw [t4,k4]; omega) (by decide) (by decide)
     exact fin (by rw [k4,c5.2]; exact a3) (by rw [k4]; exact c5.1) hh.1 hh.2
    ·by_cases k5:by8 s 0=244
     ·have hh:=four_of (lo:=128) (hi:=143) (by omega) (by omega) (fun p q r=>by rw [t4,k5]; omega) (by decide) (by decide)
      exact fin (by rw [k5,c7.2]; exact a4) (by rw [k5]; exact c7.1) hh.1 hh.2
     ·obtain ⟨d1,d2⟩:=g3E _ b0 (by omega) (by omega)
      have hh:=four_of (lo:=128) (hi:=191) (by omega) (by omega) (fun p q r=>by rw [t4]; omega) (by decide) (by decide)
      exact fin (by rw [d2]; exact a0) d1 hh.1 hh.2
theorem h0E (s:ByteArray):d9C s=some (e6A s).isSome:=by
 obtain ⟨r,h1,h2⟩:=f3B (f:=p5A) (fun x=>x.1.size) (fun x=>(e6A x.1).isSome=(e6A s).isSome)
  (fun r=>match r with
   | .inl _=>(e6A s).isSome=true
   | .inr (b,_)=>b=false∧(e6A s).isSome=false) (fun x hx=>by
  obtain ⟨t,u⟩:=x
  have hx:(e6A t).isSome=(e6A s).isSome:=hx
  by_cases h0:t.size=0
  ·right
   refine ⟨.inl (),by simp (disch:=omega) only [p5A,dF],?_⟩
   show (e6A s).isSome=true
   rw [←hx,j8D h0]; rfl
  ·by_cases hl:by8 t 0<128
   ·obtain ⟨v,e1,e2,e3⟩:=g0E (s:=t) (by omega) hl
    exact .inl ⟨(v,()),e1,e3.trans hx,e2⟩
   ·have e:=g9E (s:=t) (by omega) (by omega)
    by_cases hk:(e8A t).2=0
    ·right
     rw [Aj hk] at e
     exact ⟨.inr (false,()),e,rfl,by rw [←hx,s3C h0 hk]; rfl⟩
    ·left
     rw [Ae hk] at e
     have hz:=o4A t (e8A t).2
     have hp:=s2C hk
     refine ⟨(sfx t (e8A t).2,()),e,?_,by show (sfx t (e8A t).2).size<t.size; omega⟩
     show (e6A (sfx t (e8A t).2)).isSome=_
     rw [←hx,g3C h0 hk,Option.isSome_map]) (s,()) rfl
 unfold d9C
 rw [h1]
 match r,h2 with
 | .inl (),e=>simp only [Aa,show (e6A s).isSome=true from e]
 | .inr (b,()),⟨e1,e2⟩=>simp only [Aa,e1,e2]
end Go.Sq
namespace Go.Sq
open Go.Rx
theorem h1E (v:Nat):u3B (v:Int)=some (j7B v):=by
 unfold u3B j7B
 by_cases h:32≤v
 ·simp (disch:=omega) only [dT,Al,Ah h,Cs]
  congr 1
  by_cases h2:v=127
  ·subst h2; rfl
  ·rw [bne_iff_ne.2 h2]
   exact bne_iff_ne.2 (by omega)
 ·simp (disch:=omega) only [dF,Ai,Am h,Bh]
theorem k0D {s:ByteArray} (hs:s.size≤9223372036854775807):u4B s=some (w2A s):=by
 obtain ⟨r,h1,h2⟩:=f3B (f:=v8B) (fun x=>s.size - x.2.2.1.2.toNat)
  (fun x=>x.1=s∧x.2.2.1.1=s∧∃ p m:Nat,x.2.2.1.2=(p:Int)∧x.2.1=(m:Int)∧m≤p∧(e6A s=none∨(p≤s.size∧∃ l1:List Nat,m=l1.length∧l1.all j7B=true∧e6A s=(e6A (sfx s p)).map (l1++·))))
  (fun r=>match r with
   | .inl (t,m,_)=>t=s∧(e6A s=none∨∃ l:List Nat,e6A s=some l∧m=(l.length:Int)∧l.all j7B=true)
   | .inr (b,_)=>b=false∧w2A s=false) (fun x hx=>by
   obtain ⟨t,mm,⟨t',pp⟩,u⟩:=x
   obtain ⟨e1,e2,p,m,e3,e4,hmp,hI⟩:=hx
   have e1:t=s:=e1
   have e2:t'=s:=e2
   have e3:pp=(p:Int):=e3
   have e4:mm=(m:Int):=e4
   subst e1 e2 e3 e4
   by_cases h0:p<t'.size
   ·have hd:u3B (f6C t' p)=some (j7B (Utf8.decode t' p).1):=h1E _
    have hl:=f6E t' p
    by_cases hcl:j7B (Utf8.decode t' p).1=true
    ·left
     have ws:IntKind.i64.wrap ((m:Int)+1)=((m+1:Nat):Int):=by rw [b8A (by omega) (by omega)]; rfl
     refine ⟨(t',((m+1:Nat):Int),(t',((p+q4A t' p:Nat):Int)),()),?_,⟨rfl,rfl,p+q4A t' p,m+1,rfl,rfl,by omega,?_⟩,?_⟩
     ·simp (disch:=omega) only [v8B,Ao,Ah h0,Al,hd,Aa,hcl,Cc,Ai,ws,Int.natCast_add]
     ·rcases hI with h | ⟨hp,l1,hm,hc,hr⟩
      ·exact .inl h
      ·have z:=o4A t' p
       by_cases hk:(e8A (sfx t' p)).2=0
       ·left; rw [hr,s3C (by omega) hk]; rfl
       ·right
        have hdec:=j7D h0 hk
        have hp2:=(s2C hk).2.2 (by omega)
        have hrl:q4A t' p=(e8A (sfx t' p)).2:=by unfold q4A; rw [hdec]
        rw [hdec] at hcl
        refine ⟨by omega,l1++[(e8A (sfx t' p)).1],by simp [hm],by rw [List.all_append,hc]; simp [hcl],?_⟩
        rw [hr,g3C (by omega) hk,Option.map_map,s1C,hrl]
        congr 1
        funext q
        simp
     ·show t'.size - ((p+q4A t' p:Nat):Int).toNat<t'.size - (p:Int).toNat
      omega
    ·right
     rw [Bool.not_eq_true] at hcl
     refine ⟨.inr (false,()),?_,rfl,?_⟩
     ·simp (disch:=omega) only [v8B,Ao,Ah h0,Al,hd,Aa,hcl,Cr]
     ·unfold w2A
      rcases hI with h | ⟨hp,l1,hm,hc,hr⟩
      ·rw [h]
      ·have z:=o4A t' p
       by_cases hk:(e8A (sfx t' p)).2=0
       ·rw [hr,s3C (by omega) hk]; rfl
       ·rw [j7D h0 hk] at hcl
        rw [hr,g3C (by omega) hk]
        cases e6A (sfx (sfx t' p) (e8A (sfx t' p)).2) with
        | none=>rfl
        | some q =>
         simp only [Option.map_some,List.all_append,List.all_cons,hc,Cs,hcl,Bh]
   ·right
    refine ⟨.inl (t',(m:Int),()),?_,rfl,?_⟩
    ·simp (disch:=omega) only [v8B,Ao,Am h0,Ai]
    ·rcases hI with h | ⟨hp,l1,hm,hc,hr⟩
     ·exact .inl h
     ·right
      have z:=o4A t' p
      exact ⟨l1,by rw [hr,j8D (by omega),Option.map_some,Bc],by omega,hc⟩) (s,0,(s,0),()) ⟨rfl,rfl,0,0,rfl,rfl,Ay _,.inr ⟨De _,[],rfl,rfl,by rw [j6D]; cases e6A s <;> simp⟩⟩
 unfold u4B
 rw [h1]
 match r,h2 with
 | .inl (t,m,()),⟨e0,h⟩ =>
  subst e0
  simp only [Aa,h0E]
  unfold w2A
  rcases h with h | ⟨l,e1,e2,e3⟩
  ·rw [h]; cases decide (m≤16) <;> rfl
  ·rw [e1,e2]
   by_cases h16:l.length≤16
   ·simp (disch:=omega) only [dT,Al,Ah h16,e3]; rfl
   ·simp (disch:=omega) only [dF,Ai,Am h16,Bw]
 | .inr (b,()),⟨e1,e2⟩=>simp only [Aa,e1,e2]
end Go.Sq
namespace Go.Sq
open Go.Rx
abbrev Msg:=Int×Int×Int×Int×Int×Int×Int×Int×ByteArray×List Int
def nO (x:Int):Bool:=decide (x≥0)&&decide (x≤1073741824)
def okM (m:Msg):Bool:=
 decide (m.1≥1)&&decide (m.1≤15)&&decide ((m.2.2.2.2.2.2.2.2.2.length:Int)≤64)&&((m.1==13)==decide ((m.2.2.2.2.2.2.2.2.2.length:Int)>0)) &&
 nO m.2.1&&nO m.2.2.1&&nO m.2.2.2.1&&nO m.2.2.2.2.1&&nO m.2.2.2.2.2.1&&nO m.2.2.2.2.2.2.1&&nO m.2.2.2.2.2.2.2.1 &&
 (bif m.1==1||m.1==9||m.1==5 then w2A m.2.2.2.2.2.2.2.2.1 else p3B m.2.2.2.2.2.2.2.2.1 (ByteArray.mk #[]))
def err (b:Bool):Int:=bif b then 0 else 1
theorem h2E {M R:Type} (b p q:Bool) (m:M) (k:Bool×M×Unit→Option R) :
  ((bif b then bif p then some (q,m,()) else some (false,m,()) else some (false,m,())):Option (Bool×M×Unit)).bind k=k (b&&(p&&q),m,()):=by
 cases b <;> cases p <;> rfl
theorem s6C {m:Msg} (h:m.2.2.2.2.2.2.2.2.1.size≤9223372036854775807):b9B m=some (err (okM m)):=by
 have hn:=k0D h
 unfold b9B
 have e1:∀ k:Bool×Msg×Unit→Option Int,((bif (decide (m.1≥1)) then bif (decide (m.1≤15)) then bif (decide ((m.2.2.2.2.2.2.2.2.2.length:Int)≤64)) then
   some (((m.1==13)==(decide ((m.2.2.2.2.2.2.2.2.2.length:Int)>0))),m,()) else some (false,m,()) else some (false,m,()) else some (false,m,())):Option (Bool×Msg×Unit)).bind k =
   k (decide (m.1≥1)&&decide (m.1≤15)&&decide ((m.2.2.2.2.2.2.2.2.2.length:Int)≤64)&&((m.1==13)==decide ((m.2.2.2.2.2.2.2.2.2.length:Int)>0)),m,()):=by
  intro k
  cases decide (m.1≥1) <;> cases decide (m.1≤15) <;> cases decide ((m.2.2.2.2.2.2.2.2.2.length:Int)≤64) <;> rfl
 rw [e1]
 simp only [h2E]
 have e2:∀ {R:Type} (b:Bool) (k:Bool×Bool×Msg×Unit→Option R),((bif (m.1==1) then some (b,true,m,()) else bif (m.1==9) then some (b,true,m,()) else some (b,(m.1==5),m,())):Option (Bool×Bool×Msg×Unit)).bind k=k (b,m.1==1||m.1==9||m.1==5,m,()):=by
  intro R b k
  cases m.1==1 <;> cases m.1==9 <;> rfl
 simp only [e2,hn,Aa]
 unfold okM nO err
 generalize (decide (m.1≥1)&&decide (m.1≤15)&&decide ((m.2.2.2.2.2.2.2.2.2.length:Int)≤64)&&((m.1==13)==decide ((m.2.2.2.2.2.2.2.2.2.length:Int)>0)) &&
  (decide (m.2.1≥0)&&decide (m.2.1≤1073741824))&&(decide (m.2.2.1≥0)&&decide (m.2.2.1≤1073741824))&&(decide (m.2.2.2.1≥0)&&decide (m.2.2.2.1≤1073741824))&&(decide (m.2.2.2.2.1≥0)&&decide (m.2.2.2.2.1≤1073741824))&&(decide (m.2.2.2.2.2.1≥0)&&decide (m.2.2.2.2.2.1≤1073741824))&&(decide (m.2.2.2.2.2.2.1≥0)&&decide (m.2.2.2.2.2.2.1≤1073741824))&&(decide (m.2.2.2.2.2.2.2.1≥0)&&decide (m.2.2.2.2.2.2.2.1≤1073741824)))=b
 cases b <;> cases (m.1==1||m.1==9||m.1==5) <;> (first | rfl | (simp only [Al,Ai,Cs,Aa]; first | rfl | (cases w2A m.2.2.2.2.2.2.2.2.1 <;> rfl) | (cases p3B m.2.2.2.2.2.2.2.2.1 (ByteArray.mk #[]) <;> rfl)))
theorem l4F {s:ByteArray}:p3B s (ByteArray.mk #[])=decide (s.size=0):=by
 unfold p3B
 by_cases h:s.size=0
 ·rw [Ah h]
  have:s=ByteArray.mk #[]:=by
   have h':s.data.size=0:=h
   cases s with | mk d=>exact Cp ByteArray.mk (Array.eq_empty_of_size_eq_zero h')
  rw [this]; exact Dq _
 ·rw [Am h]
  apply Bg
  intro e
  have e2:=Cp List.length e
  rw [Go.ByteArray.toList_eq,Go.ByteArray.toList_eq] at e2
  exact h (by simpa using e2)
theorem l5F {s:ByteArray} (h:s.size=0):w2A s=true:=by unfold w2A; rw [j8D h]; rfl
end Go.Sq
namespace Go.Sq
open Go.Rx
def s5A {A S R:Type} (stp:S→A→S⊕R):S→List A→S⊕R
 | s,[]=>.inl s
 | s,a::l=>match stp s a with
  | .inl s'=>s5A stp s' l
  | .inr r=>.inr r
theorem k0B {X R R' A S:Type} {f:X→Option (X⊕R)} (l:List A) (st:Nat→S→X) (stp:S→A→S⊕R') (bad:R'→R) (fin:S→R)
  (h:∀ i a s,l[i]? = some a→f (st i s)=some (match stp s a with
   | .inl s'=>.inl (st (i+1) s')
   | .inr r=>.inr (bad r))) (he:∀ s,f (st l.length s)=some (.inr (fin s))) (s:S) :
  iter f (st 0 s)=some (match s5A stp s l with
   | .inl s'=>fin s'
   | .inr r=>bad r):=by
 have key:∀ (l2 l1:List A) (s:S),l=l1++l2→iter f (st l1.length s)=some (match s5A stp s l2 with
   | .inl s'=>fin s'
   | .inr r=>bad r):=by
  intro l2
  induction l2 with
  | nil =>
   intro l1 s e
   rw [Bc] at e
   rw [←e]
   exact m4A (he s)
  | cons a l2 ih =>
   intro l1 s e
   have:=h l1.length a s (by rw [e]; simp)
   unfold s5A
   cases hs:stp s a with
   | inl s' =>
    rw [hs] at this
    rw [l5A this]
    have:=ih (l1++[a]) s' (by rw [e]; simp)
    rwa [Ak,By] at this
   | inr r =>
    rw [hs] at this
    exact m4A this
 exact key l [] s rfl
theorem gD {A:Type} {l:List A} {i:Nat} {a:A} (h:l[i]? = some a) (d:A):l.getD i d=a:=by rw [Cd,h]; rfl
theorem g1A {A:Type} {l:List A} {i:Nat} {a:A} (h:l[i]? = some a):i<l.length:=(Cl.1 h).1
theorem k2F {A:Type} (p:A→Bool):∀ l:List A,s5A (fun (_:Unit) a=>bif p a then Sum.inl () else Sum.inr ()) () l=bif l.all p then .inl () else .inr ()
 | []=>rfl
 | a::l=>by
  rw [s5A,List.all_cons]
  cases h:p a with
  | true=>simp only [Al,Cs]; exact k2F p l
  | false=>simp only [Ai,Bh]
theorem l6F {a:Int} (h:0≤a) (h2:a≤1073741824):nO a=true:=by unfold nO; rw [Ah h,Ah h2]; rfl
theorem k3F {a:Int} (h:a<0∨1073741824<a):nO a=false:=by
 unfold nO
 rcases h with h | h
 ·rw [Am (by omega)]; rfl
 ·rw [Am (p:=a≤1073741824) (by omega),Bw]
theorem l7F {l:List Int} {m:Msg} (hl:l.length≤1000):iter i8F (l,(l.length:Int),0,m,())=some (bif l.all nO then .inl (m,()) else .inr (1,())):=by
 have:=k0B (f:=i8F) l (fun i _=>(l,(l.length:Int),(i:Int),m,())) (fun (_:Unit) a=>bif nO a then Sum.inl () else Sum.inr ()) (fun _=>.inr (1,())) (fun _=>.inl (m,()))
  (fun i a s hi=>by
   have hi2:=g1A hi
   have ws:IntKind.i64.wrap ((i:Int)+1)=((i+1:Nat):Int):=by rw [b8A (by omega) (by omega)]; rfl
   simp (disch:=omega) only [i8F,dT,wT,Ao,gD hi]
   by_cases h1:a<0
   ·simp (disch:=omega) only [dT,Al,Ai,Aa,k3F]
   ·by_cases h2:a>1073741824
    ·simp (disch:=omega) only [dF,Ah,Al,Ai,Aa,k3F]
    ·simp (disch:=omega) only [dF,Am,Al,Ai,Aa,l6F,ws])
  (fun s=>by simp (disch:=omega) only [i8F,dF]) ()
 rw [k2F] at this
 refine Eq.trans this ?_
 cases l.all nO <;> rfl
theorem l8F {m:Msg} (h:m.2.2.2.2.2.2.2.2.1.size≤9223372036854775807):j4F m=some (err (okM m)):=by
 have hn:=l3F h
 have hz:=@l4F m.2.2.2.2.2.2.2.2.1
 have hz2:=@l5F m.2.2.2.2.2.2.2.2.1
 unfold j4F okM err
 have hnum:j8F m=some [m.2.1,m.2.2.1,m.2.2.2.1,m.2.2.2.2.1,m.2.2.2.2.2.1,m.2.2.2.2.2.2.1,m.2.2.2.2.2.2.2.1]:=rfl
 by_cases h1:m.1<1
 ·simp (disch:=omega) only [dT,Am,Al,Ai,Aa,Bh]
 by_cases h2:m.1>15
 ·simp (disch:=omega) only [dT,dF,Am,Al,Ai,Aa,Bh,Bw]
 simp (disch:=omega) only [dT,dF,Ah,Al,Ai,Aa,hn,Cs]
 by_cases h3:(m.2.2.2.2.2.2.2.2.2.length:Int)>64
 ·cases hq:w2A m.2.2.2.2.2.2.2.2.1 <;> simp (disch:=omega) only [Ah,Am,Al,Ai,Aa,Cc,Cr,Bh]
 simp (disch:=omega) only [Am (p:=(m.2.2.2.2.2.2.2.2.2.length:Int)>64),Ah (p:=(m.2.2.2.2.2.2.2.2.2.length:Int)≤64),hnum,Aa,Cs]
 have hnn:=l7F (l:=[m.2.1,m.2.2.1,m.2.2.2.1,m.2.2.2.2.1,m.2.2.2.2.2.1,m.2.2.2.2.2.2.1,m.2.2.2.2.2.2.2.1]) (m:=m) (by simp)
 simp only [List.all_cons,List.all_nil,Bool.and_true] at hnn
 rw [hz]
 cases hq:w2A m.2.2.2.2.2.2.2.2.1 with
 | false =>
  have:decide (m.2.2.2.2.2.2.2.2.1.size=0)=false:=Am fun e=>by rw [hz2 e] at hq; cases hq
  simp only [this,Cr,Al,Aa]
  cases (m.1==1||m.1==9||m.1==5) <;> simp only [Al,Ai,Bw]
 | true =>
  simp only [Cc,Ai,Aa,hnum,hnn]
  simp only [Eo]
  have ra:∀ x:Bool,(nO m.2.1&&(nO m.2.2.1&&(nO m.2.2.2.1&&(nO m.2.2.2.2.1&&(nO m.2.2.2.2.2.1&&(nO m.2.2.2.2.2.2.1&&(nO m.2.2.2.2.2.2.2.1&&x)))))))=((nO m.2.1&&(nO m.2.2.1&&(nO m.2.2.2.1&&(nO m.2.2.2.2.1&&(nO m.2.2.2.2.2.1&&(nO m.2.2.2.2.2.2.1&&nO m.2.2.2.2.2.2.2.1))))))&&x):=fun x=>by simp only [Eo]
  rw [ra]
  generalize (nO m.2.1&&(nO m.2.2.1&&(nO m.2.2.2.1&&(nO m.2.2.2.2.1&&(nO m.2.2.2.2.2.1&&(nO m.2.2.2.2.2.2.1&&nO m.2.2.2.2.2.2.2.1))))))=b at *
  cases b with
  | false=>simp only [Ai,Aa,Bh,Bw]
  | true =>
   have e2:∀ {R:Type} (k:Bool×Msg×Unit→Option R),((bif (m.1==1) then some (true,m,()) else bif (m.1==9) then some (true,m,()) else some ((m.1==5),m,())):Option (Bool×Msg×Unit)).bind k=k (m.1==1||m.1==9||m.1==5,m,()):=by
    intro R k
    cases m.1==1 <;> cases m.1==9 <;> rfl
   simp only [Al,Aa,Cs,e2,hz]
   generalize decide (m.2.2.2.2.2.2.2.2.1.size=0)=c
   generalize decide ((m.2.2.2.2.2.2.2.2.2.length:Int)>0)=d
   generalize (m.1==13)=g
   generalize (m.1==1||m.1==9||m.1==5)=e
   cases e <;> cases c <;> cases d <;> cases g <;> rfl
end Go.Sq
namespace Go.Sq
open Go.Rx
theorem h3E {X R R' A S:Type} {f:X→Option (X⊕R)} (Inv:S→Prop) (l:List A) (st:Nat→S→X) (stp:S→A→S⊕R') (bad:R'→R) (fin:S→R)
  (h:∀ i a s,l[i]? = some a→Inv s→f (st i s)=some (match stp s a with
   | .inl s'=>.inl (st (i+1) s')
   | .inr r=>.inr (bad r))) (hI:∀ (i:Nat) a s s',l[i]? = some a→Inv s→stp s a=.inl s'→Inv s') (he:∀ s,f (st l.length s)=some (.inr (fin s))) (s:S) (h0:Inv s) :
  iter f (st 0 s)=some (match s5A stp s l with
   | .inl s'=>fin s'
   | .inr r=>bad r):=by
 have key:∀ (l2 l1:List A) (s:S),Inv s→l=l1++l2→iter f (st l1.length s)=some (match s5A stp s l2 with
   | .inl s'=>fin s'
   | .inr r=>bad r):=by
  intro l2
  induction l2 with
  | nil =>
   intro l1 s _ e
   rw [Bc] at e
   rw [←e]
   exact m4A (he s)
  | cons a l2 ih =>
   intro l1 s h0 e
   have hg:l[l1.length]? = some a:=by rw [e]; simp
   have:=h l1.length a s hg h0
   unfold s5A
   cases hs:stp s a with
   | inl s' =>
    rw [hs] at this
    rw [l5A this]
    have:=ih (l1++[a]) s' (hI _ _ _ _ hg h0 hs) (by rw [e]; simp)
    rwa [Ak,By] at this
   | inr r =>
    rw [hs] at this
    exact m4A this
 exact key l [] s h0 rfl
def okL {P A:Type} (q:P→A→Bool) (nxt:A→P):P→List A→Bool
 | _,[]=>true
 | p,a::l=>q p a&&okL q nxt (nxt a) l
theorem k1B {P A:Type} (q:P→A→Bool) (nxt:A→P):∀ (l:List A) (b:Bool) (p:P),∃ p':P,s5A (fun (x:Bool×P) a=>(Sum.inl (x.1&&q x.2 a,nxt a):(Bool×P)⊕Unit)) (b,p) l=.inl (b&&okL q nxt p l,p')
 | [],b,p=>⟨p,by rw [okL,Bool.and_true]; rfl⟩
 | a::l,b,p=>by
  obtain ⟨p',h⟩:=k1B q nxt l (b&&q p a) (nxt a)
  exact ⟨p',by rw [s5A,okL,←Eo]; exact h⟩
abbrev Snd:=Int×Msg×Int×Int
abbrev Hrd:=Int×Int×List Int
abbrev RS:=Int×List Snd×List Hrd
def k0A (nx p:Int) (s:Snd):Bool:=
 (decide (p<s.1)&&decide (s.1<nx))&&(s.2.1.2.2.2.2.1==s.1)&&(decide (s.2.2.1≥0)&&decide (s.2.2.1≤4))&&(decide (s.2.2.2≥0)&&decide (s.2.2.2≤2199023255552))&&okM s.2.1
def j9A (p x:Int):Bool:=decide (x>p)&&decide (x≤1073741824)
def l6A (p:Int) (h:Hrd):Bool:=
 decide (h.1>p)&&decide (h.1≤1073741824)&&(decide (h.2.1≥0)&&decide (h.2.1≤1073741825))&&decide ((h.2.2.length:Int)≤16)&&okL j9A (·) h.2.1 h.2.2
def okW (w:RS):Bool:=
 (decide (w.1≥1)&&decide (w.1≤1073741824))&&decide ((w.2.1.length:Int)≤64)&&decide ((w.2.2.length:Int)≤64)&&okL (k0A w.1) (·.1) 0 w.2.1&&okL l6A (·.1) (-1) w.2.2
def szM (m:Msg):Prop:=m.2.2.2.2.2.2.2.2.1.size≤9223372036854775807∧m.2.2.2.2.2.2.2.2.2.length≤9223372036854775807
def szW (w:RS):Prop:=w.2.1.length≤9223372036854775807∧(∀ s∈w.2.1,szM s.2.1)∧w.2.2.length≤9223372036854775807∧∀ h∈w.2.2,h.2.2.length≤9223372036854775807
theorem w5A (a b c:Int):m3A a b c=some (decide (a≥b)&&decide (a≤c)):=by
 unfold m3A
 by_cases h:a≥b
 ·rw [Ah h]; rfl
 ·rw [Am h]; rfl
theorem h6A {A:Type} {l:List A} {i:Nat} {a:A} (h:l[i]? = some a):a∈l:=List.mem_of_getElem? h
theorem h4E {b:Bool} {w:RS} {l:List Snd} (hl:l.length≤9223372036854775807) (hs:∀ s∈l,szM s.2.1) (hw:b=true→1≤w.1∧w.1≤1073741824) :
  iter p4B (b,0,l,(l.length:Int),0,w,())=some (b&&okL (k0A w.1) (·.1) 0 l,w,()):=by
 have:=h3E (f:=p4B) (fun x:Bool×Int=>x.1=true→(1≤w.1∧w.1≤1073741824)∧0≤x.2∧x.2<1073741824) l (fun i x=>(x.1,x.2,l,(l.length:Int),(i:Int),w,())) (fun (x:Bool×Int) a=>(Sum.inl (x.1&&k0A w.1 x.2 a,a.1):(Bool×Int)⊕Unit)) (fun _=>(false,w,())) (fun x=>(x.1,w,()))
  (fun i a x hi hI=>by
   obtain ⟨ok,p⟩:=x
   have hi2:=g1A hi
   have ws:IntKind.i64.wrap ((i:Int)+1)=((i+1:Nat):Int):=by rw [b8A (by omega) (by omega)]; rfl
   have hc:=s6C (hs a (h6A hi)).1
   cases ok with
   | false=>simp (disch:=omega) only [p4B,dT,wT,Ao,gD hi,Ai,Aa,ws,Bh]
   | true =>
    obtain ⟨⟨w1,w2⟩,p1,p2⟩:=hI rfl
    have p1:0≤p:=p1
    have p2:p<1073741824:=p2
    have wa:IntKind.i64.wrap (p+1)=p+1:=b8A (by omega) (by omega)
    have wb:IntKind.i64.wrap (w.1 - 1)=w.1 - 1:=b8A (by omega) (by omega)
    simp (disch:=omega) only [p4B,dT,wT,Ao,gD hi,Al,Aa,ws,Cs,w5A,wa,wb,hc]
    have c1:decide (a.1≥p+1)=decide (p<a.1):=decide_eq_decide.2 (by omega)
    have c2:decide (a.1≤w.1 - 1)=decide (a.1<w.1):=decide_eq_decide.2 (by omega)
    rw [c1,c2,←ws]
    unfold k0A err
    generalize (decide (p<a.1)&&decide (a.1<w.1))=b1
    generalize (a.2.1.2.2.2.2.1==a.1)=b2
    generalize (decide (a.2.2.1≥0)&&decide (a.2.2.1≤4))=b3
    generalize (decide (a.2.2.2≥0)&&decide (a.2.2.2≤2199023255552))=b4
    generalize okM a.2.1=b5
    cases b1 <;> cases b2 <;> cases b3 <;> cases b4 <;> cases b5 <;> rfl)
  (fun i a x s' hi hI e=>by
   obtain ⟨ok,p⟩:=x
   cases e
   intro ho
   have ho:(ok&&k0A w.1 p a)=true:=ho
   rw [Ac] at ho
   obtain ⟨hw',_,_⟩:=hI ho.1
   have h2:=ho.2
   unfold k0A at h2
   simp only [Ac,Au] at h2
   refine ⟨hw',?_,?_⟩
   ·show 0≤a.1
    have:=(hI ho.1).2.1
    have:0≤p:=this
    omega
   ·show a.1<1073741824
    omega)
  (fun s=>by simp (disch:=omega) only [p4B,dF]) (b,0) (fun h=>⟨hw h,Df 0,by show (0:Int)<1073741824; decide⟩)
 obtain ⟨p',e⟩:=k1B (k0A w.1) (·.1) l b 0
 rw [e] at this
 exact this
end Go.Sq
namespace Go.Sq
open Go.Rx
theorem h5E {b:Bool} {a p:Int} {h:List Hrd} {n i:Int} {l:List Int} (hl:l.length≤9223372036854775807) :
  ∃ q,iter p5B (b,a,p,h,n,i,l,(l.length:Int),0,())=some (b&&okL j9A (·) p l,a,h,n,i,())∧q=p:=by
 have:=k0B (f:=p5B) l (fun k x=>(x.1,a,x.2,h,n,i,l,(l.length:Int),(k:Int),())) (fun (x:Bool×Int) y=>(Sum.inl (x.1&&j9A x.2 y,y):(Bool×Int)⊕Unit)) (fun _=>(false,a,h,n,i,())) (fun x=>(x.1,a,h,n,i,()))
  (fun k y x hk=>by
   obtain ⟨ok,p⟩:=x
   have hk2:=g1A hk
   have ws:IntKind.i64.wrap ((k:Int)+1)=((k+1:Nat):Int):=by rw [b8A (by omega) (by omega)]; rfl
   simp (disch:=omega) only [p5B,dT,wT,Ao,gD hk]
   rw [←ws]
   unfold j9A
   cases ok <;> cases decide (y>p) <;> rfl)
  (fun s=>by simp (disch:=omega) only [p5B,dF]) (b,p)
 obtain ⟨p',e⟩:=k1B j9A (·) l b p
 rw [e] at this
 exact ⟨p,this,rfl⟩
theorem h6E {b:Bool} {l:List Hrd} (hl:l.length≤9223372036854775807) (hs:∀ s∈l,s.2.2.length≤9223372036854775807) :
  iter v9B (b,(-1),l,(l.length:Int),0,())=some (b&&okL l6A (·.1) (-1) l,()):=by
 have:=k0B (f:=v9B) l (fun i x=>(x.1,x.2,l,(l.length:Int),(i:Int),())) (fun (x:Bool×Int) a=>(Sum.inl (x.1&&l6A x.2 a,a.1):(Bool×Int)⊕Unit)) (fun _=>(false,())) (fun x=>(x.1,()))
  (fun i a x hi=>by
   obtain ⟨ok,p⟩:=x
   have hi2:=g1A hi
   have ws:IntKind.i64.wrap ((i:Int)+1)=((i+1:Nat):Int):=by rw [b8A (by omega) (by omega)]; rfl
   have hh:∀ b,iter p5B (b,a.1,a.2.1,l,(l.length:Int),(i:Int),a.2.2,(a.2.2.length:Int),0,())=some (b&&okL j9A (·) a.2.1 a.2.2,a.1,l,(l.length:Int),(i:Int),()):=by
    intro b
    obtain ⟨_,e,_⟩:=h5E (b:=b) (a:=a.1) (p:=a.2.1) (h:=l) (n:=l.length) (i:=i) (hs a (h6A hi))
    exact e
   simp (disch:=omega) only [v9B,dT,wT,Ao,gD hi,w5A,Aa]
   rw [←ws]
   unfold l6A
   generalize okL j9A (·) a.2.1 a.2.2=b5 at *
   generalize (decide (a.2.1≥0)&&decide (a.2.1≤1073741825))=b3
   generalize decide ((a.2.2.length:Int)≤16)=b4
   cases ok <;> cases decide (a.1>p) <;> cases decide (a.1≤1073741824) <;> cases b3 <;> cases b4 <;> simp only [Al,Ai,Aa,hh] <;> rfl)
  (fun s=>by simp (disch:=omega) only [v9B,dF]) (b,-1)
 obtain ⟨p',e⟩:=k1B l6A (·.1) l b (-1)
 rw [e] at this
 exact this
theorem k2B {w:RS} (h:szW w):v6A w=some (err (okW w)):=by
 obtain ⟨h1,h2,h3,h4⟩:=h
 have e:∀ k:Bool×RS×Unit→Option Int,(((m3A w.1 1 1073741824).bind fun y1=>bif y1 then bif (decide ((w.2.1.length:Int)≤64)) then some ((decide ((w.2.2.length:Int)≤64)),w,()) else some (false,w,()) else some (false,w,())):Option (Bool×RS×Unit)).bind k =
   k ((decide (w.1≥1)&&decide (w.1≤1073741824))&&decide ((w.2.1.length:Int)≤64)&&decide ((w.2.2.length:Int)≤64),w,()):=by
  intro k
  rw [w5A,Aa]
  cases decide (w.1≥1)&&decide (w.1≤1073741824) <;> cases decide ((w.2.1.length:Int)≤64) <;> rfl
 unfold v6A okW
 rw [e]
 rw [h4E h1 h2 (fun hb=>by
  simp only [Ac,Au] at hb
  exact hb.1.1),Aa,h6E h3 h4,Aa]
 unfold err
 generalize ((decide (w.1≥1)&&decide (w.1≤1073741824))&&decide ((w.2.1.length:Int)≤64)&&decide ((w.2.2.length:Int)≤64)&&okL (k0A w.1) (·.1) 0 w.2.1&&okL l6A (·.1) (-1) w.2.2)=b
 cases b <;> rfl
end Go.Sq
namespace Go.Sq
open Go.Rx
theorem k1D {l:List Int} (h:l.length≤1000):u8B l=some l:=by
 unfold u8B
 rw [Cv,rT (by omega)]
theorem q2B {l:List Int} (h:l.length≤1000):s2A l=some l:=by
 unfold s2A
 rw [Cv,rT (by omega)]
theorem k2D {l:List Snd} (h:l.length≤1000):u6B l=some l:=by
 unfold u6B
 rw [Cv,rT (by omega)]
theorem k3D {l:List Hrd} (h:l.length≤1000):u7B l=some l:=by
 unfold u7B
 rw [Cv,rT (by omega)]
theorem q3B {m:Msg} (h:m.2.2.2.2.2.2.2.2.2.length≤1000):v7A m=some m:=by
 unfold v7A
 rw [k1D h,Aa]
theorem f6B {A:Type} {l:List A} {i:Nat} {a:A} (h:l[i]? = some a):l.set i a=l:=by
 obtain ⟨h1,h2⟩:=Cl.1 h
 rw [←h2,List.set_getElem_self]
def x0B (w:RS):Prop:=w.2.1.length≤64∧(∀ s∈w.2.1,s.2.1.2.2.2.2.2.2.2.2.2.length≤64)∧w.2.2.length≤64∧∀ h∈w.2.2,h.2.2.length≤16
theorem g5C {P A:Type} {q:P→A→Bool} {nxt:A→P}:∀ {l:List A} {p:P},okL q nxt p l=true→∀ a∈l,∃ p',q p' a=true
 | a::l,p,h,x,hx=>by
  rw [okL,Ac] at h
  rcases Bf.1 hx with rfl | hx
  ·exact ⟨p,h.1⟩
  ·exact g5C h.2 x hx
theorem k4D {nx p:Int} {s:Snd} (h:k0A nx p s=true):p<s.1∧s.1<nx∧s.2.1.2.2.2.2.1=s.1∧okM s.2.1=true:=by
 unfold k0A at h
 simp only [Ac,Au,Cw] at h
 exact ⟨h.1.1.1.1.1,h.1.1.1.1.2,h.1.1.1.2,h.2⟩
theorem s7C {m:Msg} (h:okM m=true):m.2.2.2.2.2.2.2.2.2.length≤64∧1≤m.1∧m.1≤15:=by
 unfold okM at h
 simp only [Ac,Au] at h
 obtain ⟨⟨⟨⟨⟨⟨⟨⟨⟨⟨⟨a,b⟩,c⟩,_⟩,_⟩,_⟩,_⟩,_⟩,_⟩,_⟩,_⟩,_⟩:=h
 omega
theorem k3B {w:RS} (h:okW w=true):x0B w:=by
 unfold okW at h
 simp only [Ac,Au] at h
 obtain ⟨⟨⟨⟨_,h1⟩,h2⟩,h3⟩,h4⟩:=h
 refine ⟨by omega,fun s hs => ?_,by omega,fun x hx => ?_⟩
 ·obtain ⟨p,hp⟩:=g5C h3 s hs
  exact (s7C (k4D hp).2.2.2).1
 ·obtain ⟨p,hp⟩:=g5C h4 x hx
  unfold l6A at hp
  simp only [Ac,Au] at hp
  have:=hp.1.2
  omega
theorem g6C {w:RS} (h:x0B w):i5B w=some w:=by
 obtain ⟨h1,h2,h3,h4⟩:=h
 have l1:iter e9B ((w.2.1.length:Int),0,(w.1,(w.2.1,w.2.2)),(0,([],[])),())=some (w,(0,([],[])),()):=
  t6A (fun i=>((w.2.1.length:Int),(i:Int),(w.1,(w.2.1,w.2.2)),(0,([],[])),())) w.2.1.length (fun i hi=>by
   obtain ⟨a,ha⟩:∃ a,w.2.1[i]? = some a:=⟨_,Aq hi⟩
   have ws:IntKind.i64.wrap ((i:Int)+1)=((i+1:Nat):Int):=by rw [b8A (by omega) (by omega)]; rfl
   have hl:=q3B (m:=a.2.1) (by have:=h2 a (h6A ha); omega)
   simp (disch:=omega) only [e9B,dT,wT,Ao,gD ha,hl,Aa,ws]
   rw [f6B ha]) (by simp (disch:=omega) only [e9B,dF])
 have l2:iter f7C ((w.2.2.length:Int),0,w,(0,([],[])),())=some (w,(0,([],[])),()):=
  t6A (fun i=>((w.2.2.length:Int),(i:Int),w,(0,([],[])),())) w.2.2.length (fun i hi=>by
   obtain ⟨a,ha⟩:∃ a,w.2.2[i]? = some a:=⟨_,Aq hi⟩
   have ws:IntKind.i64.wrap ((i:Int)+1)=((i+1:Nat):Int):=by rw [b8A (by omega) (by omega)]; rfl
   have hl:=q2B (l:=a.2.2) (by have:=h4 a (h6A ha); omega)
   simp (disch:=omega) only [f7C,dT,wT,Ao,gD ha,hl,Aa,ws]
   rw [f6B ha]) (by simp (disch:=omega) only [f7C,dF])
 unfold i5B
 rw [k2D (by omega),Aa,k3D (by omega),Aa,l1,Aa,l2]
 rfl
def noM (m:Msg) (n:Int):Msg:=(m.1,m.2.1,m.2.2.1,m.2.2.2.1,n,m.2.2.2.2.2)
def zWq:RS:=(0,[],[])
def zM:Msg:=(0,0,0,0,0,0,0,0,ByteArray.empty,[])
def w6A (w:RS) (m:Msg) (t:Int):RS×Msg×Int:=
 bif !okM (noM m w.1) then (zWq,zM,1) else
 bif w.1==1073741824||decide ((w.2.1.length:Int)≥64) then (zWq,zM,2) else
 ((w.1+1,w.2.1++[(w.1,noM m w.1,4,t+5)],w.2.2),noM m w.1,0)
theorem h7E {w:RS} {m:Msg} {t:Int} (hz:szW w) (hm:szM m) (h:okW w=true) (ht:0≤t) (ht2:t≤1099511627776):e8C w m t=some (w6A w m t):=by
 have hf:=k3B h
 have h1:i7B w t=some true:=by
  unfold i7B
  rw [w5A,Ah (by omega),Ah (by omega),k2B hz,h]
  rfl
 have hc:b9B (m.1,(m.2.1,(m.2.2.1,(m.2.2.2.1,(w.1,m.2.2.2.2.2)))))=some (err (okM (noM m w.1))):=s6C (m:=noM m w.1) hm.1
 have hw1:1≤w.1∧w.1≤1073741824:=by
  unfold okW at h
  simp only [Ac,Au] at h
  exact h.1.1.1.1
 unfold e8C w6A
 rw [h1]
 simp only [Aa,Cc,Ai,hc]
 cases ho:okM (noM m w.1) with
 | false=>rfl
 | true =>
  have e0:(err true != 0)=false:=rfl
  simp only [e0,Ai,Cc]
  have hl:=q3B (m:=noM m w.1) (by have:=(s7C ho).1; omega)
  have hl:v7A (m.1,(m.2.1,(m.2.2.1,(m.2.2.2.1,(w.1,m.2.2.2.2.2)))))=some (noM m w.1):=hl
  by_cases ha:w.1=1073741824
  ·simp only [eT ha,Aa,Al,Cw.2 ha,Bool.true_or]; rfl
  ·simp only [eF ha,Aa,Bg ha,Bool.false_or]
   by_cases hb:(w.2.1.length:Int)≥64
   ·simp only [Ai,Aa,Ah hb,Al]; rfl
   ·simp only [Ai,Aa,Am hb]
    have hr:c6A 128 (w.2.1++[(w.1,(noM m w.1,(4,t+5)))]).length=true:=n4A.2 (by rw [Ak,By]; omega)
    simp only [g6C hf,Aa,hl,hr,Al,b8A (n:=t+5) (by omega) (by omega),b8A (n:=w.1+1) (by omega) (by omega)]
end Go.Sq
namespace Go.Sq
open Go.Rx
theorem s8C {A:Type} {l' l:List A} {i:Nat} {a:A} (h:l'.drop i=l.drop i) (hi:l[i]? = some a):l'[i]? = some a:=by
 have e1:(l'.drop i)[0]? = l'[i]? := by simp
 have e2:(l.drop i)[0]? = l[i]? := by simp
 rw [←e1,h,e2,hi]
theorem g7C {A:Type} {l' l:List A} {i:Nat} (h:l'.drop i=l.drop i):l'.drop (i+1)=l.drop (i+1):=by
 have:=Cp (List.drop 1) h
 rwa [List.drop_drop,List.drop_drop] at this
theorem m6A {A:Type} {l:List A} {i:Nat} {a:A} (h:l[i]? = some a):l.take (i+1)=l.take i++[a]:=by
 rw [List.take_add_one,h]; rfl
theorem s9C {A:Type} {l' l K:List A} {wr i:Nat} {a:A} (hi:l[i]? = some a) (hwr:wr≤i) (hlen:l'.length=l.length) (ht:l'.take wr=K) (hd:l'.drop i=l.drop i) :
  (l'.set wr a).take (wr+1)=K++[a]∧(l'.set wr a).drop (i+1)=l.drop (i+1)∧(l'.set wr a).length=l.length:=by
 have hl:=g1A hi
 refine ⟨?_,?_,by rw [Em,hlen]⟩
 ·have hg:(l'.set wr a)[wr]? = some a:=by rw [List.getElem?_set_self (by omega)]
  rw [m6A hg,List.take_set_of_le (Ay wr),ht]
 ·rw [List.drop_set_of_lt (by omega)]
  exact g7C hd
theorem t0C {l:List Snd} {n:Int} (hl:l.length≤1000) {i0:Nat} (hi0:i0≤l.length) :
  ∀ (k:Nat) (l':List Snd) (wr i:Nat),i+k=l.length→wr≤i→l'.length=l.length→l'.take wr=(l.take i).filter (fun s=>!(s.1==n))→l'.drop i=l.drop i →
   ∃ (r:List Snd) (wr':Nat),iter j2B (l',(wr:Int),(i:Int),n,())=some (r,(wr':Int),n,())∧r.length=l.length∧wr'≤l.length∧r.take wr'=l.filter (fun s=>!(s.1==n))
 | 0,l',wr,i,hk,hwr,hlen,ht,hd=>by
  have:i=l.length:=by omega
  subst this
  refine ⟨l',wr,m4A (by simp (disch:=omega) only [j2B,dF]),hlen,hwr,by rw [ht,List.take_length]⟩
 | k+1,l',wr,i,hk,hwr,hlen,ht,hd=>by
  obtain ⟨a,ha⟩:∃ a,l[i]? = some a:=⟨_,Aq (by omega)⟩
  have ha':=s8C hd ha
  have ws:IntKind.i64.wrap ((i:Int)+1)=((i+1:Nat):Int):=by rw [b8A (by omega) (by omega)]; rfl
  have ww:IntKind.i64.wrap ((wr:Int)+1)=((wr+1:Nat):Int):=by rw [b8A (by omega) (by omega)]; rfl
  cases he:(a.1==n) with
  | true =>
   have hs:j2B (l',(wr:Int),(i:Int),n,())=some (.inl (l',(wr:Int),((i+1:Nat):Int),n,())):=by
    simp (disch:=omega) only [j2B,dT,wT,Ao,gD ha',he,Cc,Ai,Aa,ws]
   rw [l5A hs]
   refine t0C hl hi0 k l' wr (i+1) (by omega) (by omega) hlen ?_ (g7C hd)
   rw [m6A ha,List.filter_append,ht]
   simp [he]
  | false =>
   have hs:j2B (l',(wr:Int),(i:Int),n,())=some (.inl (l'.set wr a,((wr+1:Nat):Int),((i+1:Nat):Int),n,())):=by
    simp (disch:=omega) only [j2B,dT,wT,Ao,gD ha',he,Cr,Al,Aa,ws,ww]
   obtain ⟨c1,c2,c3⟩:=s9C ha hwr hlen ht hd
   rw [l5A hs]
   refine t0C hl hi0 k _ (wr+1) (i+1) (by omega) (by omega) c3 ?_ c2
   rw [c1,m6A ha,List.filter_append]
   simp [he]
theorem h8E {l:List Snd} {n:Int} (hl:l.length≤1000) (h:∀ s∈l,(s.1==n)=false):iter j1B (l,(l.length:Int),0,n,())=some (.inl (l,n,())):=
 t6A (fun i=>(l,(l.length:Int),(i:Int),n,())) l.length (fun i hi=>by
  obtain ⟨a,ha⟩:∃ a,l[i]? = some a:=⟨_,Aq hi⟩
  have ws:IntKind.i64.wrap ((i:Int)+1)=((i+1:Nat):Int):=by rw [b8A (by omega) (by omega)]; rfl
  simp (disch:=omega) only [j1B,dT,wT,Ao,gD ha,h a (h6A ha),Ai,ws]) (by simp (disch:=omega) only [j1B,dF])
theorem h9E {l l1 l2:List Snd} {a:Snd} {n:Int} (e:l=l1++a::l2) (hl:l.length≤1000) (h:∀ s∈l1,(s.1==n)=false) (ha:(a.1==n)=true) :
  iter j1B (l,(l.length:Int),0,n,())=some (.inr (l,(l1.length:Int),n,())):=by
 have hlen:l.length=l1.length+(l2.length+1):=by rw [e,Ak,Be]
 refine t6A (fun i=>(l,(l.length:Int),(i:Int),n,())) l1.length (fun i hi => ?_) ?_
 ·obtain ⟨b,hb⟩:∃ b,l1[i]? = some b:=⟨_,Aq hi⟩
  have hb2:l[i]? = some b:=by rw [e,Bd hi,hb]
  have ws:IntKind.i64.wrap ((i:Int)+1)=((i+1:Nat):Int):=by rw [b8A (by omega) (by omega)]; rfl
  simp (disch:=omega) only [j1B,dT,wT,Ao,gD hb2,h b (h6A hb),Ai,ws]
 ·have hb2:l[l1.length]? = some a:=by rw [e]; simp
  simp (disch:=omega) only [j1B,dT,wT,Ao,gD hb2,ha,Al]
theorem t1C {A:Type} (p:A→Bool):∀ l:List A,(∀ s∈l,p s=false)∨∃ l1 a l2,l=l1++a::l2∧(∀ s∈l1,p s=false)∧p a=true
 | []=>.inl fun _ h=>by cases h
 | a::l=>by
  cases ha:p a with
  | true=>exact .inr ⟨[],a,l,rfl,(fun _ h=>by cases h),ha⟩
  | false =>
   rcases t1C p l with h | ⟨l1,b,l2,e,h1,h2⟩
   ·left
    intro s hs
    rcases Bf.1 hs with rfl | hs
    ·exact ha
    ·exact h s hs
   ·refine .inr ⟨a::l1,b,l2,by rw [e]; rfl,?_,h2⟩
    intro s hs
    rcases Bf.1 hs with rfl | hs
    ·exact ha
    ·exact h1 s hs
def z4A (w:RS) (n:Int):RS:=(w.1,w.2.1.filter (fun s=>!(s.1==n)),w.2.2)
theorem k5D {A:Type} (l z:List A) (i:Nat) (hi:i≤l.length):(h5A l i z).take i=l.take i:=by
 unfold h5A
 exact List.take_left' (by rw [Ap]; omega)
theorem k6D {A:Type} (l z:List A) (i:Nat) (hi:i+z.length=l.length):(h5A l i z).length=l.length:=by
 unfold h5A
 simp only [Ak,Ap,Ar]; omega
theorem k7D {w:RS} {n:Int} (hz:szW w) (h:okW w=true):e5B w n=some (z4A w n,decide ((z4A w n).2.1.length<w.2.1.length),0):=by
 have hf:=k3B h
 have h64:=hf.1
 unfold e5B
 rw [k2B hz,h,Aa]
 rw [show (err true != 0)=false from rfl,Ai,g6C hf,Aa]
 rcases t1C (fun s:Snd=>s.1==n) w.2.1 with h1 | ⟨l1,a,l2,e,h1,h2⟩
 ·have ef:w.2.1.filter (fun s=>!(s.1==n))=w.2.1:=Eu.2 fun s hs=>by rw [h1 s hs]; rfl
  have ea:z4A w n=w:=by unfold z4A; rw [ef]
  simp only [h8E (by omega) h1,Aa]
  rw [ea]
  simp only [Dq,Al,Aa]
  rw [Am (Int.lt_irrefl _),Am (Nat.lt_irrefl _)]
 ·have hlen:w.2.1.length=l1.length+(l2.length+1):=by rw [e,Ak,Be]
  have ws:IntKind.i64.wrap ((l1.length:Int)+1)=((l1.length+1:Nat):Int):=by rw [b8A (by omega) (by omega)]; rfl
  have hb2:w.2.1[l1.length]? = some a:=by rw [e]; simp
  obtain ⟨r,wr,c1,c2,c3,c4⟩:=t0C (l:=w.2.1) (n:=n) (by omega) (i0:=0) (by omega) l2.length w.2.1 l1.length (l1.length+1) (by omega) (by omega) rfl (by
   rw [m6A hb2,List.filter_append,e,List.take_left]
   have:l1.filter (fun s=>!(s.1==n))=l1:=Eu.2 fun s hs=>by rw [h1 s hs]; rfl
   rw [this]; simp [h2]) rfl
  simp only [h9E e (by omega) h1 h2,Aa,eF (x:=(l1.length:Int)) (y := -1) (by omega),ws,c1]
  have hcl:=k6D r (List.replicate (((r.length:Int)).toNat - ((wr:Int)).toNat) ((0,((0,(0,(0,(0,(0,(0,(0,(0,(ByteArray.empty,[]))))))))),(0,0))):Snd)) wr (by rw [Ed]; omega)
  have hct:=k5D r (List.replicate (((r.length:Int)).toNat - ((wr:Int)).toNat) ((0,((0,(0,(0,(0,(0,(0,(0,(0,(ByteArray.empty,[]))))))))),(0,0))):Snd)) wr (by omega)
  simp (disch:=omega) only [gT,Int.toNat_natCast] at *
  simp only [Aa,Do,Nat.sub_zero,hct,c4]
  have e3:decide (((w.2.1.filter (fun s=>!(s.1==n))).length:Int)<(w.2.1.length:Int))=decide ((w.2.1.filter (fun s=>!(s.1==n))).length<w.2.1.length):=decide_eq_decide.2 Int.ofNat_lt
  rw [e3]; rfl
end Go.Sq
namespace Go.Sq
open Go.Rx
def exN:ByteArray:=ByteArray.mk #[97]
end Go.Sq
namespace Go.Sq
open Go.Rx
theorem i0E (m:Msg):∃ b,v6B m=some b:=⟨_,rfl⟩
theorem k8D {P A:Type} {q:P→A→Bool} {nxt:A→P} (R:P→Prop):∀ {l:List A} {p:P} {a:A},R p→(∀ x∈l,R (nxt x))→okL q nxt p l=true→(∀ p',R p'→q p' a=true)→okL q nxt p (l++[a])=true
 | [],p,a,hp,_,_,h2=>by
  show okL q nxt p [a]=true
  rw [okL,okL,h2 p hp]; rfl
 | b::l,p,a,hp,hR,h,h2=>by
  rw [okL,Ac] at h
  show (q p b&&okL q nxt (nxt b) (l++[a]))=true
  rw [h.1,Cs]
  exact k8D R (hR b Ax) (fun x hx=>hR x (Bb _ hx)) h.2 h2
theorem k9D {P A:Type} {q q':P→A→Bool} {nxt:A→P} (h:∀ p a,q p a=true→q' p a=true):∀ {l:List A} {p:P},okL q nxt p l=true→okL q' nxt p l=true
 | [],_,_=>rfl
 | a::l,p,hl=>by
  rw [okL,Ac] at hl ⊢
  exact ⟨h _ _ hl.1,k9D h hl.2⟩
theorem i1E {n n' p:Int} {s:Snd} (h:n≤n') (ho:k0A n p s=true):k0A n' p s=true:=by
 unfold k0A at *
 simp only [Ac,Au] at *
 obtain ⟨⟨⟨⟨⟨a,b⟩,c⟩,d⟩,e⟩,f⟩:=ho
 exact ⟨⟨⟨⟨⟨a,by omega⟩,c⟩,d⟩,e⟩,f⟩
theorem z5A {w:RS}:okW w=true↔(1≤w.1∧w.1≤1073741824)∧w.2.1.length≤64∧w.2.2.length≤64∧okL (k0A w.1) (·.1) 0 w.2.1=true∧okL l6A (·.1) (-1) w.2.2=true:=by
 unfold okW
 simp only [Ac,Au]
 constructor
 ·rintro ⟨⟨⟨⟨a,b⟩,c⟩,d⟩,e⟩
  exact ⟨a,by omega,by omega,d,e⟩
 ·rintro ⟨a,b,c,d,e⟩
  exact ⟨⟨⟨⟨a,by omega⟩,by omega⟩,d⟩,e⟩
theorem t2C {n:Int}:∀ {l:List Snd} {p:Int},okL (k0A n) (·.1) p l=true→∀ s∈l,p<s.1∧s.1<n
 | a::l,p,h,s,hs=>by
  rw [okL,Ac] at h
  have h1:=k4D h.1
  rcases Bf.1 hs with rfl | hs
  ·exact ⟨h1.1,h1.2.1⟩
  ·have:=t2C h.2 s hs
   have:a.1<s.1∧s.1<n:=this
   exact ⟨by omega,this.2⟩
def x1B (w:RS) (m:Msg) (t:Int):RS:=(w.1+1,w.2.1++[(w.1,noM m w.1,4,t+5)],w.2.2)
theorem i2E {w:RS} {m:Msg} {t:Int} (h:okW w=true) (hm:okM (noM m w.1)=true) (h1:w.1≠1073741824) (h2:w.2.1.length<64) (ht:0≤t) (ht2:t≤1099511627776):okW (x1B w m t)=true:=by
 rw [z5A] at *
 obtain ⟨⟨a,b⟩,c,d,e,f⟩:=h
 refine ⟨⟨by show 1≤w.1+1; omega,by show w.1+1≤_; omega⟩,by show (w.2.1++[_]).length≤64; rw [Ak,By]; omega,d,?_,f⟩
 have e2:okL (k0A (w.1+1)) (·.1) 0 w.2.1=true:=k9D (fun p s=>i1E (by omega)) e
 refine k8D (fun p=>p<w.1) (show (0:Int)<w.1 by omega) (fun x hx=>(t2C e x hx).2) e2 fun p hp => ?_
 unfold k0A
 have g1:(decide (p<w.1)&&decide (w.1<w.1+1))=true:=by rw [Ah hp,Ah (by omega)]; rfl
 have g2:((noM m w.1).2.2.2.2.1==w.1)=true:=Dq _
 have g3:(decide (t+5≥0)&&decide (t+5≤2199023255552))=true:=by rw [Ah (by omega),Ah (by omega)]; rfl
 show ((decide (p<w.1)&&decide (w.1<w.1+1))&&((noM m w.1).2.2.2.2.1==w.1)&&(decide ((4:Int)≥0)&&decide ((4:Int)≤4))&&(decide (t+5≥0)&&decide (t+5≤2199023255552))&&okM (noM m w.1))=true
 rw [g1,g2,g3,hm]; rfl
theorem i3E {w:RS} {m:Msg} {t:Int} (hz:szW w) (hm:szM m) (h2:w.2.1.length<64):szW (x1B w m t):=by
 obtain ⟨a,b,c,d⟩:=hz
 refine ⟨by show (w.2.1++[_]).length≤_; rw [Ak,By]; omega,fun s hs => ?_,c,d⟩
 rcases Ck.1 hs with hs | hs
 ·exact b s hs
 ·rcases Bo.1 hs with rfl; exact hm
end Go.Sq
namespace Go.Sq
open Go.Rx
theorem o5A {A:Type} {l:List A} {i:Nat} {a:A} (h:l[i]? = some a):l.drop i=a::l.drop (i+1):=by
 obtain ⟨h1,h2⟩:=Cl.1 h
 rw [←h2]; exact List.drop_eq_getElem_cons h1
end Go.Sq
namespace Go.Sq
open Go.Rx
abbrev t3C:Ty:=.pair (.int .i64) (.pair (.int .i64) (.pair (.int .i64) (.pair (.int .i64) (.pair (.int .i64) (.pair (.int .i64) (.pair (.int .i64) (.pair (.int .i64) (.pair .str (.sl (.int .u8))))))))))
theorem i4E {m:den t3C} (h:wf t3C m):szM m:=by
 obtain ⟨_,_,_,_,_,_,_,_,h9,h10,_⟩:=h
 exact ⟨h9,h10⟩
end Go.Sq
namespace Go.Sq
open Go.Rx
theorem q4B (a b:Int):∃ c,e6B a b=some c∧(c<0↔a<b)∧(c=0↔a=b):=by
 by_cases h1:a<b
 ·exact ⟨-1,by simp (disch:=omega) only [e6B,b8B,Fe,Aa,Ai,dT],by omega,by omega⟩
 ·by_cases h2:a>b
  ·exact ⟨1,by simp (disch:=omega) only [e6B,b8B,Fe,Aa,Ai,dT,dF],by omega,by omega⟩
  ·exact ⟨0,by simp (disch:=omega) only [e6B,b8B,Fe,Aa,Ai,dF],by omega,by omega⟩
def s6A {A:Type} (key:A→Int) (x:Int) (l:List A) (p:Nat):Prop:=(∀ a∈l.take p,key a<x)∧∀ a∈l.drop p,x≤key a
theorem i5E {l:List Hrd} {x:Int} (hl:l.length≤1000000) (hs:l.Pairwise (fun a b=>a.1<b.1)) :
  ∃ p:Nat,z3A l x=some ((p:Int),decide (p<l.length)&&decide ((l.getD p (0,0,[])).1=x))∧p≤l.length∧s6A (·.1) x l p:=by
 have loop:∃ r,iter w2B (l,x,(l.length:Int),0,(l.length:Int),())=some r∧∃ p:Nat,p≤l.length∧s6A (·.1) x l p∧r=(l,x,(l.length:Int),(p:Int),()):=by
  refine f3B (fun y=>(y.2.2.2.2.1 - y.2.2.2.1).toNat) (fun y=>∃ i j:Nat,y=(l,x,(l.length:Int),(i:Int),(j:Int),())∧i≤j∧j≤l.length∧(∀ a∈l.take i,a.1<x)∧∀ a∈l.drop j,x≤a.1) (fun r=>∃ p:Nat,p≤l.length∧s6A (·.1) x l p∧r=(l,x,(l.length:Int),(p:Int),())) ?_ _ ⟨0,l.length,rfl,De _,Ay _,by simp,by simp⟩
  rintro y ⟨i,j,rfl,h4,h5,h6,h7⟩
  by_cases hij:i<j
  ·have e1:(i:Int)+(j:Int)=((i+j:Nat):Int):=by omega
   have e2:g4A .u64 ((i+j:Nat):Int) 1=(((i+j) >>> 1:Nat):Int):=s0C (n:=1) (by simp [IntKind.bits])
   have e3:(i+j) >>> 1=(i+j) / 2:=by rw [Nat.shiftRight_eq_div_pow]
   rw [e3] at e2
   have hm:(i+j) / 2<l.length:=by omega
   obtain ⟨a,ha⟩:∃ a,l[(i+j) / 2]? = some a:=⟨_,Aq hm⟩
   obtain ⟨c,c1,c2,c3⟩:=q4B a.1 x
   have hsp:l=l.take ((i+j) / 2)++a::l.drop ((i+j) / 2+1):=by
    rw [←o5A ha,Dt]
   rw [hsp,List.pairwise_append] at hs
   obtain ⟨_,hs2,hs3⟩:=hs
   rw [List.pairwise_cons] at hs2
   by_cases h8:a.1<x
   ·left
    refine ⟨(l,x,(l.length:Int),(((i+j) / 2+1:Nat):Int),(j:Int),()),?_,⟨_,j,rfl,by omega,h5,fun b hb => ?_,h7⟩,by simp only; omega⟩
    ·have:=c2.2 h8
     simp (disch:=omega) only [w2B,dT,b8A,c0B,e1,e2,wT,Ao,gD ha,o7B,c1,Aa]
     rfl
    ·rw [m6A ha,Ck,Bo] at hb
     rcases hb with hb | rfl
     ·have:=hs3 b hb a Ax
      omega
     ·exact h8
   ·left
    refine ⟨(l,x,(l.length:Int),(i:Int),(((i+j) / 2:Nat):Int),()),?_,⟨i,_,rfl,by omega,by omega,h6,fun b hb => ?_⟩,by simp only; omega⟩
    ·have:¬ c<0:=fun h=>h8 (c2.1 h)
     simp (disch:=omega) only [w2B,dT,dF,b8A,c0B,e1,e2,wT,Ao,gD ha,o7B,c1,Aa]
    ·rw [o5A ha,Bf] at hb
     rcases hb with rfl | hb
     ·omega
     ·have:=hs2.1 b hb
      omega
  ·right
   have:i=j:=by omega
   subst this
   refine ⟨_,?_,i,by omega,⟨h6,h7⟩,rfl⟩
   simp (disch:=omega) only [w2B,dF]
 obtain ⟨r,h3,p,hp,hc,rfl⟩:=loop
 refine ⟨p,?_,hp,hc⟩
 by_cases hpl:p<l.length
 ·obtain ⟨c,c1,c2,c3⟩:=q4B (l.getD p (0,0,[])).1 x
  have e:(c==0)=decide ((l.getD p (0,0,[])).1=x):=by
   by_cases h:c=0
   ·rw [Ah (c3.1 h),h]; rfl
   ·rw [Am (fun h'=>h (c3.2 h'))]; exact beq_eq_false_iff_ne.2 h
  simp (disch:=omega) only [z3A,h3,Aa,dT,wT,Ao,o7B,c1,e]
  rw [Ah hpl,Cs]
 ·simp (disch:=omega) only [z3A,h3,Aa,dF]
  rw [Am hpl,Bh]
theorem x2B {l:List Int} {x:Int} (hl:l.length≤1000000) (hs:l.Pairwise (·<·)) :
  ∃ p:Nat,z0A l x=some ((p:Int),decide (x∈l))∧p≤l.length∧s6A id x l p:=by
 have loop:∃ r,iter v7B (l,x,(l.length:Int),0,(l.length:Int),())=some r∧∃ p:Nat,p≤l.length∧s6A id x l p∧r=(l,x,(l.length:Int),(p:Int),()):=by
  refine f3B (fun y=>(y.2.2.2.2.1 - y.2.2.2.1).toNat) (fun y=>∃ i j:Nat,y=(l,x,(l.length:Int),(i:Int),(j:Int),())∧i≤j∧j≤l.length∧(∀ a∈l.take i,a<x)∧∀ a∈l.drop j,x≤a) (fun r=>∃ p:Nat,p≤l.length∧s6A id x l p∧r=(l,x,(l.length:Int),(p:Int),())) ?_ _ ⟨0,l.length,rfl,De _,Ay _,by simp,by simp⟩
  rintro y ⟨i,j,rfl,h4,h5,h6,h7⟩
  by_cases hij:i<j
  ·have e1:(i:Int)+(j:Int)=((i+j:Nat):Int):=by omega
   have e2:g4A .u64 ((i+j:Nat):Int) 1=(((i+j) >>> 1:Nat):Int):=s0C (n:=1) (by simp [IntKind.bits])
   have e3:(i+j) >>> 1=(i+j) / 2:=by rw [Nat.shiftRight_eq_div_pow]
   rw [e3] at e2
   have hm:(i+j) / 2<l.length:=by omega
   obtain ⟨a,ha⟩:∃ a,l[(i+j) / 2]? = some a:=⟨_,Aq hm⟩
   have hsp:l=l.take ((i+j) / 2)++a::l.drop ((i+j) / 2+1):=by
    rw [←o5A ha,Dt]
   rw [hsp,List.pairwise_append] at hs
   obtain ⟨_,hs2,hs3⟩:=hs
   rw [List.pairwise_cons] at hs2
   by_cases h8:a<x
   ·left
    refine ⟨(l,x,(l.length:Int),(((i+j) / 2+1:Nat):Int),(j:Int),()),?_,⟨_,j,rfl,by omega,h5,fun b hb => ?_,h7⟩,by simp only; omega⟩
    ·simp (disch:=omega) only [v7B,dT,b8A,c0B,e1,e2,wT,Ao,gD ha,j3D,Aa]
     rfl
    ·rw [m6A ha,Ck,Bo] at hb
     rcases hb with hb | rfl
     ·have:=hs3 b hb a Ax
      omega
     ·exact h8
   ·left
    refine ⟨(l,x,(l.length:Int),(i:Int),(((i+j) / 2:Nat):Int),()),?_,⟨i,_,rfl,by omega,by omega,h6,fun b hb => ?_⟩,by simp only; omega⟩
    ·simp (disch:=omega) only [v7B,dT,dF,b8A,c0B,e1,e2,wT,Ao,gD ha,j3D,Aa]
    ·rw [o5A ha,Bf] at hb
     rcases hb with rfl | hb
     ·omega
     ·have:=hs2.1 b hb
      omega
  ·right
   have:i=j:=by omega
   subst this
   refine ⟨_,?_,i,by omega,⟨h6,h7⟩,rfl⟩
   simp (disch:=omega) only [v7B,dF]
 obtain ⟨r,h3,p,hp,hc,rfl⟩:=loop
 refine ⟨p,?_,hp,hc⟩
 by_cases hpl:p<l.length
 ·obtain ⟨a,ha⟩:∃ a,l[p]? = some a:=⟨_,Aq hpl⟩
  have hsp:l=l.take p++a::l.drop (p+1):=by rw [←o5A ha,Dt]
  by_cases hx:a=x
  ·have:x∈l:=by rw [←hx]; exact h6A ha
   rw [Ah this]
   simp (disch:=omega) only [z0A,h3,Aa,dT,wT,Ao,gD ha,eT]
  ·have hn:x ∉ l:=by
    rw [hsp,Ck,Bf]
    rintro (h | h | h)
    ·have:=hc.1 x h
     simp at this
    ·exact hx h.symm
    ·rw [hsp,List.pairwise_append,List.pairwise_cons] at hs
     have h1:=hs.2.1.1 x h
     have h2:=hc.2 a (by rw [o5A ha]; exact Ax)
     simp only [id_eq] at h2
     omega
   rw [Am hn]
   simp (disch:=omega) only [z0A,h3,Aa,dT,wT,Ao,gD ha,eF,d8C,Fe,Ai]
 ·have hn:x ∉ l:=by
   intro h
   rw [←Bn (i:=p) (l:=l) (by omega)] at h
   have:=hc.1 x h
   simp at this
  rw [Am hn]
  simp (disch:=omega) only [z0A,h3,Aa,dF]
end Go.Sq
namespace Go.Sq
open Go.Rx
def i8A:Int→List Int→Int×List Int
 | b,[]=>(b,[])
 | b,a::l=>if a=b then i8A (b+1) l else (b,a::l)
def d9A (x:Int):List Int→List Int
 | []=>[x]
 | a::l=>if a<x then a::d9A x l else x::a::l
def c2B (b:Int) (l:List Int):Int:=if 16<l.length then l.getD 0 0 else b
def i9A (h:Hrd) (t:Int):Hrd:=(h.1,i8A (c2B h.2.1 (d9A t h.2.2)) (d9A t h.2.2))
def n5A (h:Hrd) (t:Int):Bool:=decide (t∈h.2.2)||decide (t<h.2.1)
theorem l0D {x:Int}:∀ {l:List Int} {p:Nat},p≤l.length→s6A id x l p→d9A x l=l.take p++(x::l.drop p)
 | [],p,hp,_=>by simp [d9A]
 | a::l,0,_,hc=>by
  have:=hc.2 a (by simp)
  simp only [id_eq] at this
  rw [d9A,Ae (by omega)]; rfl
 | a::l,p+1,hp,hc=>by
  have:=hc.1 a (by simp)
  simp only [id_eq] at this
  rw [d9A,Aj this,l0D (by simpa using hp) ⟨fun b hb=>hc.1 b (by simp [hb]),fun b hb=>hc.2 b (by simpa using hb)⟩]; rfl
theorem x3B (x:Int):∀ l:List Int,(d9A x l).length=l.length+1
 | []=>rfl
 | a::l=>by
  rw [d9A]
  split
  ·rw [Be,x3B x l]; rfl
  ·rfl
theorem c3B {x y:Int}:∀ {l:List Int},y∈d9A x l↔y=x∨y∈l
 | []=>by simp [d9A]
 | a::l=>by
  rw [d9A]
  split
  ·rw [Bf,c3B,Bf]
   constructor
   ·rintro (h | h | h)
    ·exact .inr (.inl h)
    ·exact .inl h
    ·exact .inr (.inr h)
   ·rintro (h | h | h)
    ·exact .inr (.inl h)
    ·exact .inl h
    ·exact .inr (.inr h)
  ·simp
theorem t4C {x:Int}:∀ {l:List Int},l.Pairwise (·<·)→x ∉ l→(d9A x l).Pairwise (·<·)
 | [],_,_=>by simp [d9A]
 | a::l,h,hx=>by
  rw [List.pairwise_cons] at h
  rw [Bf,not_or] at hx
  rw [d9A]
  split
  ·rw [List.pairwise_cons]
   refine ⟨fun b hb => ?_,t4C h.2 hx.2⟩
   rcases c3B.1 hb with rfl | hb
   ·assumption
   ·exact h.1 b hb
  ·rw [List.pairwise_cons,List.pairwise_cons]
   refine ⟨fun b hb => ?_,h⟩
   rw [Bf] at hb
   rcases hb with rfl | hb
   ·omega
   ·have:=h.1 b hb; omega
theorem l1D {k:Nat} {l:List Hrd} {f b x:Int} {L:List Int} (hb : -1000000000000≤b) (hb2:b≤1000000000000) (hL:L.length≤1000) :
  ∃ n:Nat,iter j5B (k,(l,(k,((f,b,()),L))),x,0,())=some (k,(l,(k,((f,(i8A b L).1,()),L))),x,(n:Int),())∧n≤L.length∧L.drop n=(i8A b L).2:=by
 have loop:∃ r,iter j5B (k,(l,(k,((f,b,()),L))),x,0,())=some r∧∃ n:Nat,n≤L.length∧r=(k,(l,(k,((f,(i8A b L).1,()),L))),x,(n:Int),())∧L.drop n=(i8A b L).2:=by
  refine f3B (fun y=>(L.length - y.2.2.2.1.toNat)) (fun y=>∃ n:Nat,n≤L.length∧y=(k,(l,(k,((f,b+(n:Int),()),L))),x,(n:Int),())∧i8A (b+(n:Int)) (L.drop n)=i8A b L)
   (fun r=>∃ n:Nat,n≤L.length∧r=(k,(l,(k,((f,(i8A b L).1,()),L))),x,(n:Int),())∧L.drop n=(i8A b L).2) ?_ _ ⟨0,De _,by simp,by simp⟩
  rintro y ⟨n,hn,rfl,he⟩
  by_cases h:n<L.length
  ·obtain ⟨a,ha⟩:∃ a,L[n]? = some a:=⟨_,Aq h⟩
   rw [o5A ha,i8A] at he
   by_cases hab:a=b+(n:Int)
   ·left
    rw [Aj hab] at he
    refine ⟨(k,(l,(k,((f,b+((n+1:Nat):Int),()),L))),x,((n+1:Nat):Int),()),?_,⟨n+1,h,rfl,?_⟩,by simp only [Ao]; omega⟩
    ·have e:(a==b+(n:Int))=true:=Cw.2 hab
     have w1:IntKind.i64.wrap (b+(n:Int)+1)=b+((n+1:Nat):Int):=by rw [b8A (by omega) (by omega)]; omega
     have w2:IntKind.i64.wrap ((n:Int)+1)=((n+1:Nat):Int):=by rw [b8A (by omega) (by omega)]; omega
     simp (disch:=omega) only [j5B,Cn,Al,dT,wT,Ao,gD ha,e,Aa,w1,w2]
    ·rw [show b+((n+1:Nat):Int)=b+(n:Int)+1 by omega]; exact he
   ·right
    rw [Ae hab] at he
    refine ⟨_,?_,n,hn,rfl,by rw [o5A ha,←he]⟩
    have e:(a==b+(n:Int))=false:=Bg hab
    rw [←he]
    simp (disch:=omega) only [j5B,Cn,Al,Ai,dT,wT,Ao,gD ha,e,Aa]
  ·right
   have hd:L.drop n=[]:=List.drop_eq_nil_of_le (by omega)
   rw [hd,i8A] at he
   refine ⟨_,?_,n,hn,rfl,by rw [hd,←he]⟩
   rw [←he]
   simp (disch:=omega) only [j5B,Cn,Al,Ai,dF,Aa]
 obtain ⟨r,h1,n,h2,rfl,h3⟩:=loop
 exact ⟨n,h1,h2,h3⟩
theorem i6E:i8D=j5B:=rfl
theorem t5C {l:List Int} {x:Int} {p:Nat} (hp:p≤l.length) (hl:l.length≤1000) (hc:s6A id x l p):o8B l (p:Int) [x]=some (d9A x l):=by
 unfold o8B s4A
 have hr:c6A 8 (l.length+[x].length)=true:=n4A.2 (by simp; omega)
 rw [hr,Ah (show (0:Int)≤(p:Int) by omega),Ah (show (p:Int)≤(l.length:Int) by omega),Ah (show 0 < [x].length by simp)]
 rw [l0D hp hc]
 simp only [Bool.and_self,Al,Ao,List.singleton_append]
theorem z6A:∀ {l:List Int} {b:Int},okL j9A (·) b l=true→l.Pairwise (·<·)∧∀ x∈l,b<x∧x≤1073741824
 | [],_,_=>by simp
 | a::l,b,h=>by
  rw [okL,Ac] at h
  obtain ⟨h1,h2⟩:=h
  unfold j9A at h1
  simp only [Ac,Au] at h1
  obtain ⟨h3,h4⟩:=z6A h2
  refine ⟨List.pairwise_cons.2 ⟨fun x hx=>(h4 x hx).1,h3⟩,fun x hx => ?_⟩
  rw [Bf] at hx
  rcases hx with rfl | hx
  ·omega
  ·have:=h4 x hx; omega
theorem g8C:∀ {l:List Int} {b:Int},l.Pairwise (·<·)→(∀ x∈l,b<x∧x≤1073741824)→okL j9A (·) b l=true
 | [],_,_,_=>rfl
 | a::l,b,h,hb=>by
  rw [List.pairwise_cons] at h
  rw [okL,Ac]
  have h1:=hb a Ax
  refine ⟨?_,g8C h.2 fun x hx=>⟨h.1 x hx,(hb x (Bb _ hx)).2⟩⟩
  unfold j9A
  simp only [Ac,Au]
  omega
theorem t6C:∀ {l:List Int} {b:Int},l.Pairwise (·<·)→(∀ x∈l,b≤x∧x≤1073741824)→b≤1073741825 →
  b≤(i8A b l).1∧(i8A b l).1≤1073741825∧okL j9A (·) (i8A b l).1 (i8A b l).2=true∧(i8A b l).2.length≤l.length∧∀ x∈l,x<(i8A b l).1∨x∈(i8A b l).2
 | [],b,_,_,hb=>⟨Df _,hb,rfl,Ay _,fun x hx=>by cases hx⟩
 | a::l,b,hs,hl,hb=>by
  rw [List.pairwise_cons] at hs
  have ha:=hl a Ax
  rw [i8A]
  split
  ·rename_i e
   obtain ⟨h1,h2,h3,h4,h5⟩:=t6C (b:=b+1) hs.2 (fun x hx=>⟨by have:=hs.1 x hx; omega,(hl x (Bb _ hx)).2⟩) (by omega)
   refine ⟨by omega,h2,h3,by rw [Be]; omega,fun x hx => ?_⟩
   rw [Bf] at hx
   rcases hx with rfl | hx
   ·exact .inl (by omega)
   ·exact h5 x hx
  ·refine ⟨Df _,hb,g8C (List.pairwise_cons.2 hs) (fun x hx => ?_),Ay _,fun x hx=>.inr hx⟩
   rw [Bf] at hx
   rcases hx with rfl | hx
   ·omega
   ·have h1:=hs.1 x hx
    have h2:=hl x (Bb _ hx)
    omega
theorem t7A {p:Int} {h:Hrd}:l6A p h=true↔p<h.1∧h.1≤1073741824∧0≤h.2.1∧h.2.1≤1073741825∧h.2.2.length≤16∧okL j9A (·) h.2.1 h.2.2=true:=by
 unfold l6A
 simp only [Ac,Au]
 constructor
 ·rintro ⟨⟨⟨⟨h1,h2⟩,h3,h4⟩,h5⟩,h6⟩
  exact ⟨by omega,h2,by omega,h4,by omega,h6⟩
 ·rintro ⟨h1,h2,h3,h4,h5,h6⟩
  exact ⟨⟨⟨⟨by omega,h2⟩,by omega,h4⟩,by omega⟩,h6⟩
theorem i7E {p:Int} {h:Hrd} {t:Int} (ho:l6A p h=true) (h0:0≤t) (h1:t≤1073741824) (hk:n5A h t=false) :
  l6A p (i9A h t)=true∧(i9A h t).1=h.1∧n5A (i9A h t) t=true∧∀ u,n5A h u=true→n5A (i9A h t) u=true:=by
 obtain ⟨o1,o2,o3,o4,o5,o6⟩:=t7A.1 ho
 obtain ⟨s1,s2⟩:=z6A o6
 unfold n5A at hk
 rw [Fi,Ee,Ee] at hk
 have hs:=t4C s1 hk.1
 have hm:∀ x∈d9A t h.2.2,h.2.1≤x∧x≤1073741824:=fun x hx=>by
  rcases c3B.1 hx with rfl | hx
  ·omega
  ·have:=s2 x hx; omega
 have hlen:=x3B t h.2.2
 have key:∃ b,b=c2B h.2.1 (d9A t h.2.2)∧h.2.1≤b∧b≤1073741825∧(∀ x∈d9A t h.2.2,b≤x∧x≤1073741824)∧(16<(d9A t h.2.2).length→∃ l,d9A t h.2.2=b::l):=by
  refine ⟨_,rfl,?_⟩
  unfold c2B
  by_cases hc:16<(d9A t h.2.2).length
  ·rw [Aj hc]
   cases e:d9A t h.2.2 with
   | nil=>rw [e] at hc; simp at hc
   | cons a l =>
    rw [e] at hm hs
    rw [List.pairwise_cons] at hs
    have ha:=hm a Ax
    refine ⟨ha.1,by show a≤_; omega,fun x hx => ?_,fun _=>⟨l,rfl⟩⟩
    show a≤x∧_
    refine ⟨?_,(hm x hx).2⟩
    rw [Bf] at hx
    rcases hx with rfl | hx
    ·omega
    ·have:=hs.1 x hx; omega
  ·rw [Ae hc]
   exact ⟨Df _,o4,hm,fun h=>absurd h hc⟩
 obtain ⟨b,hb,b1,b2,b3,b4⟩:=key
 obtain ⟨k1,k2,k3,k4,k5⟩:=t6C hs b3 b2
 have hlen2:(i8A b (d9A t h.2.2)).2.length≤16:=by
  by_cases hc:16<(d9A t h.2.2).length
  ·obtain ⟨l,e⟩:=b4 hc
   rw [e] at hlen hs b3 ⊢
   rw [i8A,Aj rfl]
   rw [List.pairwise_cons] at hs
   have:=(t6C (b:=b+1) hs.2 (fun x hx=>⟨by have:=hs.1 x hx; omega,(b3 x (Bb _ hx)).2⟩) (by have:=b3 b Ax; omega)).2.2.2.1
   rw [Be] at hlen
   omega
  ·omega
 unfold i9A
 rw [←hb]
 refine ⟨t7A.2 ⟨o1,o2,by show 0≤(i8A b _).1; omega,k2,hlen2,k3⟩,rfl,?_,fun u hu => ?_⟩
 ·unfold n5A
  rw [Db,Au,Au]
  exact (k5 t (c3B.2 (.inl rfl))).symm
 ·unfold n5A at hu ⊢
  rw [Db,Au,Au] at hu ⊢
  rcases hu with hu | hu
  ·exact (k5 u (c3B.2 (.inr hu))).symm
  ·exact .inr (by show u<(i8A b _).1; omega)
end Go.Sq
namespace Go.Sq
open Go.Rx
def g8A (f:Int):List Hrd→Option Hrd
 | []=>none
 | a::l=>if a.1=f then some a else g8A f l
def h4A (h:Hrd):List Hrd→List Hrd
 | []=>[h]
 | a::l=>if a.1<h.1 then a::h4A h l else if a.1=h.1 then h::l else h::a::l
def e2A (w:RS) (f t:Int):RS×Bool×Int:=
 if 0≤f∧f≤1073741824∧0≤t∧t≤1073741824 then
  match g8A f w.2.2 with
  | some h=>if n5A h t=true then (w,false,0) else ((w.1,w.2.1,h4A (i9A h t) w.2.2),true,0)
  | none=>if 64≤w.2.2.length then (zWq,false,2) else ((w.1,w.2.1,h4A (i9A (f,0,[]) t) w.2.2),true,0)
 else (zWq,false,1)
theorem x4B:∀ {l:List Hrd} {b:Int},okL l6A (·.1) b l=true→l.Pairwise (fun a b=>a.1<b.1)∧∀ x∈l,b<x.1∧∃ q,l6A q x=true
 | [],_,_=>by simp
 | a::l,b,h=>by
  rw [okL,Ac] at h
  obtain ⟨h1,h2⟩:=h
  obtain ⟨h3,h4⟩:=x4B h2
  refine ⟨List.pairwise_cons.2 ⟨fun x hx=>(h4 x hx).1,h3⟩,fun x hx => ?_⟩
  have:=(t7A.1 h1).1
  rw [Bf] at hx
  rcases hx with rfl | hx
  ·exact ⟨this,_,h1⟩
  ·exact ⟨by have:=(h4 x hx).1; omega,(h4 x hx).2⟩
theorem l2D {f:Int} {h h':Hrd} (hf:h.1=f) (hf':h'.1=f):∀ {l:List Hrd} {p:Nat},s6A (·.1) f l p→l[p]? = some h→h4A h' l=l.set p h'∧g8A f l=some h
 | [],p,_,hp=>by simp at hp
 | a::l,0,_,hp=>by
  simp at hp
  subst hp
  rw [h4A,Ae (by omega),Aj (by omega),g8A,Aj hf]
  exact ⟨rfl,rfl⟩
 | a::l,p+1,hc,hp=>by
  have:=hc.1 a (by simp)
  obtain ⟨h1,h2⟩:=l2D hf hf' (l:=l) (p:=p) ⟨fun b hb=>hc.1 b (by simp [hb]),fun b hb=>hc.2 b (by simpa using hb)⟩ (by simpa using hp)
  simp only at this
  rw [h4A,Aj (by omega),g8A,Ae (by omega),h1]
  exact ⟨rfl,h2⟩
theorem l3D {f:Int} {h':Hrd} (hf':h'.1=f):∀ {l:List Hrd} {p:Nat},p≤l.length→l.Pairwise (fun a b=>a.1<b.1)→s6A (·.1) f l p→(∀ h,l[p]? = some h→h.1≠f)→h4A h' l=l.take p++h'::l.drop p∧g8A f l=none
 | [],p,_,_,_,_=>by simp [h4A,g8A]
 | a::l,0,_,hs,hc,hp=>by
  have h1:=hc.2 a (by simp)
  have h2:=hp a (by simp)
  simp only at h1
  rw [h4A,Ae (by omega),Ae (by omega),g8A,Ae (by omega)]
  refine ⟨rfl,?_⟩
  rw [List.pairwise_cons] at hs
  have h3:∀ l:List Hrd,(∀ x∈l,f<x.1)→g8A f l=none:=by
   intro l
   induction l with
   | nil=>intro _; rfl
   | cons b l ih =>
    intro hb
    have:=hb b Ax
    rw [g8A,Ae (by omega)]
    exact ih fun x hx=>hb x (Bb _ hx)
  exact h3 l fun x hx=>by have:=hs.1 x hx; omega
 | a::l,p+1,hl,hs,hc,hp=>by
  have:=hc.1 a (by simp)
  rw [List.pairwise_cons] at hs
  obtain ⟨h1,h2⟩:=l3D hf' (l:=l) (p:=p) (by simpa using hl) hs.2 ⟨fun b hb=>hc.1 b (by simp [hb]),fun b hb=>hc.2 b (by simpa using hb)⟩ (fun h hh=>hp h (by simpa using hh))
  simp only at this
  rw [h4A,Aj (by omega),g8A,Ae (by omega),h1]
  exact ⟨rfl,h2⟩
theorem i8E:i7D=e9B:=rfl
theorem i9E {w:RS} (h:x0B w):iter e9B ((w.2.1.length:Int),0,(w.1,(w.2.1,w.2.2)),(0,([],[])),())=some (w,(0,([],[])),()):=
 t6A (fun i=>((w.2.1.length:Int),(i:Int),(w.1,(w.2.1,w.2.2)),(0,([],[])),())) w.2.1.length (fun i hi=>by
  obtain ⟨h1,h2,h3,h4⟩:=h
  obtain ⟨a,ha⟩:∃ a,w.2.1[i]? = some a:=⟨_,Aq hi⟩
  have ws:IntKind.i64.wrap ((i:Int)+1)=((i+1:Nat):Int):=by rw [b8A (by omega) (by omega)]; rfl
  have hl:=q3B (m:=a.2.1) (by have:=h2 a (h6A ha); omega)
  simp (disch:=omega) only [e9B,dT,wT,Ao,gD ha,hl,Aa,ws]
  rw [f6B ha]) (by simp (disch:=omega) only [e9B,dF])
theorem l4D {a b:Nat} (h:a≠b):Nat.beq a b=false:=by
 cases e:Nat.beq a b with
 | false=>rfl
 | true=>exact absurd (Ag e) h
theorem j0E {w:RS} (h:x0B w) {p:Nat} (hp:p<w.2.2.length):iter (f9C p) ((w.2.2.length:Int),0,w,(0,([],[])),())=some (.inl ((w.2.2.length:Int),(p:Int),w,(0,([],[])),())):=
 t6A (fun i=>((w.2.2.length:Int),(i:Int),w,(0,([],[])),())) p (fun i hi=>by
  obtain ⟨h1,h2,h3,h4⟩:=h
  obtain ⟨a,ha⟩:∃ a,w.2.2[i]? = some a:=⟨_,Aq (by omega)⟩
  have ws:IntKind.i64.wrap ((i:Int)+1)=((i+1:Nat):Int):=by rw [b8A (by omega) (by omega)]; rfl
  have hl:=q2B (l:=a.2.2) (by have:=h4 a (h6A ha); omega)
  simp (disch:=omega) only [f9C,l4D,Ai,dT,wT,Ao,gD ha,hl,Aa,ws]
  rw [f6B ha]) (by simp only [f9C,Ao,Cn,Al])
theorem j1E {w:RS} (h:x0B w) {p:Nat} {x:(Int×Int×Unit)×List Int} (hp:p<w.2.2.length):iter g0C ((w.2.2.length:Int),((p+1:Nat):Int),(w.1,()),w.2.1,(w.2.2,(p,x)),(0,([],[])),())=some ((w.1,()),w.2.1,(w.2.2,(p,x)),(0,([],[])),()):=
 t6A (fun i=>((w.2.2.length:Int),((p+1+i:Nat):Int),(w.1,()),w.2.1,(w.2.2,(p,x)),(0,([],[])),())) (w.2.2.length - (p+1)) (fun i hi=>by
  obtain ⟨h1,h2,h3,h4⟩:=h
  obtain ⟨a,ha⟩:∃ a,w.2.2[p+1+i]? = some a:=⟨_,Aq (by omega)⟩
  have ws:IntKind.i64.wrap (((p+1+i:Nat):Int)+1)=((p+1+(i+1):Nat):Int):=by rw [b8A (by omega) (by omega)]; omega
  have hl:=q2B (l:=a.2.2) (by have:=h4 a (h6A ha); omega)
  have hb:Nat.beq (p+1+i) p=false:=l4D (by omega)
  simp (disch:=omega) only [g0C,hb,Cr,Al,dT,wT,Ao,gD ha,hl,Aa,ws]
  rw [f6B ha]) (by
  obtain ⟨h1,h2,h3,h4⟩:=h
  simp (disch:=omega) only [g0C,dF])
theorem t7C {l:List Int} {n:Nat}:(l.drop n).take (l.length - n)=l.drop n:=Bn (by rw [Ar]; omega)
theorem t8C {n:Nat} {l:List Int} (h:n≤l.length):f3A (n:Int) (l.length:Int) l.length=true:=by
 unfold f3A
 simp only [Ac,Au]
 omega
theorem j2E {w:RS} {f t:Int} {p:Nat} {h:Hrd} (hz:szW w) (ho:okW w=true) (hf0:0≤f) (hf1:f≤1073741824) (ht0:0≤t) (ht1:t≤1073741824) (hp:w.2.2[p]? = some h) (hs:z3A w.2.2 f=some ((p:Int),true)) :
  v3B p w f t=some (if n5A h t=true then (w,false,0) else ((w.1,w.2.1,w.2.2.set p (i9A h t)),true,0)):=by
 have few:=k3B ho
 have few2:=few
 obtain ⟨f1,f2,f3,f4⟩:=few2
 have hpl:=g1A hp
 have hw:=z5A.1 ho
 obtain ⟨_,q,hq⟩:=(x4B hw.2.2.2.2).2 h (h6A hp)
 obtain ⟨o1,o2,o3,o4,o5,o6⟩:=t7A.1 hq
 obtain ⟨s1,s2⟩:=z6A o6
 have hck:v6A w=some 0:=by rw [k2B hz,ho]; rfl
 have hw1:m3A f 0 1073741824=some true:=by rw [w5A,Ah (show f≥0 from hf0),Ah hf1]; rfl
 have hw2:m3A t 0 1073741824=some true:=by rw [w5A,Ah (show t≥0 from ht0),Ah ht1]; rfl
 have hc:=q2B (l:=h.2.2) (by omega)
 have ws:IntKind.i64.wrap ((p:Int)+1)=((p+1:Nat):Int):=by rw [b8A (by omega) (by omega)]; rfl
 obtain ⟨i,hi1,hi2,hi3⟩:=x2B (l:=h.2.2) (x:=t) (by omega) s1
 have hset:w.2.2.set p (h.1,(h.2.1,h.2.2))=w.2.2:=f6B hp
 have e0:∀ a b:Option (RS×Bool×Int),(bif (0:Int) != 0 then a else b)=b:=fun _ _=>rfl
 have hblt:(Nat.blt p w.2.2.length&&true)=true:=by rw [Bool.and_true]; exact Nat.ble_eq_true_of_le (show p+1≤w.2.2.length by omega)
 have hd:(w.2.2.getD p (0,0,[]))=h:=gD hp _
 unfold v3B
 simp only [hck,Aa,e0,hw1,Cc,Ai,hw2,k2D (show w.2.1.length≤1000 by omega),k3D (show w.2.2.length≤1000 by omega),i8E,i9E few,j0E few hpl]
 simp (disch:=omega) only [dT,Ao,hblt,Al,wT,Cn,hd,hc,Aa,ws,j1E few hpl,hset,hs,Cc,Ai,hi1]
 by_cases hk:n5A h t=true
 ·rw [Aj hk]
  unfold n5A at hk
  rw [Db,Au,Au] at hk
  by_cases hm:t∈h.2.2
  ·rw [Ah hm]
   simp only [Al,Aa,hset]
  ·rw [Am hm,Ah (hk.resolve_left hm)]
   simp only [Al,Ai,Aa,hset]
 ·rw [Ae hk]
  unfold n5A at hk
  rw [Db,Au,Au,not_or] at hk
  rw [Am hk.1,Am hk.2]
  have hlen:=x3B t h.2.2
  obtain ⟨b,hb⟩:∃ b,b=c2B h.2.1 (d9A t h.2.2):=⟨_,rfl⟩
  have hbr : -1000000000000≤b∧b≤1000000000000:=by
   rw [hb]; unfold c2B
   split
   ·cases e:d9A t h.2.2 with
    | nil=>rw [e] at hlen; simp at hlen
    | cons a l =>
     have:a∈d9A t h.2.2:=by rw [e]; exact Ax
     show _≤a∧a≤_
     rcases c3B.1 this with rfl | hx
     ·omega
     ·have:=s2 a hx; omega
   ·omega
  obtain ⟨n,n1,n2,n3⟩:=l1D (k:=p) (l:=w.2.2) (f:=h.1) (x:=t) (L:=d9A t h.2.2) hbr.1 hbr.2 (by omega)
  have hcl:=q2B (l:=(d9A t h.2.2).drop n) (by rw [Ar]; omega)
  have fin:i9A h t=(h.1,((i8A b (d9A t h.2.2)).1,(d9A t h.2.2).drop n)):=by unfold i9A; rw [←hb,n3]
  rw [fin]
  simp only [Ai,Aa,Cn,Al,t5C hi2 (show h.2.2.length≤1000 by omega) hi3]
  by_cases hc16:16<(d9A t h.2.2).length
  ·have hb':b=(d9A t h.2.2).getD 0 0:=by rw [hb]; unfold c2B; rw [Aj hc16]
   rw [←hb']
   have g1:decide ((((d9A t h.2.2).length:Nat):Int)>16)=true:=Ah (by omega)
   simp (disch:=omega) only [g1,Al,wT,Aa,n1,Cn,t8C n2,Ao,t7C,hcl]
  ·have hb':b=h.2.1:=by rw [hb]; unfold c2B; rw [Ae hc16]
   rw [←hb']
   have g1:decide ((((d9A t h.2.2).length:Nat):Int)>16)=false:=Am (by omega)
   simp (disch:=omega) only [g1,Al,Ai,wT,Aa,n1,Cn,t8C n2,Ao,t7C,hcl]
theorem j3E {w:RS} {f t:Int} {p:Nat} (hz:szW w) (ho:okW w=true) (hf0:0≤f) (hf1:f≤1073741824) (ht0:0≤t) (ht1:t≤1073741824) (hp:p≤w.2.2.length) (hs:z3A w.2.2 f=some ((p:Int),false)) :
  v4B w f t=some (if 64≤w.2.2.length then (zWq,false,2) else ((w.1,w.2.1,w.2.2.take p++i9A (f,0,[]) t::w.2.2.drop p),true,0)):=by
 have few:=k3B ho
 have few2:=few
 obtain ⟨f1,f2,f3,f4⟩:=few2
 have hck:v6A w=some 0:=by rw [k2B hz,ho]; rfl
 have hw1:m3A f 0 1073741824=some true:=by rw [w5A,Ah (show f≥0 from hf0),Ah hf1]; rfl
 have hw2:m3A t 0 1073741824=some true:=by rw [w5A,Ah (show t≥0 from ht0),Ah ht1]; rfl
 have e0:∀ a b:Option (RS×Bool×Int),(bif (0:Int) != 0 then a else b)=b:=fun _ _=>rfl
 unfold v4B
 simp only [hck,Aa,e0,hw1,Cc,Ai,hw2,g6C few,hs,Cr,Al]
 by_cases hfull:64≤w.2.2.length
 ·rw [Aj hfull,dT (by omega)]; rfl
 ·rw [Ae hfull,dF (by omega)]
  obtain ⟨i,hi1,hi2,hi3⟩:=x2B (l:=[]) (x:=t) (by simp) List.Pairwise.nil
  have hi0:i=0:=by simpa using hi2
  subst hi0
  have hlen:(w.2.2.take p++(0,(0,[]))::w.2.2.drop p:List Hrd).length=w.2.2.length+1:=by rw [Ak,Be,Ap,Ar]; omega
  have hset:∀ x:Hrd,(w.2.2.take p++(0,(0,[]))::w.2.2.drop p:List Hrd).set p x=w.2.2.take p++x::w.2.2.drop p:=by
   intro x
   rw [List.set_append_right _ _ (by rw [Ap]; omega)]
   rw [Ap,Nat.min_eq_left hp,Nat.sub_self]; rfl
  have hroom:(decide ((0:Int)≤(p:Int))&&decide ((p:Int)≤(w.2.2.length:Int))&&c6A 40 (w.2.2.length+1))=true:=by
   rw [Ah (by omega),Ah (by omega),n4A.2 (by omega)]; rfl
  have hm:decide (t∈([]:List Int))=false:=Am (by simp)
  obtain ⟨n,n1,n2,n3⟩:=l1D (k:=p) (l:=(w.2.2.take p++(0,(0,[]))::w.2.2.drop p)) (f:=f) (b:=0) (x:=t) (L:=d9A t []) (by omega) (by omega) (by simp [d9A])
  have hcl:=q2B (l:=(d9A t []).drop n) (by rw [Ar]; simp [d9A]; omega)
  have fin:i9A (f,0,[]) t=(f,((i8A 0 (d9A t [])).1,(d9A t []).drop n)):=by
   rw [n3]; unfold i9A
   have:c2B 0 (d9A t [])=0:=by unfold c2B; rw [Ae (by simp [d9A])]
   rw [this]
  have g1:decide ((((d9A t []).length:Nat):Int)>16)=false:=Am (by simp [d9A])
  have hwt:a7A (p:Int) (w.2.2.length+1)=true:=w0A.2 ⟨by omega,by omega⟩
  rw [fin]
  simp only [hroom,Al,Ao,hlen,hwt,Cn,hi1,hm,Aa,Ai]
  rw [dF (by omega)]
  simp only [t5C hi2 (by simp) hi3,Aa,g1,Ai,i6E,n1,Cn,Al,t8C n2,Ao,t7C,hcl,hset]
theorem j4E {w:RS} {f t:Int} (hz:szW w) (ho:okW w=true):p0B w f t=some (e2A w f t):=by
 have hw:=z5A.1 ho
 obtain ⟨s1,s2⟩:=x4B hw.2.2.2.2
 obtain ⟨p,h1,h2,h3⟩:=i5E (l:=w.2.2) (x:=f) (by omega) s1
 by_cases hin:0≤f∧f≤1073741824∧0≤t∧t≤1073741824
 ·obtain ⟨i1,i2,i3,i4⟩:=hin
  by_cases hc:p<w.2.2.length∧(w.2.2.getD p (0,0,[])).1=f
  ·obtain ⟨a,ha⟩:∃ a,w.2.2[p]? = some a:=⟨_,Aq hc.1⟩
   have hf:a.1=f:=by have:=hc.2; rwa [gD ha] at this
   rw [Ah hc.1,Ah hc.2] at h1
   have h1:z3A w.2.2 f=some ((p:Int),true):=h1
   have hat:i6B w f t=some p:=by unfold i6B; rw [h1]; simp
   unfold p0B v5B
   rw [hat]
   simp only
   rw [j2E hz ho i1 i2 i3 i4 ha h1]
   obtain ⟨q1,q2⟩:=l2D (h':=i9A a t) hf hf h3 ha
   have hP:e2A w f t=if n5A a t=true then (w,false,0) else ((w.1,w.2.1,h4A (i9A a t) w.2.2),true,0):=by
    unfold e2A
    rw [Aj ⟨i1,i2,i3,i4⟩,q2]
   rw [hP,q1]
  ·have hfl:(decide (p<w.2.2.length)&&decide ((w.2.2.getD p (0,0,[])).1=f))=false:=by
    rw [Bool.and_eq_false_iff,Ee,Ee]
    by_cases h:p<w.2.2.length
    ·exact .inr fun h'=>hc ⟨h,h'⟩
    ·exact .inl h
   rw [hfl] at h1
   have hat:i6B w f t=none:=by unfold i6B; rw [h1]
   unfold p0B v5B
   rw [hat]
   simp only
   rw [j3E hz ho i1 i2 i3 i4 h2 h1]
   obtain ⟨q1,q2⟩:=l3D (f:=f) (h':=i9A (f,0,[]) t) rfl h2 s1 h3 fun a ha h'=>hc ⟨g1A ha,by rw [gD ha]; exact h'⟩
   have hP:e2A w f t=if 64≤w.2.2.length then (zWq,false,2) else ((w.1,w.2.1,h4A (i9A (f,0,[]) t) w.2.2),true,0):=by
    unfold e2A
    rw [Aj ⟨i1,i2,i3,i4⟩,q2]
   rw [hP,q1]
 ·have hck:v6A w=some 0:=by rw [k2B hz,ho]; rfl
  have e0:∀ a b:Option (RS×Bool×Int),(bif (0:Int) != 0 then a else b)=b:=fun _ _=>rfl
  unfold e2A
  rw [Ae hin]
  have hb:((decide (f≥0)&&decide (f≤1073741824))&&(decide (t≥0)&&decide (t≤1073741824)))=false:=by
   rw [←Bool.not_eq_true]
   simp only [Ac,Au]
   omega
  unfold p0B v5B
  cases i6B w f t with
  | none =>
   simp only
   unfold v4B
   simp only [hck,Aa,e0,w5A]
   cases hb1:(decide (f≥0)&&decide (f≤1073741824)) with
   | false=>rfl
   | true =>
    rw [hb1,Cs] at hb
    rw [hb]; rfl
  | some g =>
   simp only
   unfold v3B
   simp only [hck,Aa,e0,w5A]
   cases hb1:(decide (f≥0)&&decide (f≤1073741824)) with
   | false=>rfl
   | true =>
    rw [hb1,Cs] at hb
    rw [hb]; rfl
end Go.Sq
namespace Go.Sq
open Go.Rx
theorem x5B (g:Int) (a:Hrd) (l:List Hrd):g8A g (a::l)=if a.1=g then some a else g8A g l:=rfl
theorem g9C {g:Int} {h:Hrd}:∀ {l:List Hrd},g8A g (h4A h l)=if h.1=g then some h else g8A g l
 | []=>rfl
 | a::l=>by
  rw [h4A]
  by_cases h1:a.1<h.1
  ·rw [Aj h1,x5B,g9C (l:=l)]
   by_cases h2:h.1=g
   ·rw [Aj h2,Ae (by omega),Aj h2]
   ·rw [Ae h2,Ae h2,x5B]
  ·rw [Ae h1]
   by_cases h3:a.1=h.1
   ·rw [Aj h3,x5B]
    by_cases h2:h.1=g
    ·rw [Aj h2,Aj h2]
    ·rw [Ae h2,Ae h2,x5B,Ae (by omega)]
   ·rw [Ae h3,x5B]
theorem x6B {g:Int} {h:Hrd}:∀ {l:List Hrd},g8A g l=some h→h.1=g∧h∈l
 | [],e=>by cases e
 | a::l,e=>by
  rw [g8A] at e
  split at e
  ·cases e; exact ⟨by assumption,Ax⟩
  ·exact ⟨(x6B e).1,Bb _ (x6B e).2⟩
theorem l5D {h:Hrd}:∀ {l:List Hrd},(h4A h l).length≤l.length+1
 | []=>by simp [h4A]
 | a::l=>by
  rw [h4A]
  split
  ·have:=l5D (h:=h) (l:=l); simp; omega
  ·split <;> simp
theorem l6D {h x:Hrd}:∀ {l:List Hrd} {b:Int},okL l6A (·.1) b l=true→g8A h.1 l=some x→(h4A h l).length=l.length
 | [],_,_,e=>by cases e
 | a::l,b,ho,e=>by
  rw [okL,Ac] at ho
  rw [h4A]
  rw [g8A] at e
  by_cases h1:a.1=h.1
  ·rw [Ae (by omega),Aj h1]; rfl
  ·rw [Ae h1] at e
   have:=(x4B ho.2).2 x (x6B e).2
   have:=(x6B e).1
   rw [Aj (by omega),Be,l6D ho.2 e]; rfl
theorem l7D {h:Hrd} {q:Int} (hq:l6A q h=true):∀ {l:List Hrd} {b:Int},okL l6A (·.1) b l=true→b<h.1→okL l6A (·.1) b (h4A h l)=true
 | [],b,_,hb=>by
  rw [h4A,okL,okL,Bool.and_true]
  obtain ⟨h1,h2⟩:=t7A.1 hq
  exact t7A.2 ⟨hb,h2⟩
 | a::l,b,ho,hb=>by
  rw [okL,Ac] at ho
  obtain ⟨h1,h2⟩:=t7A.1 hq
  rw [h4A]
  split
  ·rename_i hlt
   rw [okL,Ac]
   exact ⟨ho.1,l7D hq ho.2 hlt⟩
  ·split
   ·rename_i he
    rw [okL,Ac]
    exact ⟨t7A.2 ⟨hb,h2⟩,by rw [←he]; exact ho.2⟩
   ·rw [okL,Ac,okL,Ac]
    obtain ⟨a1,a2⟩:=t7A.1 ho.1
    exact ⟨t7A.2 ⟨hb,h2⟩,t7A.2 ⟨by omega,a2⟩,ho.2⟩
def c4B (w:RS) (f t:Int):Prop:=∃ h,g8A f w.2.2=some h∧n5A h t=true
theorem j5E {f:Int} (h0:0≤f) (h1:f≤1073741824):l6A (-1) (f,0,[])=true:=t7A.2 ⟨by show -1<f; omega,h1,by show (0:Int)≤0; omega,by show (0:Int)≤_; omega,by simp,rfl⟩
theorem l8D {w:RS} {f t:Int} (hz:szW w) (ho:okW w=true):((e2A w f t).2.1=false∧(e2A w f t).2.2≠0) ∨
  ((e2A w f t).2.2=0∧okW (e2A w f t).1=true∧szW (e2A w f t).1∧(e2A w f t).1.2.1=w.2.1∧c4B (e2A w f t).1 f t∧(∀ f' t',c4B w f' t'→c4B (e2A w f t).1 f' t')∧((e2A w f t).2.1=true→¬ c4B w f t) ∧
   e2A (e2A w f t).1 f t=((e2A w f t).1,false,0)∧∀ g,g≠f→g8A g (e2A w f t).1.2.2=g8A g w.2.2):=by
 have hw:=z5A.1 ho
 obtain ⟨w1,w2,w3,w4,w5⟩:=hw
 by_cases hin:0≤f∧f≤1073741824∧0≤t∧t≤1073741824
 ·obtain ⟨i1,i2,i3,i4⟩:=hin
  have go:∀ (h:Hrd) (q:Int),h.1=f→l6A q h=true→n5A h t=false→(∀ x,g8A f w.2.2=some x→x=h)→(g8A f w.2.2=none→w.2.2.length<64)→e2A w f t=((w.1,w.2.1,h4A (i9A h t) w.2.2),true,0) →
    ((e2A w f t).2.2=0∧okW (e2A w f t).1=true∧szW (e2A w f t).1∧(e2A w f t).1.2.1=w.2.1∧c4B (e2A w f t).1 f t∧(∀ f' t',c4B w f' t'→c4B (e2A w f t).1 f' t')∧((e2A w f t).2.1=true→¬ c4B w f t) ∧
     e2A (e2A w f t).1 f t=((e2A w f t).1,false,0)∧∀ g,g≠f→g8A g (e2A w f t).1.2.2=g8A g w.2.2):=by
   intro h q hf hq hk hx hlen e
   obtain ⟨a1,a2,a3,a4⟩:=i7E hq i3 i4 hk
   have hfp:g8A f (h4A (i9A h t) w.2.2)=some (i9A h t):=by rw [g9C,Aj (a2.trans hf)]
   have hkn:c4B (w.1,w.2.1,h4A (i9A h t) w.2.2) f t:=⟨i9A h t,hfp,a3⟩
   have hok:okW (w.1,w.2.1,h4A (i9A h t) w.2.2)=true:=by
    refine z5A.2 ⟨w1,w2,?_,w4,l7D a1 w5 (by rw [a2,hf]; omega)⟩
    show (h4A (i9A h t) w.2.2).length≤64
    cases e2:g8A f w.2.2 with
    | none=>have:=hlen e2; have:=l5D (h:=i9A h t) (l:=w.2.2); omega
    | some x=>rw [l6D (x:=x) w5 (by rw [a2,hf]; exact e2)]; exact w3
   rw [e]
   refine ⟨rfl,hok,⟨hz.1,hz.2.1,by have:=(z5A.1 hok).2.2.1; exact Dz this (by omega),fun x hx' => ?_⟩,rfl,hkn,fun f' t' hk' => ?_,fun _ hk' => ?_,?_,fun g hg => ?_⟩
   ·have:=(k3B hok).2.2.2 x hx'
    omega
   ·obtain ⟨x,x1,x2⟩:=hk'
    by_cases hff:f'=f
    ·subst hff
     have:=hx x x1
     subst this
     exact ⟨_,hfp,a4 _ x2⟩
    ·exact ⟨x,by show g8A f' (h4A _ _)=_; rw [g9C,Ae (by rw [a2,hf]; exact fun h=>hff h.symm)]; exact x1,x2⟩
   ·obtain ⟨x,x1,x2⟩:=hk'
    rw [hx x x1,hk] at x2; cases x2
   ·show e2A (w.1,w.2.1,h4A (i9A h t) w.2.2) f t=_
    unfold e2A
    rw [Aj ⟨i1,i2,i3,i4⟩]
    simp only [hfp]
    rw [Aj a3]
   ·show g8A g (h4A _ _)=_
    rw [g9C,Ae (by rw [a2,hf]; exact fun h=>hg h.symm)]
  cases e:g8A f w.2.2 with
  | none =>
   by_cases hfull:64≤w.2.2.length
   ·left
    have:e2A w f t=(zWq,false,2):=by
     unfold e2A
     rw [Aj ⟨i1,i2,i3,i4⟩,e]
     simp only [Aj hfull]
    rw [this]; exact ⟨rfl,by decide⟩
   ·right
    refine go (f,0,[]) (-1) rfl (j5E i1 i2) ?_ (fun x hx=>by rw [e] at hx; cases hx) (fun _=>by omega) ?_
    ·unfold n5A
     rw [Fi,Ee,Ee]
     exact ⟨by simp,by show ¬ t<0; omega⟩
    ·unfold e2A
     rw [Aj ⟨i1,i2,i3,i4⟩,e]
     simp only [Ae hfull]
  | some h =>
   right
   obtain ⟨k1,k2⟩:=x6B e
   obtain ⟨_,q,hq⟩:=(x4B w5).2 h k2
   by_cases hk:n5A h t=true
   ·have:e2A w f t=(w,false,0):=by
     unfold e2A
     rw [Aj ⟨i1,i2,i3,i4⟩,e]
     simp only [Aj hk]
    rw [this]
    exact ⟨rfl,ho,hz,rfl,⟨h,e,hk⟩,fun _ _ h=>h,(fun h=>by cases h),this,fun _ _=>rfl⟩
   ·refine go h q k1 hq (by simpa using hk) (fun x hx=>by rw [e] at hx; exact (Bp hx).symm) (fun h'=>by rw [e] at h'; cases h') ?_
    unfold e2A
    rw [Aj ⟨i1,i2,i3,i4⟩,e]
    simp only [Ae hk]
 ·left
  have:e2A w f t=(zWq,false,1):=by unfold e2A; rw [Ae hin]
  rw [this]; exact ⟨rfl,by decide⟩
theorem y0F {V:Type} {k k0:List Int} {x:V}:∀ {es:List (Nat×(List Int×V))},l8A (fun b=>k==b) (i9C (fun b=>k0==b) x es)=if k0=k∧(l8A (fun b=>k0==b) es).isSome=true then some x else l8A (fun b=>k==b) es
 | []=>by simp [i9C,l8A]
 | p::es=>by
  rw [i9C,l8A]
  by_cases h1:k0=p.2.1
  ·have e1:(k0==p.2.1)=true:=Cw.2 h1
   rw [e1,Al,Al,l8A]
   by_cases h2:k0=k
   ·subst h2
    simp [e1]
   ·have e2:(k==p.2.1)=false:=Bg (fun h=>h2 (h1.trans h.symm))
    rw [Ae fun h=>h2 h.1,e2,Ai,l8A,e2,Ai]
  ·have e1:(k0==p.2.1)=false:=Bg h1
   rw [e1,Ai,Ai,l8A,y0F (es:=es),l8A]
   by_cases h2:k=p.2.1
   ·have e2:(k==p.2.1)=true:=Cw.2 h2
    rw [e2,Al,Ae fun h=>h1 (h.1.trans h2),Al]
   ·have e2:(k==p.2.1)=false:=Bg h2
    rw [e2,Ai,Ai]
theorem y1F {V:Type} {k k0:List Int} {x:V} {ck:Nat}:∀ {es:List (Nat×(List Int×V))},(l8A (fun b=>k0==b) es).isSome=false→l8A (fun b=>k==b) (es++[(ck,(k0,x))])=if k0=k then some x else l8A (fun b=>k==b) es
 | [],_=>by
  rw [Cv,l8A,l8A]
  by_cases h:k0=k
  ·rw [Aj h,show (k==k0)=true from Cw.2 h.symm]; rfl
  ·rw [Ae h,show (k==k0)=false from Bg fun h'=>h h'.symm]; rfl
 | p::es,hn=>by
  rw [l8A] at hn
  rw [List.cons_append,l8A,l8A]
  cases e1:(k0==p.2.1) with
  | true=>rw [e1] at hn; cases hn
  | false =>
   rw [e1] at hn
   rw [y1F hn]
   cases e2:(k==p.2.1) with
   | true =>
    have:k0≠k:=fun h=>by rw [h,e2] at e1; cases e1
    rw [Al,Al,Ae this]
   | false=>rfl
theorem y2F {V:Type} {k k0:List Int} {x:V} {ck:Nat} {es:List (Nat×(List Int×V))}:l8A (fun b=>k==b) (z1B (fun b=>k0==b) k0 x ck es)=if k0=k then some x else l8A (fun b=>k==b) es:=by
 unfold z1B
 cases e:(l8A (fun b=>k0==b) es).isSome with
 | true =>
  rw [Al,y0F,e]
  by_cases h:k0=k
  ·rw [Aj ⟨h,rfl⟩,Aj h]
  ·rw [Ae fun h'=>h h'.1,Ae h]
 | false=>rw [Ai,y1F e]
end Go.Sq
namespace Go.Sq
open Go.Rx
end Go.Sq
namespace Go.Sq
open Go.Rx
end Go.Sq
namespace Go.Sq
open Go.Rx
def w7A (n:Int) (s:Snd):Bool:=decide (s.2.2.2≤n)&&(s.2.2.1==0)
def q5B (n:Int) (s:Snd):Bool:=decide (s.2.2.2≤n)
def g9A (n:Int) (s:Snd):Snd:=if s.2.2.2≤n then (s.1,s.2.1,s.2.2.1 - 1,n+5) else s
def k1A (n:Int) (l:List Snd):List Snd:=l.filter (fun s=>!w7A n s)
def upT (n:Int) (l:List Snd):List Msg:=(l.filter (w7A n)).map (fun s=>s.2.1)
def q8A (n:Int) (l:List Snd):List Msg:=(l.filter (q5B n)).map (fun s=>s.2.1)
theorem ovB {p x:Bool} {a:Snd} {n:Int} {u:List Msg}:(bif p then some (a,x,n,u,a,()) else some (a,false,n,u,a,()):Option (Snd×Bool×Int×List Msg×Snd×Unit))=some (a,p&&x,n,u,a,()):=by cases p <;> rfl
def x7B (l:List Snd):Prop:=l.length≤64∧∀ s∈l,s.2.1.2.2.2.2.2.2.2.2.2.length≤64
theorem j6E {l:List Snd} {n:Int} (hl:l.length≤1000) (h:∀ s∈l,w7A n s=false):iter i9B (l,(l.length:Int),0,n,[],())=some (.inl (l,n,[],())):=
 t6A (fun i=>(l,(l.length:Int),(i:Int),n,[],())) l.length (fun i hi=>by
  obtain ⟨a,ha⟩:∃ a,l[i]? = some a:=⟨_,Aq hi⟩
  have ws:IntKind.i64.wrap ((i:Int)+1)=((i+1:Nat):Int):=by rw [b8A (by omega) (by omega)]; rfl
  have ho:(decide (a.2.2.2≤n)&&(a.2.2.1==0))=false:=h a (h6A ha)
  simp (disch:=omega) only [i9B,dT,wT,Ao,gD ha,ovB,Aa,ho,Ai,ws]) (by simp (disch:=omega) only [i9B,dF])
theorem j7E {l l1 l2:List Snd} {a:Snd} {n:Int} (e:l=l1++a::l2) (hf:x7B l) (h:∀ s∈l1,w7A n s=false) (ha:w7A n a=true) :
  iter i9B (l,(l.length:Int),0,n,[],())=some (.inr (l,(l1.length:Int),n,[a.2.1],())):=by
 have hlen:l.length=l1.length+(l2.length+1):=by rw [e,Ak,Be]
 have hl:=hf.1
 refine t6A (fun i=>(l,(l.length:Int),(i:Int),n,[],())) l1.length (fun i hi => ?_) ?_
 ·obtain ⟨b,hb⟩:∃ b,l1[i]? = some b:=⟨_,Aq hi⟩
  have hb2:l[i]? = some b:=by rw [e,Bd hi,hb]
  have ws:IntKind.i64.wrap ((i:Int)+1)=((i+1:Nat):Int):=by rw [b8A (by omega) (by omega)]; rfl
  have ho:(decide (b.2.2.2≤n)&&(b.2.2.1==0))=false:=h b (h6A hb)
  simp (disch:=omega) only [i9B,dT,wT,Ao,gD hb2,ovB,Aa,ho,Ai,ws]
 ·have hb2:l[l1.length]? = some a:=by rw [e]; simp
  have ho:(decide (a.2.2.2≤n)&&(a.2.2.1==0))=true:=ha
  have hle:=q3B (m:=a.2.1) (by have:=hf.2 a (h6A hb2); omega)
  have hr:c6A 104 (([]:List Msg)++[a.2.1]).length=true:=n4A.2 (by simp)
  simp (disch:=omega) only [i9B,dT,wT,Ao,gD hb2,ovB,Aa,ho,Al,hle,hr]
  rfl
theorem t9C {l:List Snd} {n:Int} (hf:x7B l) :
  ∀ (k:Nat) (l':List Snd) (wr i:Nat) (u:List Msg),i+k=l.length→wr≤i→l'.length=l.length→l'.take wr=k1A n (l.take i)→l'.drop i=l.drop i→u=upT n (l.take i) →
   ∃ (r:List Snd) (wr':Nat),iter j0B (l',(wr:Int),(i:Int),n,u,())=some (r,(wr':Int),n,upT n l,())∧r.length=l.length∧wr'≤l.length∧r.take wr'=k1A n l
 | 0,l',wr,i,u,hk,hwr,hlen,ht,hd,hu=>by
  have hl:=hf.1
  have:i=l.length:=by omega
  subst this
  rw [List.take_length] at hu ht
  refine ⟨l',wr,m4A (by simp (disch:=omega) only [j0B,dF]; rw [hu]),hlen,hwr,ht⟩
 | k+1,l',wr,i,u,hk,hwr,hlen,ht,hd,hu=>by
  have hl:=hf.1
  obtain ⟨a,ha⟩:∃ a,l[i]? = some a:=⟨_,Aq (by omega)⟩
  have ha':=s8C hd ha
  have ws:IntKind.i64.wrap ((i:Int)+1)=((i+1:Nat):Int):=by rw [b8A (by omega) (by omega)]; rfl
  have ww:IntKind.i64.wrap ((wr:Int)+1)=((wr+1:Nat):Int):=by rw [b8A (by omega) (by omega)]; rfl
  have hul:u.length≤64:=by
   rw [hu]; unfold upT
   rw [List.length_map]
   have:=Cm (w7A n) (l.take i)
   rw [Ap] at this; omega
  cases he:w7A n a with
  | true =>
   have ho:(decide (a.2.2.2≤n)&&(a.2.2.1==0))=true:=he
   have hle:=q3B (m:=a.2.1) (by have:=hf.2 a (h6A ha); omega)
   have hr:c6A 104 (u++[a.2.1]).length=true:=n4A.2 (by simp; omega)
   have hs:j0B (l',(wr:Int),(i:Int),n,u,())=some (.inl (l',(wr:Int),((i+1:Nat):Int),n,u++[a.2.1],())):=by
    simp (disch:=omega) only [j0B,dT,wT,Ao,gD ha',ovB,Aa,ho,Al,hle,hr,Cc,Ai,ws]
   rw [l5A hs]
   refine t9C hf k l' wr (i+1) _ (by omega) (by omega) hlen ?_ (g7C hd) ?_
   ·unfold k1A at ht ⊢
    rw [m6A ha,List.filter_append,ht]
    simp [he]
   ·unfold upT at hu ⊢
    rw [m6A ha,List.filter_append,hu]
    simp [he]
  | false =>
   have ho:(decide (a.2.2.2≤n)&&(a.2.2.1==0))=false:=he
   have hs:j0B (l',(wr:Int),(i:Int),n,u,())=some (.inl (l'.set wr a,((wr+1:Nat):Int),((i+1:Nat):Int),n,u,())):=by
    simp (disch:=omega) only [j0B,dT,wT,Ao,gD ha',ovB,Aa,ho,Al,Cr,Ai,ws,ww]
   obtain ⟨c1,c2,c3⟩:=s9C ha hwr hlen (by unfold k1A at ht; exact ht) hd
   rw [l5A hs]
   refine t9C hf k _ (wr+1) (i+1) _ (by omega) (by omega) c3 ?_ c2 ?_
   ·unfold k1A
    rw [c1,m6A ha,List.filter_append]
    simp [he]
   ·unfold upT at hu ⊢
    rw [m6A ha,List.filter_append,hu]
    simp [he]
theorem j8E {l:List Snd} {n nx:Int} {H:List Hrd} {z:RS} {u:List Msg} (hf:x7B l) (hn:0≤n) (hn2:n≤1099511627776) (hleft:∀ s∈l,-1000≤s.2.2.1∧s.2.2.1≤1000) :
  iter p6B ([],(l.length:Int),0,((nx,l,H):RS),n,z,u,())=some (q8A n l,(nx,l.map (g9A n),H),z,u,()):=by
 have hl:=hf.1
 have wn:IntKind.i64.wrap (n+5)=n+5:=b8A (by omega) (by omega)
 have:=t6A (f:=p6B) (fun i=>(q8A n (l.take i),(l.length:Int),(i:Int),((nx,(l.take i).map (g9A n)++l.drop i,H):RS),n,z,u,())) l.length (r:=(q8A n l,(nx,l.map (g9A n),H),z,u,())) (fun i hi=>by
  obtain ⟨a,ha⟩:∃ a,l[i]? = some a:=⟨_,Aq hi⟩
  have ws:IntKind.i64.wrap ((i:Int)+1)=((i+1:Nat):Int):=by rw [b8A (by omega) (by omega)]; rfl
  have hml:((l.take i).map (g9A n)).length=i:=by rw [List.length_map,Ap]; omega
  have hll:((l.take i).map (g9A n)++l.drop i).length=l.length:=by rw [Ak,hml,Ar]; omega
  have hg:((l.take i).map (g9A n)++l.drop i)[i]? = some a:=by
   rw [List.getElem?_append_right (by omega),hml,Nat.sub_self,o5A ha]; rfl
  have hset:∀ x,((l.take i).map (g9A n)++l.drop i).set i x=(l.take i).map (g9A n)++x::l.drop (i+1):=by
   intro x
   rw [List.set_append_right _ _ (by omega),hml,Nat.sub_self,o5A ha]; rfl
  have hg2:∀ x,((l.take i).map (g9A n)++x::l.drop (i+1))[i]? = some x:=by
   intro x
   rw [List.getElem?_append_right (by omega),hml,Nat.sub_self]; rfl
  have hset2:∀ x y,((l.take i).map (g9A n)++x::l.drop (i+1)).set i y=(l.take i).map (g9A n)++y::l.drop (i+1):=by
   intro x y
   rw [List.set_append_right _ _ (by omega),hml,Nat.sub_self]; rfl
  have hmap:(l.take (i+1)).map (g9A n)++l.drop (i+1)=(l.take i).map (g9A n)++g9A n a::l.drop (i+1):=by rw [m6A ha,List.map_append,Bz]; rfl
  have hag:q8A n (l.take (i+1))=q8A n (l.take i)++(bif q5B n a then [a.2.1] else []):=by
   unfold q8A
   rw [m6A ha,List.filter_append,List.map_append]
   cases hd:q5B n a <;> simp [hd]
  have hal:(q8A n (l.take i)).length≤64:=by
   unfold q8A
   rw [List.length_map]
   have:=Cm (q5B n) (l.take i)
   rw [Ap] at this; omega
  have hle:=q3B (m:=a.2.1) (by have:=hf.2 a (h6A ha); omega)
  have hr:c6A 104 (q8A n (l.take i)++[a.2.1]).length=true:=n4A.2 (by simp; omega)
  have hlf:=hleft a (h6A ha)
  have wl:IntKind.i64.wrap (a.2.2.1 - 1)=a.2.2.1 - 1:=b8A (by omega) (by omega)
  rw [hmap,hag]
  by_cases hd:a.2.2.2≤n
  ·have e1:g9A n a=(a.1,a.2.1,a.2.2.1 - 1,n+5):=by unfold g9A; rw [Aj hd]
   have e2:q5B n a=true:=Ah hd
   rw [e1,e2]
   simp (disch:=omega) only [p6B,dT,wT,hll,Ao,gD hg,hle,Aa,hr,Al,hset,gD (hg2 _),hset2,wl,wn,ws]
  ·have e1:g9A n a=a:=by unfold g9A; rw [Ae hd]
   have e2:q5B n a=false:=Am hd
   rw [e1,e2,←o5A ha]
   simp (disch:=omega) only [p6B,dT,dF,wT,hll,Ao,gD hg,Aa,Ai,Bc,ws]) (by
  simp (disch:=omega) only [p6B,dF,List.take_length,List.drop_length,Bc])
 have e:q8A n []=[]:=rfl
 simpa [e] using this
def f7B (w:RS) (n:Int):RS:=(w.1,(k1A n w.2.1).map (g9A n),w.2.2)
theorem j9E {w:RS} {n:Int} (hz:szW w) (h:okW w=true) (hn:0≤n) (hn2:n≤1099511627776):f2C w n=some (f7B w n,q8A n (k1A n w.2.1),upT n w.2.1,0):=by
 have hf:=k3B h
 have h64:=hf.1
 have hfs:x7B w.2.1:=⟨hf.1,hf.2.1⟩
 have htm:i7B w n=some true:=by
  unfold i7B
  rw [w5A,Ah (show n≥0 from hn),Ah (show n≤1099511627776 by omega),Aa,k2B hz,h]; rfl
 have hrl:(k1A n w.2.1).length≤w.2.1.length:=Cm _ _
 have hfr:x7B (k1A n w.2.1):=⟨by omega,fun s hs=>hf.2.1 s (Dd.1 hs).1⟩
 have hleft:∀ s∈k1A n w.2.1,-1000≤s.2.2.1∧s.2.2.1≤1000:=fun s hs=>by
  obtain ⟨p,hp⟩:=g5C (z5A.1 h).2.2.2.1 s (Dd.1 hs).1
  unfold k0A at hp
  simp only [Ac,Au] at hp
  have:=hp.1.1.2
  omega
 have hag:=j8E (l:=k1A n w.2.1) (n:=n) (nx:=w.1) (H:=w.2.2) (z:=(0,[],[])) (u:=upT n w.2.1) hfr hn hn2 hleft
 unfold f2C
 rw [htm,Aa]
 simp only [Cc,Ai,g6C hf,Aa]
 rcases t1C (w7A n) w.2.1 with h1 | ⟨l1,a,l2,e,h1,h2⟩
 ·have ef:k1A n w.2.1=w.2.1:=Eu.2 fun s hs=>by rw [h1 s hs]; rfl
  have eu:upT n w.2.1=[]:=by
   unfold upT
   rw [List.filter_eq_nil_iff.2 fun s hs=>by rw [h1 s hs]; decide]; rfl
  rw [ef,eu] at hag
  simp only [j6E (by omega) h1,Aa,Dq,Al,hag]
  unfold f7B
  rw [ef,eu]
 ·have hlen:w.2.1.length=l1.length+(l2.length+1):=by rw [e,Ak,Be]
  have ws:IntKind.i64.wrap ((l1.length:Int)+1)=((l1.length+1:Nat):Int):=by rw [b8A (by omega) (by omega)]; rfl
  have hb2:w.2.1[l1.length]? = some a:=by rw [e]; simp
  have htk:w.2.1.take l1.length=l1:=by rw [e,List.take_left]
  have hr1:k1A n l1=l1:=Eu.2 fun s hs=>by rw [h1 s hs]; rfl
  have hu1:upT n l1=[]:=by
   unfold upT
   rw [List.filter_eq_nil_iff.2 fun s hs=>by rw [h1 s hs]; decide]; rfl
  obtain ⟨r,wr,c1,c2,c3,c4⟩:=t9C (l:=w.2.1) (n:=n) hfs l2.length w.2.1 l1.length (l1.length+1) [a.2.1] (by omega) (by omega) rfl (by
   rw [m6A hb2,htk]
   unfold k1A at hr1 ⊢
   rw [List.filter_append,hr1]; simp [h2]) rfl (by
   rw [m6A hb2,htk]
   unfold upT at hu1 ⊢
   rw [List.filter_append,List.map_append,hu1]; simp [h2])
  simp only [j7E e hfs h1 h2,Aa,eF (x:=(l1.length:Int)) (y := -1) (by omega),ws,c1]
  have hcl:=k6D r (List.replicate (((r.length:Int)).toNat - ((wr:Int)).toNat) ((0,((0,(0,(0,(0,(0,(0,(0,(0,(ByteArray.empty,[]))))))))),(0,0))):Snd)) wr (by rw [Ed]; omega)
  have hct:=k5D r (List.replicate (((r.length:Int)).toNat - ((wr:Int)).toNat) ((0,((0,(0,(0,(0,(0,(0,(0,(0,(ByteArray.empty,[]))))))))),(0,0))):Snd)) wr (by omega)
  simp (disch:=omega) only [gT,Int.toNat_natCast] at *
  simp only [Aa,Do,Nat.sub_zero,hct,c4,hag]
  rfl
end Go.Sq
namespace Go.Sq
open Go.Rx
theorem y3F {V:Type} {k k0:Int} {x:V} {ck:Nat}:∀ {es:List (Nat×(Int×V))},l8A (fun b=>k0==b) es=none→l8A (fun b=>k==b) (es++[(ck,(k0,x))])=if k0=k then some x else l8A (fun b=>k==b) es
 | [],_=>by
  rw [Cv,l8A,l8A]
  by_cases h:k0=k
  ·rw [Aj h,show (k==k0)=true from Cw.2 h.symm]; rfl
  ·rw [Ae h,show (k==k0)=false from Bg fun h'=>h h'.symm]; rfl
 | p::es,hn=>by
  rw [l8A] at hn
  rw [List.cons_append,l8A,l8A]
  cases e1:(k0==p.2.1) with
  | true=>rw [e1] at hn; cases hn
  | false =>
   rw [e1] at hn
   rw [y3F hn]
   cases e2:(k==p.2.1) with
   | true =>
    have:k0≠k:=fun h=>by rw [h,e2] at e1; cases e1
    rw [Al,Al,Ae this]
   | false=>rfl
theorem y4F {V:Type} {k k0:Int} {x y:V}:∀ {es:List (Nat×(Int×V))},l8A (fun b=>k0==b) es=some y→l8A (fun b=>k==b) (i9C (fun b=>k0==b) x es)=if k0=k then some x else l8A (fun b=>k==b) es
 | [],h=>by cases h
 | p::es,h=>by
  rw [l8A] at h
  rw [i9C,l8A]
  cases e1:(k0==p.2.1) with
  | true =>
   have h1:k0=p.2.1:=eq_of_beq e1
   rw [Al,l8A]
   by_cases h2:k0=k
   ·rw [Aj h2,show (k==p.2.1)=true from Cw.2 (h2.symm.trans h1)]; rfl
   ·rw [Ae h2,show (k==p.2.1)=false from Bg fun h'=>h2 (h1.trans h'.symm)]; rfl
  | false =>
   rw [e1] at h
   rw [Ai,l8A,y4F h]
   cases e2:(k==p.2.1) with
   | true =>
    have:k0≠k:=fun h=>by rw [h,e2] at e1; cases e1
    rw [Al,Al,Ae this]
   | false=>rfl
theorem a3G {V:Type} {k k0:Int} {x:V} {ck:Nat} {es:List (Nat×(Int×V))}:l8A (fun b=>k==b) (z1B (fun b=>k0==b) k0 x ck es)=if k0=k then some x else l8A (fun b=>k==b) es:=by
 unfold z1B
 cases e:l8A (fun b=>k0==b) es with
 | some y=>rw [show (some y).isSome=true from rfl,Al,y4F e]
 | none=>rw [show (none:Option V).isSome=false from rfl,Ai,y3F e]
def q6B (nx:Int) (s:Snd):Prop:=k0A nx (s.1 - 1) s=true
theorem k0E {nx p:Int} {s:Snd}:k0A nx p s=true↔p<s.1∧q6B nx s:=by
 unfold q6B k0A
 simp only [Ac,Au]
 constructor
 ·rintro ⟨⟨⟨⟨⟨h1,h2⟩,h3⟩,h4⟩,h5⟩,h6⟩
  exact ⟨h1,⟨⟨⟨⟨by omega,h2⟩,h3⟩,h4⟩,h5⟩,h6⟩
 ·rintro ⟨h1,⟨⟨⟨⟨_,h2⟩,h3⟩,h4⟩,h5⟩,h6⟩
  exact ⟨⟨⟨⟨⟨h1,h2⟩,h3⟩,h4⟩,h5⟩,h6⟩
theorem x8B {nx:Int}:∀ {l:List Snd} {p:Int},okL (k0A nx) (·.1) p l=true↔(l.Pairwise (fun a b=>a.1<b.1)∧∀ s∈l,p<s.1∧q6B nx s)
 | [],p=>by simp [okL]
 | a::l,p=>by
  rw [okL,Ac,x8B,k0E,List.pairwise_cons]
  constructor
  ·rintro ⟨⟨h1,h2⟩,h3,h4⟩
   refine ⟨⟨fun x hx=>(h4 x hx).1,h3⟩,fun x hx => ?_⟩
   rw [Bf] at hx
   rcases hx with rfl | hx
   ·exact ⟨h1,h2⟩
   ·exact ⟨by have:=(h4 x hx).1; omega,(h4 x hx).2⟩
  ·rintro ⟨⟨h1,h2⟩,h3⟩
   exact ⟨h3 a Ax,h2,fun x hx=>⟨h1 x hx,(h3 x (Bb _ hx)).2⟩⟩
theorem k1E {nx n:Int} {s:Snd} (h:q6B nx s) (hn:0≤n) (hn2:n≤1099511627776) (ho:w7A n s=false):q6B nx (g9A n s):=by
 unfold g9A
 by_cases hd:s.2.2.2≤n
 ·rw [Aj hd]
  have hl:s.2.2.1≠0:=fun e=>by
   unfold w7A at ho
   rw [Ah hd,e] at ho; cases ho
  unfold q6B k0A at *
  simp only [Ac,Au] at *
  obtain ⟨⟨⟨⟨h1,h2⟩,h3⟩,h4⟩,h5⟩:=h
  exact ⟨⟨⟨⟨h1,h2⟩,by omega⟩,by omega⟩,h5⟩
 ·rw [Ae hd]; exact h
theorem u0C (n:Int) (s:Snd):(g9A n s).1=s.1:=by unfold g9A; split <;> rfl
theorem l9D (n:Int) (s:Snd):(g9A n s).2.1=s.2.1:=by unfold g9A; split <;> rfl
theorem k2E {w:RS} {n:Int} (h:okW w=true) (hn:0≤n) (hn2:n≤1099511627776):okW (f7B w n)=true:=by
 rw [z5A] at *
 obtain ⟨a,b,c,d,e⟩:=h
 rw [x8B] at d
 refine ⟨a,?_,c,x8B.2 ⟨?_,fun s hs => ?_⟩,e⟩
 ·show ((k1A n w.2.1).map (g9A n)).length≤64
  rw [List.length_map]
  have:=Cm (fun s=>!w7A n s) w.2.1
  unfold k1A; omega
 ·show ((k1A n w.2.1).map (g9A n)).Pairwise _
  rw [List.pairwise_map]
  refine List.Pairwise.imp (fun {a b} hab => ?_) (List.Pairwise.filter _ d.1)
  rw [u0C,u0C]; exact hab
 ·obtain ⟨s0,h0,rfl⟩:=List.mem_map.1 (show s∈(k1A n w.2.1).map (g9A n) from hs)
  obtain ⟨h1,h2⟩:=Dd.1 h0
  have:=d.2 s0 h1
  exact ⟨by rw [u0C]; exact this.1,k1E this.2 hn hn2 (by simpa using h2)⟩
theorem k3E {w:RS} {n:Int} (hz:szW w):szW (f7B w n):=by
 obtain ⟨a,b,c,d⟩:=hz
 refine ⟨?_,fun s hs => ?_,c,d⟩
 ·show ((k1A n w.2.1).map (g9A n)).length≤_
  rw [List.length_map]
  exact Dz (Cm _ _) a
 ·obtain ⟨s0,h0,rfl⟩:=List.mem_map.1 (show s∈(k1A n w.2.1).map (g9A n) from hs)
  rw [l9D]
  exact b s0 (Dd.1 h0).1
theorem k4E {w:RS} {n:Int} (h:okW w=true):okW (z4A w n)=true:=by
 rw [z5A] at *
 obtain ⟨a,b,c,d,e⟩:=h
 rw [x8B] at d
 refine ⟨a,Dz (Cm _ _) b,c,x8B.2 ⟨List.Pairwise.filter _ d.1,fun s hs=>d.2 s (Dd.1 (show s∈w.2.1.filter (fun s=>!(s.1==n)) from hs)).1⟩,e⟩
theorem k5E {w:RS} {n:Int} (hz:szW w):szW (z4A w n):=by
 obtain ⟨a,b,c,d⟩:=hz
 exact ⟨Dz (Cm _ _) a,fun s hs=>b s (Dd.1 (show s∈w.2.1.filter (fun s=>!(s.1==n)) from hs)).1,c,d⟩
end Go.Sq
namespace Go.Sq
open Go.Rx
end Go.Sq
namespace Go.Sq
open Go.Rx
end Go.Sq
namespace Go.Sq
open Go.Rx
end Go.Sq
namespace Go.Sq
open Go.Rx
end Go.Sq
namespace Go.Sq
open Go.Rx
end Go.Sq
namespace Go.Sq
open Go.Rx
end Go.Sq
namespace Go.Sq
open Go.Rx
end Go.Sq
namespace Go.Sq
open Go.Rx
section
open Classical
end
end Go.Sq
namespace Go.Sq
open Go.Rx
section
open Classical
end
end Go.Sq
namespace Go.Sq
open Go.Rx
end Go.Sq
namespace Go.Sq
open Go.Rx
end Go.Sq
