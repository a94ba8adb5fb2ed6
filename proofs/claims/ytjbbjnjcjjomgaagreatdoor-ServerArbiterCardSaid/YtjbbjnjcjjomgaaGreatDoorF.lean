import Derived.Test.YtjbbjnjcjjomgaaGreatDoorX1
import Derived.Lib.ItoaNum
set_option linter.unusedSimpArgs false
set_option linter.unusedVariables false
set_option linter.unusedSectionVars false
set_option linter.unusedVariables false
set_option maxRecDepth 100000
namespace Go.Sq
open Go.Rx
noncomputable def u8B (a0:List Int):Option (List Int):=
 bif c6A 1 ([]++a0).length then some ([]++a0) else none
noncomputable def b8B (a0:Int):Option (Bool):=
 some (a0 != a0)
noncomputable def d7C (a0:Int) (a1:Int):Option (Bool):=
 (b8B a0).bind fun y1 =>
 bif y1 then
 (b8B a1).bind fun y2 =>
 bif (!y2) then
 some true
 else
 some (decide (a0<a1))
 else
 some (decide (a0<a1))
noncomputable def d8C (a0:Int):Option (Bool):=
 some (a0 != a0)
noncomputable def v7B (p1:List Int×Int×Int×Int×Int×Unit):Option ((List Int×Int×Int×Int×Int×Unit)⊕((List Int×Int×Int×Int×Unit))):=
 bif (decide (p1.2.2.2.1<p1.2.2.2.2.1)) then
 bif (a7A (IntKind.i64.wrap (g4A .u64 (IntKind.u64.wrap (IntKind.i64.wrap (p1.2.2.2.1+p1.2.2.2.2.1))) 1)) p1.1.length) then
 (d7C (p1.1.getD ((IntKind.i64.wrap (g4A .u64 (IntKind.u64.wrap (IntKind.i64.wrap (p1.2.2.2.1+p1.2.2.2.2.1))) 1)).toNat) 0) p1.2.1).bind fun y2 =>
 bif y2 then
 some (Sum.inl (p1.1,p1.2.1,p1.2.2.1,(IntKind.i64.wrap ((IntKind.i64.wrap (g4A .u64 (IntKind.u64.wrap (IntKind.i64.wrap (p1.2.2.2.1+p1.2.2.2.2.1))) 1))+1)),p1.2.2.2.2.1,()))
 else
 some (Sum.inl (p1.1,p1.2.1,p1.2.2.1,p1.2.2.2.1,(IntKind.i64.wrap (g4A .u64 (IntKind.u64.wrap (IntKind.i64.wrap (p1.2.2.2.1+p1.2.2.2.2.1))) 1)),()))
 else none
 else
 some (Sum.inr (p1.1,p1.2.1,p1.2.2.1,p1.2.2.2.1,()))
noncomputable def z0A (a0:List Int) (a1:Int):Option (Int×Bool):=
 (iter (v7B) (a0,a1,(a0.length:Int),0,(a0.length:Int),())).bind fun j3 =>
 bif (decide (j3.2.2.2.1<j3.2.2.1)) then
 bif (a7A j3.2.2.2.1 j3.1.length) then
 bif ((j3.1.getD j3.2.2.2.1.toNat 0)==j3.2.1) then
 some (j3.2.2.2.1,true)
 else
 bif (a7A j3.2.2.2.1 j3.1.length) then
 (d8C (j3.1.getD j3.2.2.2.1.toNat 0)).bind fun y4 =>
 bif y4 then
 (d8C j3.2.1).bind fun y5 =>
 some (j3.2.2.2.1,y5)
 else
 some (j3.2.2.2.1,false)
 else none
 else none
 else
 some (j3.2.2.2.1,false)
noncomputable def i7F (p1:List Int×List Int×Int×Int×Unit):Option ((List Int×List Int×Int×Int×Unit)⊕(Unit⊕(Bool×Unit))):=
 bif (decide (p1.2.2.2.1<p1.2.2.1)) then
 bif (a7A p1.2.2.2.1 p1.1.length) then
 bif (a7A p1.2.2.2.1 p1.2.1.length) then
 bif ((p1.1.getD p1.2.2.2.1.toNat 0) != (p1.2.1.getD p1.2.2.2.1.toNat 0)) then
 some (Sum.inr (Sum.inr (false,())))
 else
 some (Sum.inl (p1.1,p1.2.1,p1.2.2.1,(IntKind.i64.wrap (p1.2.2.2.1+1)),()))
 else none
 else none
 else
 some (Sum.inr (Sum.inl ()))
noncomputable def i4F (a0:List Int) (a1:List Int):Option (Bool):=
 bif ((a0.length:Int) != (a1.length:Int)) then
 some false
 else
 (iter (i7F) (a0,a1,(a0.length:Int),0,())).bind fun j2 =>
 (match j2 with
 | .inl j3 =>
 (some true)
 | .inr j4 =>
 (some j4.1))
end Go.Sq
set_option linter.unusedVariables false
set_option maxRecDepth 100000
namespace Go.Sq
open Go.Rx
def m2A:List Int:=[240,240,240,240,240,240,240,240,240,240,240,240,240,240,240,240,240,240,240,240,240,240,240,240,240,240,240,240,240,240,240,240,240,240,240,240,240,240,240,240,240,240,240,240,240,240,240,240,240,240,240,240,240,240,240,240,240,240,240,240,240,240,240,240,240,240,240,240,240,240,240,240,240,240,240,240,240,240,240,240,240,240,240,240,240,240,240,240,240,240,240,240,240,240,240,240,240,240,240,240,240,240,240,240,240,240,240,240,240,240,240,240,240,240,240,240,240,240,240,240,240,240,240,240,240,240,240,240,241,241,241,241,241,241,241,241,241,241,241,241,241,241,241,241,241,241,241,241,241,241,241,241,241,241,241,241,241,241,241,241,241,241,241,241,241,241,241,241,241,241,241,241,241,241,241,241,241,241,241,241,241,241,241,241,241,241,241,241,241,241,241,241,241,241,2,2,2,2,2,2,2,2,2,2,2,2,2,2,2,2,2,2,2,2,2,2,2,2,2,2,2,2,2,2,19,3,3,3,3,3,3,3,3,3,3,3,3,35,3,3,52,4,4,4,68,241,241,241,241,241,241,241,241,241,241,241]
def l3A:List (Int×Int):=[(128,191),(160,191),(128,159),(144,191),(128,143),(0,0),(0,0),(0,0),(0,0),(0,0),(0,0),(0,0),(0,0),(0,0),(0,0),(0,0)]
noncomputable def e3C:Option (Int×List (Int×(Int×Int×Int×Int×Int×Int×Int×Int×ByteArray×List Int)×Int×Int)×List (Int×Int×List Int)):=
 some (1,([],[]))
noncomputable def m3A (a0:Int) (a1:Int) (a2:Int):Option (Bool):=
 bif (decide (a0≥a1)) then
 some (decide (a0≤a2))
 else
 some false
noncomputable def u3B (a0:Int):Option (Bool):=
 bif (decide (a0≥32)) then
 some (a0 != 127)
 else
 some false
noncomputable def z1A (a0:ByteArray):Option (Int):=
 bif (a7A 0 a0.size) then
 bif (a7A 1 a0.size) then
 bif (a7A 2 a0.size) then
 bif (a7A 3 a0.size) then
 bif (a7A 4 a0.size) then
 bif (a7A 5 a0.size) then
 bif (a7A 6 a0.size) then
 bif (a7A 7 a0.size) then
 some (i5A .or .u64 (i5A .or .u64 (i5A .or .u64 (i5A .or .u64 (i5A .or .u64 (i5A .or .u64 (i5A .or .u64 (IntKind.u64.wrap ((a0.data.getD 0 0).toNat:Int)) (l4A .u64 (IntKind.u64.wrap ((a0.data.getD 1 0).toNat:Int)) 8)) (l4A .u64 (IntKind.u64.wrap ((a0.data.getD 2 0).toNat:Int)) 16)) (l4A .u64 (IntKind.u64.wrap ((a0.data.getD 3 0).toNat:Int)) 24)) (l4A .u64 (IntKind.u64.wrap ((a0.data.getD 4 0).toNat:Int)) 32)) (l4A .u64 (IntKind.u64.wrap ((a0.data.getD 5 0).toNat:Int)) 40)) (l4A .u64 (IntKind.u64.wrap ((a0.data.getD 6 0).toNat:Int)) 48)) (l4A .u64 (IntKind.u64.wrap ((a0.data.getD 7 0).toNat:Int)) 56))
 else none
 else none
 else none
 else none
 else none
 else none
 else none
 else none
noncomputable def p2B (p7:ByteArray×Unit):Option ((ByteArray×Unit)⊕((ByteArray×Unit))):=
 (bif (decide ((p7.1.size:Int)>32)) then
 (z1A p7.1).bind fun y8 =>
 bif (f3A 8 (p7.1.size:Int) p7.1.size) then
 (z1A (p7.1.extract 8 (p7.1.size:Int).toNat)).bind fun y9 =>
 bif (f3A 16 (p7.1.size:Int) p7.1.size) then
 (z1A (p7.1.extract 16 (p7.1.size:Int).toNat)).bind fun y10 =>
 bif (f3A 24 (p7.1.size:Int) p7.1.size) then
 (z1A (p7.1.extract 24 (p7.1.size:Int).toNat)).bind fun y11 =>
 some (p7.1,((i5A .and .u64 (i5A .or .u64 (i5A .or .u64 y8 y9) (i5A .or .u64 y10 y11)) 9259542123273814144)==0),())
 else none
 else none
 else none
 else
 some (p7.1,false,()):Option ((ByteArray×Bool×Unit))).bind fun j12 =>
 bif j12.2.1 then
 bif (f3A 32 (j12.1.size:Int) j12.1.size) then
 some (Sum.inl ((j12.1.extract 32 (j12.1.size:Int).toNat),()))
 else none
 else
 some (Sum.inr (j12.1,()))
noncomputable def p5A (p1:ByteArray×Unit):Option ((ByteArray×Unit)⊕(Unit⊕(Bool×Unit))):=
 bif (decide ((p1.1.size:Int)>0)) then
 bif (a7A 0 p1.1.size) then
 bif (decide (((p1.1.data.getD 0 0).toNat:Int)<128)) then
 bif (f3A 1 (p1.1.size:Int) p1.1.size) then
 (bif (decide (((p1.1.extract 1 (p1.1.size:Int).toNat).size:Int)>8)) then
 (z1A (p1.1.extract 1 (p1.1.size:Int).toNat)).bind fun y2 =>
 some ((p1.1.extract 1 (p1.1.size:Int).toNat),((i5A .and .u64 y2 9259542123273814144)==0),())
 else
 some ((p1.1.extract 1 (p1.1.size:Int).toNat),false,()):Option ((ByteArray×Bool×Unit))).bind fun j3 =>
 bif j3.2.1 then
 bif (f3A 8 (j3.1.size:Int) j3.1.size) then
 (bif (decide (((j3.1.extract 8 (j3.1.size:Int).toNat).size:Int)>16)) then
 (z1A (j3.1.extract 8 (j3.1.size:Int).toNat)).bind fun y4 =>
 bif (f3A 8 ((j3.1.extract 8 (j3.1.size:Int).toNat).size:Int) ((j3.1.extract 8 (j3.1.size:Int).toNat).size)) then
 (z1A ((j3.1.extract 8 (j3.1.size:Int).toNat).extract 8 ((j3.1.extract 8 (j3.1.size:Int).toNat).size:Int).toNat)).bind fun y5 =>
 some ((j3.1.extract 8 (j3.1.size:Int).toNat),((i5A .and .u64 (i5A .or .u64 y4 y5) 9259542123273814144)==0),())
 else none
 else
 some ((j3.1.extract 8 (j3.1.size:Int).toNat),false,()):Option ((ByteArray×Bool×Unit))).bind fun j6 =>
 bif j6.2.1 then
 bif (f3A 16 (j6.1.size:Int) j6.1.size) then
 (iter (p2B) ((j6.1.extract 16 (j6.1.size:Int).toNat),())).bind fun j13 =>
 some (Sum.inl (j13.1,()))
 else none
 else
 some (Sum.inl (j6.1,()))
 else none
 else
 some (Sum.inl (j3.1,()))
 else none
 else
 bif (a7A ((p1.1.data.getD 0 0).toNat:Int) 256) then
 bif (a7A (g4A .u8 (m2A.getD (((p1.1.data.getD 0 0).toNat:Int).toNat) 0) 4) 16) then
 bif ((IntKind.i64.wrap (i5A .and .u8 (m2A.getD (((p1.1.data.getD 0 0).toNat:Int).toNat) 0) 7))==2) then
 (bif (decide ((p1.1.size:Int)<2)) then
 some (p1.1,true,())
 else
 bif (a7A 1 p1.1.size) then
 bif (decide (((p1.1.data.getD 1 0).toNat:Int)<((l3A.getD ((g4A .u8 (m2A.getD (((p1.1.data.getD 0 0).toNat:Int).toNat) 0) 4).toNat) (0,0))).1)) then
 some (p1.1,true,())
 else
 bif (a7A 1 p1.1.size) then
 some (p1.1,(decide (((l3A.getD ((g4A .u8 (m2A.getD (((p1.1.data.getD 0 0).toNat:Int).toNat) 0) 4).toNat) (0,0))).2<((p1.1.data.getD 1 0).toNat:Int))),())
 else none
 else none:Option ((ByteArray×Bool×Unit))).bind fun j14 =>
 bif j14.2.1 then
 some (Sum.inr (Sum.inr (false,())))
 else
 bif (f3A 2 (j14.1.size:Int) j14.1.size) then
 some (Sum.inl ((j14.1.extract 2 (j14.1.size:Int).toNat),()))
 else none
 else
 bif ((IntKind.i64.wrap (i5A .and .u8 (m2A.getD (((p1.1.data.getD 0 0).toNat:Int).toNat) 0) 7))==3) then
 (bif (decide ((p1.1.size:Int)<3)) then
 some (p1.1,true,())
 else
 bif (a7A 1 p1.1.size) then
 bif (decide (((p1.1.data.getD 1 0).toNat:Int)<((l3A.getD ((g4A .u8 (m2A.getD (((p1.1.data.getD 0 0).toNat:Int).toNat) 0) 4).toNat) (0,0))).1)) then
 some (p1.1,true,())
 else
 bif (a7A 1 p1.1.size) then
 bif (decide (((l3A.getD ((g4A .u8 (m2A.getD (((p1.1.data.getD 0 0).toNat:Int).toNat) 0) 4).toNat) (0,0))).2<((p1.1.data.getD 1 0).toNat:Int))) then
 some (p1.1,true,())
 else
 bif (a7A 2 p1.1.size) then
 bif (decide (((p1.1.data.getD 2 0).toNat:Int)<128)) then
 some (p1.1,true,())
 else
 bif (a7A 2 p1.1.size) then
 some (p1.1,(decide (191<((p1.1.data.getD 2 0).toNat:Int))),())
 else none
 else none
 else none
 else none:Option ((ByteArray×Bool×Unit))).bind fun j15 =>
 bif j15.2.1 then
 some (Sum.inr (Sum.inr (false,())))
 else
 bif (f3A 3 (j15.1.size:Int) j15.1.size) then
 some (Sum.inl ((j15.1.extract 3 (j15.1.size:Int).toNat),()))
 else none
 else
 bif ((IntKind.i64.wrap (i5A .and .u8 (m2A.getD (((p1.1.data.getD 0 0).toNat:Int).toNat) 0) 7))==4) then
 (bif (decide ((p1.1.size:Int)<4)) then
 some (p1.1,true,())
 else
 bif (a7A 1 p1.1.size) then
 bif (decide (((p1.1.data.getD 1 0).toNat:Int)<((l3A.getD ((g4A .u8 (m2A.getD (((p1.1.data.getD 0 0).toNat:Int).toNat) 0) 4).toNat) (0,0))).1)) then
 some (p1.1,true,())
 else
 bif (a7A 1 p1.1.size) then
 bif (decide (((l3A.getD ((g4A .u8 (m2A.getD (((p1.1.data.getD 0 0).toNat:Int).toNat) 0) 4).toNat) (0,0))).2<((p1.1.data.getD 1 0).toNat:Int))) then
 some (p1.1,true,())
 else
 bif (a7A 2 p1.1.size) then
 bif (decide (((p1.1.data.getD 2 0).toNat:Int)<128)) then
 some (p1.1,true,())
 else
 bif (a7A 2 p1.1.size) then
 bif (decide (191<((p1.1.data.getD 2 0).toNat:Int))) then
 some (p1.1,true,())
 else
 bif (a7A 3 p1.1.size) then
 bif (decide (((p1.1.data.getD 3 0).toNat:Int)<128)) then
 some (p1.1,true,())
 else
 bif (a7A 3 p1.1.size) then
 some (p1.1,(decide (191<((p1.1.data.getD 3 0).toNat:Int))),())
 else none
 else none
 else none
 else none
 else none
 else none:Option ((ByteArray×Bool×Unit))).bind fun j16 =>
 bif j16.2.1 then
 some (Sum.inr (Sum.inr (false,())))
 else
 bif (f3A 4 (j16.1.size:Int) j16.1.size) then
 some (Sum.inl ((j16.1.extract 4 (j16.1.size:Int).toNat),()))
 else none
 else
 some (Sum.inr (Sum.inr (false,())))
 else none
 else none
 else none
 else
 some (Sum.inr (Sum.inl ()))
noncomputable def d9C (a0:ByteArray):Option (Bool):=
 (iter (p5A) (a0,())).bind fun j17 =>
 (match j17 with
 | .inl j18 =>
 (some true)
 | .inr j19 =>
 (some j19.1))
noncomputable def v8B (p1:ByteArray×Int×(ByteArray×Int)×Unit):Option ((ByteArray×Int×(ByteArray×Int)×Unit)⊕((ByteArray×Int×Unit)⊕(Bool×Unit))):=
 bif (decide (p1.2.2.1.2.toNat<p1.2.2.1.1.size)) then
 (u3B (f6C p1.2.2.1.1 p1.2.2.1.2.toNat)).bind fun y2 =>
 bif (!y2) then
 some (Sum.inr (Sum.inr (false,())))
 else
 some (Sum.inl (p1.1,(IntKind.i64.wrap (p1.2.1+1)),(p1.2.2.1.1,((p1.2.2.1.2.toNat+q4A p1.2.2.1.1 p1.2.2.1.2.toNat):Int)),()))
 else
 some (Sum.inr (Sum.inl (p1.1,p1.2.1,())))
noncomputable def u4B (a0:ByteArray):Option (Bool):=
 (iter (v8B) (a0,0,(a0,0),())).bind fun j3 =>
 (match j3 with
 | .inl j4 =>
 (bif (decide (j4.2.1≤16)) then
 (d9C j4.1).bind fun y6 =>
 some y6
 else
 some false)
 | .inr j5 =>
 (some j5.1))
noncomputable def b9B (a0:Int×Int×Int×Int×Int×Int×Int×Int×ByteArray×List Int):Option (Int):=
 (bif (decide (a0.1≥1)) then
 bif (decide (a0.1≤15)) then
 bif (decide ((a0.2.2.2.2.2.2.2.2.2.length:Int)≤64)) then
 some (((a0.1==13)==(decide ((a0.2.2.2.2.2.2.2.2.2.length:Int)>0))),a0,())
 else
 some (false,a0,())
 else
 some (false,a0,())
 else
 some (false,a0,()):Option ((Bool×(Int×Int×Int×Int×Int×Int×Int×Int×ByteArray×List Int)×Unit))).bind fun j1 =>
 (bif j1.1 then
 bif (decide (j1.2.1.2.1≥0)) then
 some ((decide (j1.2.1.2.1≤1073741824)),j1.2.1,())
 else
 some (false,j1.2.1,())
 else
 some (false,j1.2.1,()):Option ((Bool×(Int×Int×Int×Int×Int×Int×Int×Int×ByteArray×List Int)×Unit))).bind fun j2 =>
 (bif j2.1 then
 bif (decide (j2.2.1.2.2.1≥0)) then
 some ((decide (j2.2.1.2.2.1≤1073741824)),j2.2.1,())
 else
 some (false,j2.2.1,())
 else
 some (false,j2.2.1,()):Option ((Bool×(Int×Int×Int×Int×Int×Int×Int×Int×ByteArray×List Int)×Unit))).bind fun j3 =>
 (bif j3.1 then
 bif (decide (j3.2.1.2.2.2.1≥0)) then
 some ((decide (j3.2.1.2.2.2.1≤1073741824)),j3.2.1,())
 else
 some (false,j3.2.1,())
 else
 some (false,j3.2.1,()):Option ((Bool×(Int×Int×Int×Int×Int×Int×Int×Int×ByteArray×List Int)×Unit))).bind fun j4 =>
 (bif j4.1 then
 bif (decide (j4.2.1.2.2.2.2.1≥0)) then
 some ((decide (j4.2.1.2.2.2.2.1≤1073741824)),j4.2.1,())
 else
 some (false,j4.2.1,())
 else
 some (false,j4.2.1,()):Option ((Bool×(Int×Int×Int×Int×Int×Int×Int×Int×ByteArray×List Int)×Unit))).bind fun j5 =>
 (bif j5.1 then
 bif (decide (j5.2.1.2.2.2.2.2.1≥0)) then
 some ((decide (j5.2.1.2.2.2.2.2.1≤1073741824)),j5.2.1,())
 else
 some (false,j5.2.1,())
 else
 some (false,j5.2.1,()):Option ((Bool×(Int×Int×Int×Int×Int×Int×Int×Int×ByteArray×List Int)×Unit))).bind fun j6 =>
 (bif j6.1 then
 bif (decide (j6.2.1.2.2.2.2.2.2.1≥0)) then
 some ((decide (j6.2.1.2.2.2.2.2.2.1≤1073741824)),j6.2.1,())
 else
 some (false,j6.2.1,())
 else
 some (false,j6.2.1,()):Option ((Bool×(Int×Int×Int×Int×Int×Int×Int×Int×ByteArray×List Int)×Unit))).bind fun j7 =>
 (bif j7.1 then
 bif (decide (j7.2.1.2.2.2.2.2.2.2.1≥0)) then
 some ((decide (j7.2.1.2.2.2.2.2.2.2.1≤1073741824)),j7.2.1,())
 else
 some (false,j7.2.1,())
 else
 some (false,j7.2.1,()):Option ((Bool×(Int×Int×Int×Int×Int×Int×Int×Int×ByteArray×List Int)×Unit))).bind fun j8 =>
 ((bif (j8.2.1.1==1) then
 some (j8.1,true,j8.2.1,())
 else
 bif (j8.2.1.1==9) then
 some (j8.1,true,j8.2.1,())
 else
 some (j8.1,(j8.2.1.1==5),j8.2.1,()):Option ((Bool×Bool×(Int×Int×Int×Int×Int×Int×Int×Int×ByteArray×List Int)×Unit))).bind fun j9 =>
 bif j9.2.1 then
 bif j9.1 then
 (u4B j9.2.2.1.2.2.2.2.2.2.2.2.1).bind fun y10 =>
 some (y10,())
 else
 some (false,())
 else
 bif j9.1 then
 some ((p3B j9.2.2.1.2.2.2.2.2.2.2.2.1 (ByteArray.mk #[])),())
 else
 some (false,()):Option ((Bool×Unit))).bind fun j11 =>
 bif (!j11.1) then
 some 1
 else
 some 0
noncomputable def p4B (p3:Bool×Int×(List (Int×(Int×Int×Int×Int×Int×Int×Int×Int×ByteArray×List Int)×Int×Int))×Int×Int×(Int×List (Int×(Int×Int×Int×Int×Int×Int×Int×Int×ByteArray×List Int)×Int×Int)×List (Int×Int×List Int))×Unit):Option ((Bool×Int×(List (Int×(Int×Int×Int×Int×Int×Int×Int×Int×ByteArray×List Int)×Int×Int))×Int×Int×(Int×List (Int×(Int×Int×Int×Int×Int×Int×Int×Int×ByteArray×List Int)×Int×Int)×List (Int×Int×List Int))×Unit)⊕((Bool×(Int×List (Int×(Int×Int×Int×Int×Int×Int×Int×Int×ByteArray×List Int)×Int×Int)×List (Int×Int×List Int))×Unit))):=
 bif (decide (p3.2.2.2.2.1<p3.2.2.2.1)) then
 bif (a7A p3.2.2.2.2.1 p3.2.2.1.length) then
 (bif p3.1 then
 (m3A (((p3.2.2.1.getD p3.2.2.2.2.1.toNat (0,((0,(0,(0,(0,(0,(0,(0,(0,(ByteArray.empty,[]))))))))),(0,0))))).1) (IntKind.i64.wrap (p3.2.1+1)) (IntKind.i64.wrap (p3.2.2.2.2.2.1.1 - 1))).bind fun y4 =>
 bif y4 then
 bif ((((((((((p3.2.2.1.getD p3.2.2.2.2.1.toNat (0,((0,(0,(0,(0,(0,(0,(0,(0,(ByteArray.empty,[]))))))))),(0,0))))).2).1).2).2).2).2).1)==(((p3.2.2.1.getD p3.2.2.2.2.1.toNat (0,((0,(0,(0,(0,(0,(0,(0,(0,(ByteArray.empty,[]))))))))),(0,0))))).1)) then
 (m3A (((((p3.2.2.1.getD p3.2.2.2.2.1.toNat (0,((0,(0,(0,(0,(0,(0,(0,(0,(ByteArray.empty,[]))))))))),(0,0))))).2).2).1) 0 4).bind fun y5 =>
 bif y5 then
 (m3A (((((p3.2.2.1.getD p3.2.2.2.2.1.toNat (0,((0,(0,(0,(0,(0,(0,(0,(0,(ByteArray.empty,[]))))))))),(0,0))))).2).2).2) 0 2199023255552).bind fun y6 =>
 bif y6 then
 (b9B ((((p3.2.2.1.getD p3.2.2.2.2.1.toNat (0,((0,(0,(0,(0,(0,(0,(0,(0,(ByteArray.empty,[]))))))))),(0,0))))).2).1)).bind fun y7 =>
 some ((y7==0),p3.2.2.1,p3.2.2.2.1,p3.2.2.2.2.1,p3.2.2.2.2.2.1,(p3.2.2.1.getD p3.2.2.2.2.1.toNat (0,((0,(0,(0,(0,(0,(0,(0,(0,(ByteArray.empty,[]))))))))),(0,0)))),())
 else
 some (false,p3.2.2.1,p3.2.2.2.1,p3.2.2.2.2.1,p3.2.2.2.2.2.1,(p3.2.2.1.getD p3.2.2.2.2.1.toNat (0,((0,(0,(0,(0,(0,(0,(0,(0,(ByteArray.empty,[]))))))))),(0,0)))),())
 else
 some (false,p3.2.2.1,p3.2.2.2.1,p3.2.2.2.2.1,p3.2.2.2.2.2.1,(p3.2.2.1.getD p3.2.2.2.2.1.toNat (0,((0,(0,(0,(0,(0,(0,(0,(0,(ByteArray.empty,[]))))))))),(0,0)))),())
 else
 some (false,p3.2.2.1,p3.2.2.2.1,p3.2.2.2.2.1,p3.2.2.2.2.2.1,(p3.2.2.1.getD p3.2.2.2.2.1.toNat (0,((0,(0,(0,(0,(0,(0,(0,(0,(ByteArray.empty,[]))))))))),(0,0)))),())
 else
 some (false,p3.2.2.1,p3.2.2.2.1,p3.2.2.2.2.1,p3.2.2.2.2.2.1,(p3.2.2.1.getD p3.2.2.2.2.1.toNat (0,((0,(0,(0,(0,(0,(0,(0,(0,(ByteArray.empty,[]))))))))),(0,0)))),())
 else
 some (false,p3.2.2.1,p3.2.2.2.1,p3.2.2.2.2.1,p3.2.2.2.2.2.1,(p3.2.2.1.getD p3.2.2.2.2.1.toNat (0,((0,(0,(0,(0,(0,(0,(0,(0,(ByteArray.empty,[]))))))))),(0,0)))),()):Option ((Bool×(List (Int×(Int×Int×Int×Int×Int×Int×Int×Int×ByteArray×List Int)×Int×Int))×Int×Int×(Int×List (Int×(Int×Int×Int×Int×Int×Int×Int×Int×ByteArray×List Int)×Int×Int)×List (Int×Int×List Int))×(Int×(Int×Int×Int×Int×Int×Int×Int×Int×ByteArray×List Int)×Int×Int)×Unit))).bind fun j8 =>
 some (Sum.inl (j8.1,j8.2.2.2.2.2.1.1,j8.2.1,j8.2.2.1,(IntKind.i64.wrap (j8.2.2.2.1+1)),j8.2.2.2.2.1,()))
 else none
 else
 some (Sum.inr (p3.1,p3.2.2.2.2.2.1,()))
noncomputable def p5B (p13:Bool×Int×Int×(List (Int×Int×List Int))×Int×Int×List Int×Int×Int×Unit):Option ((Bool×Int×Int×(List (Int×Int×List Int))×Int×Int×List Int×Int×Int×Unit)⊕((Bool×Int×(List (Int×Int×List Int))×Int×Int×Unit))):=
 bif (decide (p13.2.2.2.2.2.2.2.2.1<p13.2.2.2.2.2.2.2.1)) then
 bif (a7A p13.2.2.2.2.2.2.2.2.1 p13.2.2.2.2.2.2.1.length) then
 (bif p13.1 then
 bif (decide ((p13.2.2.2.2.2.2.1.getD p13.2.2.2.2.2.2.2.2.1.toNat 0)>p13.2.2.1)) then
 some ((decide ((p13.2.2.2.2.2.2.1.getD p13.2.2.2.2.2.2.2.2.1.toNat 0)≤1073741824)),p13.2.1,(p13.2.2.2.2.2.2.1.getD p13.2.2.2.2.2.2.2.2.1.toNat 0),p13.2.2.2.1,p13.2.2.2.2.1,p13.2.2.2.2.2.1,p13.2.2.2.2.2.2.1,p13.2.2.2.2.2.2.2.1,p13.2.2.2.2.2.2.2.2.1,())
 else
 some (false,p13.2.1,(p13.2.2.2.2.2.2.1.getD p13.2.2.2.2.2.2.2.2.1.toNat 0),p13.2.2.2.1,p13.2.2.2.2.1,p13.2.2.2.2.2.1,p13.2.2.2.2.2.2.1,p13.2.2.2.2.2.2.2.1,p13.2.2.2.2.2.2.2.2.1,())
 else
 some (false,p13.2.1,(p13.2.2.2.2.2.2.1.getD p13.2.2.2.2.2.2.2.2.1.toNat 0),p13.2.2.2.1,p13.2.2.2.2.1,p13.2.2.2.2.2.1,p13.2.2.2.2.2.2.1,p13.2.2.2.2.2.2.2.1,p13.2.2.2.2.2.2.2.2.1,()):Option ((Bool×Int×Int×(List (Int×Int×List Int))×Int×Int×List Int×Int×Int×Unit))).bind fun j14 =>
 some (Sum.inl (j14.1,j14.2.1,j14.2.2.1,j14.2.2.2.1,j14.2.2.2.2.1,j14.2.2.2.2.2.1,j14.2.2.2.2.2.2.1,j14.2.2.2.2.2.2.2.1,(IntKind.i64.wrap (j14.2.2.2.2.2.2.2.2.1+1)),()))
 else none
 else
 some (Sum.inr (p13.1,p13.2.1,p13.2.2.2.1,p13.2.2.2.2.1,p13.2.2.2.2.2.1,()))
noncomputable def v9B (p10:Bool×Int×(List (Int×Int×List Int))×Int×Int×Unit):Option ((Bool×Int×(List (Int×Int×List Int))×Int×Int×Unit)⊕((Bool×Unit))):=
 bif (decide (p10.2.2.2.2.1<p10.2.2.2.1)) then
 bif (a7A p10.2.2.2.2.1 p10.2.2.1.length) then
 (bif p10.1 then
 bif (decide (((p10.2.2.1.getD p10.2.2.2.2.1.toNat (0,(0,[])))).1>p10.2.1)) then
 bif (decide (((p10.2.2.1.getD p10.2.2.2.2.1.toNat (0,(0,[])))).1≤1073741824)) then
 (m3A ((((p10.2.2.1.getD p10.2.2.2.2.1.toNat (0,(0,[])))).2).1) 0 1073741825).bind fun y11 =>
 bif y11 then
 some ((decide ((((((p10.2.2.1.getD p10.2.2.2.2.1.toNat (0,(0,[])))).2).2).length:Int)≤16)),p10.2.2.1,p10.2.2.2.1,p10.2.2.2.2.1,(p10.2.2.1.getD p10.2.2.2.2.1.toNat (0,(0,[]))),())
 else
 some (false,p10.2.2.1,p10.2.2.2.1,p10.2.2.2.2.1,(p10.2.2.1.getD p10.2.2.2.2.1.toNat (0,(0,[]))),())
 else
 some (false,p10.2.2.1,p10.2.2.2.1,p10.2.2.2.2.1,(p10.2.2.1.getD p10.2.2.2.2.1.toNat (0,(0,[]))),())
 else
 some (false,p10.2.2.1,p10.2.2.2.1,p10.2.2.2.2.1,(p10.2.2.1.getD p10.2.2.2.2.1.toNat (0,(0,[]))),())
 else
 some (false,p10.2.2.1,p10.2.2.2.1,p10.2.2.2.2.1,(p10.2.2.1.getD p10.2.2.2.2.1.toNat (0,(0,[]))),()):Option ((Bool×(List (Int×Int×List Int))×Int×Int×(Int×Int×List Int)×Unit))).bind fun j12 =>
 (iter (p5B) (j12.1,j12.2.2.2.2.1.1,j12.2.2.2.2.1.2.1,j12.2.1,j12.2.2.1,j12.2.2.2.1,j12.2.2.2.2.1.2.2,(j12.2.2.2.2.1.2.2.length:Int),0,())).bind fun j15 =>
 some (Sum.inl (j15.1,j15.2.1,j15.2.2.1,j15.2.2.2.1,(IntKind.i64.wrap (j15.2.2.2.2.1+1)),()))
 else none
 else
 some (Sum.inr (p10.1,()))
noncomputable def v6A (a0:Int×List (Int×(Int×Int×Int×Int×Int×Int×Int×Int×ByteArray×List Int)×Int×Int)×List (Int×Int×List Int)):Option (Int):=
 ((m3A a0.1 1 1073741824).bind fun y1 =>
 bif y1 then
 bif (decide ((a0.2.1.length:Int)≤64)) then
 some ((decide ((a0.2.2.length:Int)≤64)),a0,())
 else
 some (false,a0,())
 else
 some (false,a0,()):Option ((Bool×(Int×List (Int×(Int×Int×Int×Int×Int×Int×Int×Int×ByteArray×List Int)×Int×Int)×List (Int×Int×List Int))×Unit))).bind fun j2 =>
 (iter (p4B) (j2.1,0,j2.2.1.2.1,(j2.2.1.2.1.length:Int),0,j2.2.1,())).bind fun j9 =>
 (iter (v9B) (j9.1,(-1),j9.2.1.2.2,(j9.2.1.2.2.length:Int),0,())).bind fun j16 =>
 bif (!j16.1) then
 some 1
 else
 some 0
noncomputable def i7B (a0:Int×List (Int×(Int×Int×Int×Int×Int×Int×Int×Int×ByteArray×List Int)×Int×Int)×List (Int×Int×List Int)) (a1:Int):Option (Bool):=
 (m3A a1 0 1099511627776).bind fun y1 =>
 bif y1 then
 (v6A a0).bind fun y2 =>
 some (y2==0)
 else
 some false
noncomputable def u6B (a0:List (Int×(Int×Int×Int×Int×Int×Int×Int×Int×ByteArray×List Int)×Int×Int)):Option (List (Int×(Int×Int×Int×Int×Int×Int×Int×Int×ByteArray×List Int)×Int×Int)):=
 bif c6A 128 ([]++a0).length then some ([]++a0) else none
noncomputable def u7B (a0:List (Int×Int×List Int)):Option (List (Int×Int×List Int)):=
 bif c6A 40 ([]++a0).length then some ([]++a0) else none
noncomputable def v7A (a0:Int×Int×Int×Int×Int×Int×Int×Int×ByteArray×List Int):Option (Int×Int×Int×Int×Int×Int×Int×Int×ByteArray×List Int):=
 (u8B a0.2.2.2.2.2.2.2.2.2).bind fun y1 =>
 some (a0.1,(a0.2.1,(a0.2.2.1,(a0.2.2.2.1,(a0.2.2.2.2.1,(a0.2.2.2.2.2.1,(a0.2.2.2.2.2.2.1,(a0.2.2.2.2.2.2.2.1,(a0.2.2.2.2.2.2.2.2.1,y1)))))))))
noncomputable def s2A (a0:List Int):Option (List Int):=
 bif c6A 8 ([]++a0).length then some ([]++a0) else none
noncomputable def e9B (p3:Int×Int×(Int×List (Int×(Int×Int×Int×Int×Int×Int×Int×Int×ByteArray×List Int)×Int×Int)×List (Int×Int×List Int))×(Int×List (Int×(Int×Int×Int×Int×Int×Int×Int×Int×ByteArray×List Int)×Int×Int)×List (Int×Int×List Int))×Unit):Option ((Int×Int×(Int×List (Int×(Int×Int×Int×Int×Int×Int×Int×Int×ByteArray×List Int)×Int×Int)×List (Int×Int×List Int))×(Int×List (Int×(Int×Int×Int×Int×Int×Int×Int×Int×ByteArray×List Int)×Int×Int)×List (Int×Int×List Int))×Unit)⊕(((Int×List (Int×(Int×Int×Int×Int×Int×Int×Int×Int×ByteArray×List Int)×Int×Int)×List (Int×Int×List Int))×(Int×List (Int×(Int×Int×Int×Int×Int×Int×Int×Int×ByteArray×List Int)×Int×Int)×List (Int×Int×List Int))×Unit))):=
 bif (decide (p3.2.1<p3.1)) then
 bif (a7A p3.2.1 p3.2.2.1.2.1.length) then
 (v7A ((((p3.2.2.1.2.1.getD p3.2.1.toNat (0,((0,(0,(0,(0,(0,(0,(0,(0,(ByteArray.empty,[]))))))))),(0,0))))).2).1)).bind fun y4 =>
 bif (a7A p3.2.1 p3.2.2.1.2.1.length) then
 some (Sum.inl (p3.1,(IntKind.i64.wrap (p3.2.1+1)),(p3.2.2.1.1,((p3.2.2.1.2.1.set p3.2.1.toNat (((p3.2.2.1.2.1.getD p3.2.1.toNat (0,((0,(0,(0,(0,(0,(0,(0,(0,(ByteArray.empty,[]))))))))),(0,0))))).1,(y4,((((p3.2.2.1.2.1.getD p3.2.1.toNat (0,((0,(0,(0,(0,(0,(0,(0,(0,(ByteArray.empty,[]))))))))),(0,0))))).2).2)))),p3.2.2.1.2.2)),p3.2.2.2.1,()))
 else none
 else none
 else
 some (Sum.inr (p3.2.2.1,p3.2.2.2.1,()))
noncomputable def f7C (p6:Int×Int×(Int×List (Int×(Int×Int×Int×Int×Int×Int×Int×Int×ByteArray×List Int)×Int×Int)×List (Int×Int×List Int))×(Int×List (Int×(Int×Int×Int×Int×Int×Int×Int×Int×ByteArray×List Int)×Int×Int)×List (Int×Int×List Int))×Unit):Option ((Int×Int×(Int×List (Int×(Int×Int×Int×Int×Int×Int×Int×Int×ByteArray×List Int)×Int×Int)×List (Int×Int×List Int))×(Int×List (Int×(Int×Int×Int×Int×Int×Int×Int×Int×ByteArray×List Int)×Int×Int)×List (Int×Int×List Int))×Unit)⊕(((Int×List (Int×(Int×Int×Int×Int×Int×Int×Int×Int×ByteArray×List Int)×Int×Int)×List (Int×Int×List Int))×(Int×List (Int×(Int×Int×Int×Int×Int×Int×Int×Int×ByteArray×List Int)×Int×Int)×List (Int×Int×List Int))×Unit))):=
 bif (decide (p6.2.1<p6.1)) then
 bif (a7A p6.2.1 p6.2.2.1.2.2.length) then
 (s2A ((((p6.2.2.1.2.2.getD p6.2.1.toNat (0,(0,[])))).2).2)).bind fun y7 =>
 bif (a7A p6.2.1 p6.2.2.1.2.2.length) then
 some (Sum.inl (p6.1,(IntKind.i64.wrap (p6.2.1+1)),(p6.2.2.1.1,(p6.2.2.1.2.1,(p6.2.2.1.2.2.set p6.2.1.toNat (((p6.2.2.1.2.2.getD p6.2.1.toNat (0,(0,[])))).1,((((p6.2.2.1.2.2.getD p6.2.1.toNat (0,(0,[])))).2).1,y7))))),p6.2.2.2.1,()))
 else none
 else none
 else
 some (Sum.inr (p6.2.2.1,p6.2.2.2.1,()))
noncomputable def i5B (a0:Int×List (Int×(Int×Int×Int×Int×Int×Int×Int×Int×ByteArray×List Int)×Int×Int)×List (Int×Int×List Int)):Option (Int×List (Int×(Int×Int×Int×Int×Int×Int×Int×Int×ByteArray×List Int)×Int×Int)×List (Int×Int×List Int)):=
 (u6B a0.2.1).bind fun y1 =>
 (u7B a0.2.2).bind fun y2 =>
 (iter (e9B) ((y1.length:Int),0,(a0.1,(y1,y2)),(0,([],[])),())).bind fun j5 =>
 (iter (f7C) ((j5.1.2.2.length:Int),0,j5.1,j5.2.1,())).bind fun j8 =>
 some j8.1
noncomputable def e8C (a0:Int×List (Int×(Int×Int×Int×Int×Int×Int×Int×Int×ByteArray×List Int)×Int×Int)×List (Int×Int×List Int)) (a1:Int×Int×Int×Int×Int×Int×Int×Int×ByteArray×List Int) (a2:Int):Option ((Int×List (Int×(Int×Int×Int×Int×Int×Int×Int×Int×ByteArray×List Int)×Int×Int)×List (Int×Int×List Int))×(Int×Int×Int×Int×Int×Int×Int×Int×ByteArray×List Int)×Int):=
 ((i7B a0 a2).bind fun y1 =>
 bif (!y1) then
 some (a2,true,a0,(a1.1,(a1.2.1,(a1.2.2.1,(a1.2.2.2.1,(a0.1,a1.2.2.2.2.2))))),(0,([],[])),(0,(0,(0,(0,(0,(0,(0,(0,(ByteArray.empty,[]))))))))),())
 else
 (b9B (a1.1,(a1.2.1,(a1.2.2.1,(a1.2.2.2.1,(a0.1,a1.2.2.2.2.2)))))).bind fun y2 =>
 some (a2,(y2 != 0),a0,(a1.1,(a1.2.1,(a1.2.2.1,(a1.2.2.2.1,(a0.1,a1.2.2.2.2.2))))),(0,([],[])),(0,(0,(0,(0,(0,(0,(0,(0,(ByteArray.empty,[]))))))))),()):Option ((Int×Bool×(Int×List (Int×(Int×Int×Int×Int×Int×Int×Int×Int×ByteArray×List Int)×Int×Int)×List (Int×Int×List Int))×(Int×Int×Int×Int×Int×Int×Int×Int×ByteArray×List Int)×(Int×List (Int×(Int×Int×Int×Int×Int×Int×Int×Int×ByteArray×List Int)×Int×Int)×List (Int×Int×List Int))×(Int×Int×Int×Int×Int×Int×Int×Int×ByteArray×List Int)×Unit))).bind fun j3 =>
 bif j3.2.1 then
 some ((0,([],[])),((0,(0,(0,(0,(0,(0,(0,(0,(ByteArray.empty,[]))))))))),1))
 else
 (bif (j3.2.2.1.1==1073741824) then
 some (j3.1,true,j3.2.2.1,j3.2.2.2.1,j3.2.2.2.2.1,j3.2.2.2.2.2.1,())
 else
 some (j3.1,(decide ((j3.2.2.1.2.1.length:Int)≥64)),j3.2.2.1,j3.2.2.2.1,j3.2.2.2.2.1,j3.2.2.2.2.2.1,()):Option ((Int×Bool×(Int×List (Int×(Int×Int×Int×Int×Int×Int×Int×Int×ByteArray×List Int)×Int×Int)×List (Int×Int×List Int))×(Int×Int×Int×Int×Int×Int×Int×Int×ByteArray×List Int)×(Int×List (Int×(Int×Int×Int×Int×Int×Int×Int×Int×ByteArray×List Int)×Int×Int)×List (Int×Int×List Int))×(Int×Int×Int×Int×Int×Int×Int×Int×ByteArray×List Int)×Unit))).bind fun j4 =>
 bif j4.2.1 then
 some ((0,([],[])),((0,(0,(0,(0,(0,(0,(0,(0,(ByteArray.empty,[]))))))))),2))
 else
 (i5B j4.2.2.1).bind fun y5 =>
 (v7A j4.2.2.2.1).bind fun y6 =>
 bif (c6A 128 (y5.2.1++[(j4.2.2.2.1.2.2.2.2.1,(y6,(4,(IntKind.i64.wrap (j4.1+5)))))]).length) then
 (v7A j4.2.2.2.1).bind fun y7 =>
 some (((IntKind.i64.wrap (y5.1+1)),((y5.2.1++[(j4.2.2.2.1.2.2.2.2.1,(y6,(4,(IntKind.i64.wrap (j4.1+5)))))]),y5.2.2)),(y7,0))
 else none
noncomputable def i9B (p3:List (Int×(Int×Int×Int×Int×Int×Int×Int×Int×ByteArray×List Int)×Int×Int)×Int×Int×Int×(List (Int×Int×Int×Int×Int×Int×Int×Int×ByteArray×List Int))×Unit):Option ((List (Int×(Int×Int×Int×Int×Int×Int×Int×Int×ByteArray×List Int)×Int×Int)×Int×Int×Int×(List (Int×Int×Int×Int×Int×Int×Int×Int×ByteArray×List Int))×Unit)⊕((List (Int×(Int×Int×Int×Int×Int×Int×Int×Int×ByteArray×List Int)×Int×Int)×Int×(List (Int×Int×Int×Int×Int×Int×Int×Int×ByteArray×List Int))×Unit)⊕(List (Int×(Int×Int×Int×Int×Int×Int×Int×Int×ByteArray×List Int)×Int×Int)×Int×Int×(List (Int×Int×Int×Int×Int×Int×Int×Int×ByteArray×List Int))×Unit))):=
 bif (decide (p3.2.2.1<p3.2.1)) then
 bif (a7A p3.2.2.1 p3.1.length) then
 (bif (decide (((((p3.1.getD p3.2.2.1.toNat (0,((0,(0,(0,(0,(0,(0,(0,(0,(ByteArray.empty,[]))))))))),(0,0))))).2).2).2≤p3.2.2.2.1)) then
 some ((p3.1.getD p3.2.2.1.toNat (0,((0,(0,(0,(0,(0,(0,(0,(0,(ByteArray.empty,[]))))))))),(0,0)))),((((((p3.1.getD p3.2.2.1.toNat (0,((0,(0,(0,(0,(0,(0,(0,(0,(ByteArray.empty,[]))))))))),(0,0))))).2).2).1)==0),p3.2.2.2.1,p3.2.2.2.2.1,(p3.1.getD p3.2.2.1.toNat (0,((0,(0,(0,(0,(0,(0,(0,(0,(ByteArray.empty,[]))))))))),(0,0)))),())
 else
 some ((p3.1.getD p3.2.2.1.toNat (0,((0,(0,(0,(0,(0,(0,(0,(0,(ByteArray.empty,[]))))))))),(0,0)))),false,p3.2.2.2.1,p3.2.2.2.2.1,(p3.1.getD p3.2.2.1.toNat (0,((0,(0,(0,(0,(0,(0,(0,(0,(ByteArray.empty,[]))))))))),(0,0)))),()):Option (((Int×(Int×Int×Int×Int×Int×Int×Int×Int×ByteArray×List Int)×Int×Int)×Bool×Int×(List (Int×Int×Int×Int×Int×Int×Int×Int×ByteArray×List Int))×(Int×(Int×Int×Int×Int×Int×Int×Int×Int×ByteArray×List Int)×Int×Int)×Unit))).bind fun j4 =>
 (bif j4.2.1 then
 (v7A j4.2.2.2.2.1.2.1).bind fun y5 =>
 bif (c6A 104 (j4.2.2.2.1++[y5]).length) then
 some (j4.1,j4.2.1,j4.2.2.1,(j4.2.2.2.1++[y5]),())
 else none
 else
 some (j4.1,j4.2.1,j4.2.2.1,j4.2.2.2.1,()):Option (((Int×(Int×Int×Int×Int×Int×Int×Int×Int×ByteArray×List Int)×Int×Int)×Bool×Int×(List (Int×Int×Int×Int×Int×Int×Int×Int×ByteArray×List Int))×Unit))).bind fun j6 =>
 bif j6.2.1 then
 some (Sum.inr (Sum.inr (p3.1,p3.2.2.1,j6.2.2.1,j6.2.2.2.1,())))
 else
 some (Sum.inl (p3.1,p3.2.1,(IntKind.i64.wrap (p3.2.2.1+1)),j6.2.2.1,j6.2.2.2.1,()))
 else none
 else
 some (Sum.inr (Sum.inl (p3.1,p3.2.2.2.1,p3.2.2.2.2.1,())))
noncomputable def j0B (p11:List (Int×(Int×Int×Int×Int×Int×Int×Int×Int×ByteArray×List Int)×Int×Int)×Int×Int×Int×(List (Int×Int×Int×Int×Int×Int×Int×Int×ByteArray×List Int))×Unit):Option ((List (Int×(Int×Int×Int×Int×Int×Int×Int×Int×ByteArray×List Int)×Int×Int)×Int×Int×Int×(List (Int×Int×Int×Int×Int×Int×Int×Int×ByteArray×List Int))×Unit)⊕((List (Int×(Int×Int×Int×Int×Int×Int×Int×Int×ByteArray×List Int)×Int×Int)×Int×Int×(List (Int×Int×Int×Int×Int×Int×Int×Int×ByteArray×List Int))×Unit))):=
 bif (decide (p11.2.2.1<(p11.1.length:Int))) then
 (bif (a7A p11.2.2.1 p11.1.length) then
 (bif (decide (((((p11.1.getD p11.2.2.1.toNat (0,((0,(0,(0,(0,(0,(0,(0,(0,(ByteArray.empty,[]))))))))),(0,0))))).2).2).2≤p11.2.2.2.1)) then
 some ((p11.1.getD p11.2.2.1.toNat (0,((0,(0,(0,(0,(0,(0,(0,(0,(ByteArray.empty,[]))))))))),(0,0)))),((((((p11.1.getD p11.2.2.1.toNat (0,((0,(0,(0,(0,(0,(0,(0,(0,(ByteArray.empty,[]))))))))),(0,0))))).2).2).1)==0),p11.2.2.2.1,p11.2.2.2.2.1,(p11.1.getD p11.2.2.1.toNat (0,((0,(0,(0,(0,(0,(0,(0,(0,(ByteArray.empty,[]))))))))),(0,0)))),())
 else
 some ((p11.1.getD p11.2.2.1.toNat (0,((0,(0,(0,(0,(0,(0,(0,(0,(ByteArray.empty,[]))))))))),(0,0)))),false,p11.2.2.2.1,p11.2.2.2.2.1,(p11.1.getD p11.2.2.1.toNat (0,((0,(0,(0,(0,(0,(0,(0,(0,(ByteArray.empty,[]))))))))),(0,0)))),()):Option (((Int×(Int×Int×Int×Int×Int×Int×Int×Int×ByteArray×List Int)×Int×Int)×Bool×Int×(List (Int×Int×Int×Int×Int×Int×Int×Int×ByteArray×List Int))×(Int×(Int×Int×Int×Int×Int×Int×Int×Int×ByteArray×List Int)×Int×Int)×Unit))).bind fun j12 =>
 (bif j12.2.1 then
 (v7A j12.2.2.2.2.1.2.1).bind fun y13 =>
 bif (c6A 104 (j12.2.2.2.1++[y13]).length) then
 some (j12.1,j12.2.1,j12.2.2.1,(j12.2.2.2.1++[y13]),())
 else none
 else
 some (j12.1,j12.2.1,j12.2.2.1,j12.2.2.2.1,()):Option (((Int×(Int×Int×Int×Int×Int×Int×Int×Int×ByteArray×List Int)×Int×Int)×Bool×Int×(List (Int×Int×Int×Int×Int×Int×Int×Int×ByteArray×List Int))×Unit))).bind fun j14 =>
 bif (!j14.2.1) then
 bif (a7A p11.2.1 p11.1.length) then
 some ((p11.1.set p11.2.1.toNat (p11.1.getD p11.2.2.1.toNat (0,((0,(0,(0,(0,(0,(0,(0,(0,(ByteArray.empty,[]))))))))),(0,0))))),(IntKind.i64.wrap (p11.2.1+1)),p11.2.2.1,j14.2.2.1,j14.2.2.2.1,())
 else none
 else
 some (p11.1,p11.2.1,p11.2.2.1,j14.2.2.1,j14.2.2.2.1,())
 else none:Option ((List (Int×(Int×Int×Int×Int×Int×Int×Int×Int×ByteArray×List Int)×Int×Int)×Int×Int×Int×(List (Int×Int×Int×Int×Int×Int×Int×Int×ByteArray×List Int))×Unit))).bind fun j15 =>
 some (Sum.inl (j15.1,j15.2.1,(IntKind.i64.wrap (j15.2.2.1+1)),j15.2.2.2.1,j15.2.2.2.2.1,()))
 else
 some (Sum.inr (p11.1,p11.2.1,p11.2.2.2.1,p11.2.2.2.2.1,()))
noncomputable def p6B (p18:(List (Int×Int×Int×Int×Int×Int×Int×Int×ByteArray×List Int))×Int×Int×(Int×List (Int×(Int×Int×Int×Int×Int×Int×Int×Int×ByteArray×List Int)×Int×Int)×List (Int×Int×List Int))×Int×(Int×List (Int×(Int×Int×Int×Int×Int×Int×Int×Int×ByteArray×List Int)×Int×Int)×List (Int×Int×List Int))×(List (Int×Int×Int×Int×Int×Int×Int×Int×ByteArray×List Int))×Unit):Option (((List (Int×Int×Int×Int×Int×Int×Int×Int×ByteArray×List Int))×Int×Int×(Int×List (Int×(Int×Int×Int×Int×Int×Int×Int×Int×ByteArray×List Int)×Int×Int)×List (Int×Int×List Int))×Int×(Int×List (Int×(Int×Int×Int×Int×Int×Int×Int×Int×ByteArray×List Int)×Int×Int)×List (Int×Int×List Int))×(List (Int×Int×Int×Int×Int×Int×Int×Int×ByteArray×List Int))×Unit)⊕(((List (Int×Int×Int×Int×Int×Int×Int×Int×ByteArray×List Int))×(Int×List (Int×(Int×Int×Int×Int×Int×Int×Int×Int×ByteArray×List Int)×Int×Int)×List (Int×Int×List Int))×(Int×List (Int×(Int×Int×Int×Int×Int×Int×Int×Int×ByteArray×List Int)×Int×Int)×List (Int×Int×List Int))×(List (Int×Int×Int×Int×Int×Int×Int×Int×ByteArray×List Int))×Unit))):=
 bif (decide (p18.2.2.1<p18.2.1)) then
 (bif (a7A p18.2.2.1 p18.2.2.2.1.2.1.length) then
 bif (decide (((((p18.2.2.2.1.2.1.getD p18.2.2.1.toNat (0,((0,(0,(0,(0,(0,(0,(0,(0,(ByteArray.empty,[]))))))))),(0,0))))).2).2).2≤p18.2.2.2.2.1)) then
 (v7A ((((p18.2.2.2.1.2.1.getD p18.2.2.1.toNat (0,((0,(0,(0,(0,(0,(0,(0,(0,(ByteArray.empty,[]))))))))),(0,0))))).2).1)).bind fun y19 =>
 bif (c6A 104 (p18.1++[y19]).length) then
 some ((p18.1++[y19]),p18.2.1,p18.2.2.1,(p18.2.2.2.1.1,(((p18.2.2.2.1.2.1.set p18.2.2.1.toNat (((p18.2.2.2.1.2.1.getD p18.2.2.1.toNat (0,((0,(0,(0,(0,(0,(0,(0,(0,(ByteArray.empty,[]))))))))),(0,0))))).1,(((((p18.2.2.2.1.2.1.getD p18.2.2.1.toNat (0,((0,(0,(0,(0,(0,(0,(0,(0,(ByteArray.empty,[]))))))))),(0,0))))).2).1),((IntKind.i64.wrap ((((((p18.2.2.2.1.2.1.getD p18.2.2.1.toNat (0,((0,(0,(0,(0,(0,(0,(0,(0,(ByteArray.empty,[]))))))))),(0,0))))).2).2).1) - 1)),((((p18.2.2.2.1.2.1.getD p18.2.2.1.toNat (0,((0,(0,(0,(0,(0,(0,(0,(0,(ByteArray.empty,[]))))))))),(0,0))))).2).2).2)))).set p18.2.2.1.toNat ((((p18.2.2.2.1.2.1.set p18.2.2.1.toNat (((p18.2.2.2.1.2.1.getD p18.2.2.1.toNat (0,((0,(0,(0,(0,(0,(0,(0,(0,(ByteArray.empty,[]))))))))),(0,0))))).1,(((((p18.2.2.2.1.2.1.getD p18.2.2.1.toNat (0,((0,(0,(0,(0,(0,(0,(0,(0,(ByteArray.empty,[]))))))))),(0,0))))).2).1),((IntKind.i64.wrap ((((((p18.2.2.2.1.2.1.getD p18.2.2.1.toNat (0,((0,(0,(0,(0,(0,(0,(0,(0,(ByteArray.empty,[]))))))))),(0,0))))).2).2).1) - 1)),((((p18.2.2.2.1.2.1.getD p18.2.2.1.toNat (0,((0,(0,(0,(0,(0,(0,(0,(0,(ByteArray.empty,[]))))))))),(0,0))))).2).2).2)))).getD p18.2.2.1.toNat (0,((0,(0,(0,(0,(0,(0,(0,(0,(ByteArray.empty,[]))))))))),(0,0))))).1,((((((p18.2.2.2.1.2.1.set p18.2.2.1.toNat (((p18.2.2.2.1.2.1.getD p18.2.2.1.toNat (0,((0,(0,(0,(0,(0,(0,(0,(0,(ByteArray.empty,[]))))))))),(0,0))))).1,(((((p18.2.2.2.1.2.1.getD p18.2.2.1.toNat (0,((0,(0,(0,(0,(0,(0,(0,(0,(ByteArray.empty,[]))))))))),(0,0))))).2).1),((IntKind.i64.wrap ((((((p18.2.2.2.1.2.1.getD p18.2.2.1.toNat (0,((0,(0,(0,(0,(0,(0,(0,(0,(ByteArray.empty,[]))))))))),(0,0))))).2).2).1) - 1)),((((p18.2.2.2.1.2.1.getD p18.2.2.1.toNat (0,((0,(0,(0,(0,(0,(0,(0,(0,(ByteArray.empty,[]))))))))),(0,0))))).2).2).2)))).getD p18.2.2.1.toNat (0,((0,(0,(0,(0,(0,(0,(0,(0,(ByteArray.empty,[]))))))))),(0,0))))).2).1),((((((p18.2.2.2.1.2.1.set p18.2.2.1.toNat (((p18.2.2.2.1.2.1.getD p18.2.2.1.toNat (0,((0,(0,(0,(0,(0,(0,(0,(0,(ByteArray.empty,[]))))))))),(0,0))))).1,(((((p18.2.2.2.1.2.1.getD p18.2.2.1.toNat (0,((0,(0,(0,(0,(0,(0,(0,(0,(ByteArray.empty,[]))))))))),(0,0))))).2).1),((IntKind.i64.wrap ((((((p18.2.2.2.1.2.1.getD p18.2.2.1.toNat (0,((0,(0,(0,(0,(0,(0,(0,(0,(ByteArray.empty,[]))))))))),(0,0))))).2).2).1) - 1)),((((p18.2.2.2.1.2.1.getD p18.2.2.1.toNat (0,((0,(0,(0,(0,(0,(0,(0,(0,(ByteArray.empty,[]))))))))),(0,0))))).2).2).2)))).getD p18.2.2.1.toNat (0,((0,(0,(0,(0,(0,(0,(0,(0,(ByteArray.empty,[]))))))))),(0,0))))).2).2).1,(IntKind.i64.wrap (p18.2.2.2.2.1+5)))))),p18.2.2.2.1.2.2)),p18.2.2.2.2.1,p18.2.2.2.2.2.1,p18.2.2.2.2.2.2.1,())
 else none
 else
 some (p18.1,p18.2.1,p18.2.2.1,p18.2.2.2.1,p18.2.2.2.2.1,p18.2.2.2.2.2.1,p18.2.2.2.2.2.2.1,())
 else none:Option (((List (Int×Int×Int×Int×Int×Int×Int×Int×ByteArray×List Int))×Int×Int×(Int×List (Int×(Int×Int×Int×Int×Int×Int×Int×Int×ByteArray×List Int)×Int×Int)×List (Int×Int×List Int))×Int×(Int×List (Int×(Int×Int×Int×Int×Int×Int×Int×Int×ByteArray×List Int)×Int×Int)×List (Int×Int×List Int))×(List (Int×Int×Int×Int×Int×Int×Int×Int×ByteArray×List Int))×Unit))).bind fun j20 =>
 some (Sum.inl (j20.1,j20.2.1,(IntKind.i64.wrap (j20.2.2.1+1)),j20.2.2.2.1,j20.2.2.2.2.1,j20.2.2.2.2.2.1,j20.2.2.2.2.2.2.1,()))
 else
 some (Sum.inr (p18.1,p18.2.2.2.1,p18.2.2.2.2.2.1,p18.2.2.2.2.2.2.1,()))
noncomputable def f2C (a0:Int×List (Int×(Int×Int×Int×Int×Int×Int×Int×Int×ByteArray×List Int)×Int×Int)×List (Int×Int×List Int)) (a1:Int):Option ((Int×List (Int×(Int×Int×Int×Int×Int×Int×Int×Int×ByteArray×List Int)×Int×Int)×List (Int×Int×List Int))×(List (Int×Int×Int×Int×Int×Int×Int×Int×ByteArray×List Int))×(List (Int×Int×Int×Int×Int×Int×Int×Int×ByteArray×List Int))×Int):=
 (i7B a0 a1).bind fun y1 =>
 bif (!y1) then
 some ((0,([],[])),([],([],1)))
 else
 (i5B a0).bind fun y2 =>
 (((iter (i9B) (y2.2.1,(y2.2.1.length:Int),0,a1,[],())).bind fun j7 =>
 (match j7 with
 | .inl j8 =>
 (some (j8.1,(-1),j8.2.1,j8.2.2.1,()))
 | .inr j9 =>
 (some (j9.1,j9.2.1,j9.2.2.1,j9.2.2.2.1,()))):Option ((List (Int×(Int×Int×Int×Int×Int×Int×Int×Int×ByteArray×List Int)×Int×Int)×Int×Int×(List (Int×Int×Int×Int×Int×Int×Int×Int×ByteArray×List Int))×Unit))).bind fun j10 =>
 bif (j10.2.1==(-1)) then
 some ([],(y2.1,(j10.1,y2.2.2)),j10.2.2.1,(0,([],[])),j10.2.2.2.1,())
 else
 (iter (j0B) (j10.1,j10.2.1,(IntKind.i64.wrap (j10.2.1+1)),j10.2.2.1,j10.2.2.2.1,())).bind fun j16 =>
 bif (f3A j16.2.1 (j16.1.length:Int) j16.1.length) then
 bif (f3A 0 j16.2.1 ((h5A j16.1 j16.2.1.toNat (List.replicate ((j16.1.length:Int).toNat - j16.2.1.toNat) (0,((0,(0,(0,(0,(0,(0,(0,(0,(ByteArray.empty,[]))))))))),(0,0))))).length)) then
 some ([],(y2.1,((((h5A j16.1 j16.2.1.toNat (List.replicate ((j16.1.length:Int).toNat - j16.2.1.toNat) (0,((0,(0,(0,(0,(0,(0,(0,(0,(ByteArray.empty,[]))))))))),(0,0))))).drop 0).take (j16.2.1.toNat - 0)),y2.2.2)),j16.2.2.1,(0,([],[])),j16.2.2.2.1,())
 else none
 else none:Option (((List (Int×Int×Int×Int×Int×Int×Int×Int×ByteArray×List Int))×(Int×List (Int×(Int×Int×Int×Int×Int×Int×Int×Int×ByteArray×List Int)×Int×Int)×List (Int×Int×List Int))×Int×(Int×List (Int×(Int×Int×Int×Int×Int×Int×Int×Int×ByteArray×List Int)×Int×Int)×List (Int×Int×List Int))×(List (Int×Int×Int×Int×Int×Int×Int×Int×ByteArray×List Int))×Unit))).bind fun j17 =>
 (iter (p6B) (j17.1,(j17.2.1.2.1.length:Int),0,j17.2.1,j17.2.2.1,j17.2.2.2.1,j17.2.2.2.2.1,())).bind fun j21 =>
 some (j21.2.1,(j21.1,(j21.2.2.2.1,0)))
noncomputable def j1B (p3:List (Int×(Int×Int×Int×Int×Int×Int×Int×Int×ByteArray×List Int)×Int×Int)×Int×Int×Int×Unit):Option ((List (Int×(Int×Int×Int×Int×Int×Int×Int×Int×ByteArray×List Int)×Int×Int)×Int×Int×Int×Unit)⊕((List (Int×(Int×Int×Int×Int×Int×Int×Int×Int×ByteArray×List Int)×Int×Int)×Int×Unit)⊕(List (Int×(Int×Int×Int×Int×Int×Int×Int×Int×ByteArray×List Int)×Int×Int)×Int×Int×Unit))):=
 bif (decide (p3.2.2.1<p3.2.1)) then
 bif (a7A p3.2.2.1 p3.1.length) then
 bif ((((p3.1.getD p3.2.2.1.toNat (0,((0,(0,(0,(0,(0,(0,(0,(0,(ByteArray.empty,[]))))))))),(0,0))))).1)==p3.2.2.2.1) then
 some (Sum.inr (Sum.inr (p3.1,p3.2.2.1,p3.2.2.2.1,())))
 else
 some (Sum.inl (p3.1,p3.2.1,(IntKind.i64.wrap (p3.2.2.1+1)),p3.2.2.2.1,()))
 else none
 else
 some (Sum.inr (Sum.inl (p3.1,p3.2.2.2.1,())))
noncomputable def j2B (p8:List (Int×(Int×Int×Int×Int×Int×Int×Int×Int×ByteArray×List Int)×Int×Int)×Int×Int×Int×Unit):Option ((List (Int×(Int×Int×Int×Int×Int×Int×Int×Int×ByteArray×List Int)×Int×Int)×Int×Int×Int×Unit)⊕((List (Int×(Int×Int×Int×Int×Int×Int×Int×Int×ByteArray×List Int)×Int×Int)×Int×Int×Unit))):=
 bif (decide (p8.2.2.1<(p8.1.length:Int))) then
 (bif (a7A p8.2.2.1 p8.1.length) then
 bif (!((((p8.1.getD p8.2.2.1.toNat (0,((0,(0,(0,(0,(0,(0,(0,(0,(ByteArray.empty,[]))))))))),(0,0))))).1)==p8.2.2.2.1)) then
 bif (a7A p8.2.1 p8.1.length) then
 some ((p8.1.set p8.2.1.toNat (p8.1.getD p8.2.2.1.toNat (0,((0,(0,(0,(0,(0,(0,(0,(0,(ByteArray.empty,[]))))))))),(0,0))))),(IntKind.i64.wrap (p8.2.1+1)),p8.2.2.1,p8.2.2.2.1,())
 else none
 else
 some (p8.1,p8.2.1,p8.2.2.1,p8.2.2.2.1,())
 else none:Option ((List (Int×(Int×Int×Int×Int×Int×Int×Int×Int×ByteArray×List Int)×Int×Int)×Int×Int×Int×Unit))).bind fun j9 =>
 some (Sum.inl (j9.1,j9.2.1,(IntKind.i64.wrap (j9.2.2.1+1)),j9.2.2.2.1,()))
 else
 some (Sum.inr (p8.1,p8.2.1,p8.2.2.2.1,()))
noncomputable def e5B (a0:Int×List (Int×(Int×Int×Int×Int×Int×Int×Int×Int×ByteArray×List Int)×Int×Int)×List (Int×Int×List Int)) (a1:Int):Option ((Int×List (Int×(Int×Int×Int×Int×Int×Int×Int×Int×ByteArray×List Int)×Int×Int)×List (Int×Int×List Int))×Bool×Int):=
 (v6A a0).bind fun y1 =>
 bif (y1 != 0) then
 some ((0,([],[])),(false,y1))
 else
 (i5B a0).bind fun y2 =>
 (((iter (j1B) (y2.2.1,(y2.2.1.length:Int),0,a1,())).bind fun j4 =>
 (match j4 with
 | .inl j5 =>
 (some (j5.1,(-1),j5.2.1,()))
 | .inr j6 =>
 (some (j6.1,j6.2.1,j6.2.2.1,()))):Option ((List (Int×(Int×Int×Int×Int×Int×Int×Int×Int×ByteArray×List Int)×Int×Int)×Int×Int×Unit))).bind fun j7 =>
 bif (j7.2.1==(-1)) then
 some ((a0.2.1.length:Int),(y2.1,(j7.1,y2.2.2)),(0,([],[])),())
 else
 (iter (j2B) (j7.1,j7.2.1,(IntKind.i64.wrap (j7.2.1+1)),j7.2.2.1,())).bind fun j10 =>
 bif (f3A j10.2.1 (j10.1.length:Int) j10.1.length) then
 bif (f3A 0 j10.2.1 ((h5A j10.1 j10.2.1.toNat (List.replicate ((j10.1.length:Int).toNat - j10.2.1.toNat) (0,((0,(0,(0,(0,(0,(0,(0,(0,(ByteArray.empty,[]))))))))),(0,0))))).length)) then
 some ((a0.2.1.length:Int),(y2.1,((((h5A j10.1 j10.2.1.toNat (List.replicate ((j10.1.length:Int).toNat - j10.2.1.toNat) (0,((0,(0,(0,(0,(0,(0,(0,(0,(ByteArray.empty,[]))))))))),(0,0))))).drop 0).take (j10.2.1.toNat - 0)),y2.2.2)),(0,([],[])),())
 else none
 else none:Option ((Int×(Int×List (Int×(Int×Int×Int×Int×Int×Int×Int×Int×ByteArray×List Int)×Int×Int)×List (Int×Int×List Int))×(Int×List (Int×(Int×Int×Int×Int×Int×Int×Int×Int×ByteArray×List Int)×Int×Int)×List (Int×Int×List Int))×Unit))).bind fun j11 =>
 some (j11.2.1,((decide ((j11.2.1.2.1.length:Int)<j11.1)),0))
noncomputable def v6B (a0:Int×Int×Int×Int×Int×Int×Int×Int×ByteArray×List Int):Option (Bool):=
 some (decide ((IntKind.i64.wrap ((a0.2.2.2.2.2.2.2.2.1.size:Int)+(a0.2.2.2.2.2.2.2.2.2.length:Int)))>2000))
noncomputable def i2F (p8:ByteArray×Int×Int×Int×Unit):Option ((ByteArray×Int×Int×Int×Unit)⊕((Int×Int×Unit)⊕(Int×Int×Unit))):=
 bif (decide (p8.2.2.2.1<p8.2.1)) then
 bif (a7A p8.2.2.2.1 p8.1.size) then
 bif ((i5A .and .u8 ((p8.1.data.getD p8.2.2.2.1.toNat 0).toNat:Int) 192) != 128) then
 some (Sum.inr (Sum.inr (0,0,())))
 else
 bif (a7A p8.2.2.2.1 p8.1.size) then
 some (Sum.inl (p8.1,p8.2.1,(i5A .or .i64 (l4A .i64 p8.2.2.1 6) (IntKind.i64.wrap (i5A .and .u8 ((p8.1.data.getD p8.2.2.2.1.toNat 0).toNat:Int) 63))),(IntKind.i64.wrap (p8.2.2.2.1+1)),()))
 else none
 else none
 else
 some (Sum.inr (Sum.inl (p8.2.1,p8.2.2.1,())))
noncomputable def j2F (a0:ByteArray):Option (Int×Int):=
 (bif (a7A 0 a0.size) then
 bif (decide ((IntKind.i64.wrap ((a0.data.getD 0 0).toNat:Int))<128)) then
 some (Sum.inr ((IntKind.i64.wrap ((a0.data.getD 0 0).toNat:Int)),1,()))
 else
 (bif (decide ((IntKind.i64.wrap ((a0.data.getD 0 0).toNat:Int))≥194)) then
 some (a0,0,0,(IntKind.i64.wrap ((a0.data.getD 0 0).toNat:Int)),(decide ((IntKind.i64.wrap ((a0.data.getD 0 0).toNat:Int))<224)),())
 else
 some (a0,0,0,(IntKind.i64.wrap ((a0.data.getD 0 0).toNat:Int)),false,()):Option ((ByteArray×Int×Int×Int×Bool×Unit))).bind fun j1 =>
 bif j1.2.2.2.2.1 then
 some (Sum.inl (j1.1,2,(i5A .and .i64 j1.2.2.2.1 31),()))
 else
 (bif (decide (j1.2.2.2.1≥224)) then
 some (j1.1,j1.2.1,j1.2.2.1,j1.2.2.2.1,(decide (j1.2.2.2.1<240)),())
 else
 some (j1.1,j1.2.1,j1.2.2.1,j1.2.2.2.1,false,()):Option ((ByteArray×Int×Int×Int×Bool×Unit))).bind fun j2 =>
 bif j2.2.2.2.2.1 then
 some (Sum.inl (j2.1,3,(i5A .and .i64 j2.2.2.2.1 15),()))
 else
 (bif (decide (j2.2.2.2.1≥240)) then
 some (j2.1,j2.2.1,j2.2.2.1,j2.2.2.2.1,(decide (j2.2.2.2.1<245)),())
 else
 some (j2.1,j2.2.1,j2.2.2.1,j2.2.2.2.1,false,()):Option ((ByteArray×Int×Int×Int×Bool×Unit))).bind fun j3 =>
 bif j3.2.2.2.2.1 then
 some (Sum.inl (j3.1,4,(i5A .and .i64 j3.2.2.2.1 7),()))
 else
 some (Sum.inl (j3.1,j3.2.1,j3.2.2.1,()))
 else none:Option ((ByteArray×Int×Int×Unit)⊕(Int×Int×Unit))).bind fun j4 =>
 (match j4 with
 | .inl j5 =>
 ((bif (j5.2.1==0) then
 some (j5.1,j5.2.1,j5.2.2.1,true,())
 else
 some (j5.1,j5.2.1,j5.2.2.1,(decide ((j5.1.size:Int)<j5.2.1)),()):Option ((ByteArray×Int×Int×Bool×Unit))).bind fun j7 =>
 bif j7.2.2.2.1 then
 some (0,0)
 else
 (iter (i2F) (j7.1,j7.2.1,j7.2.2.1,1,())).bind fun j9 =>
 (match j9 with
 | .inl j10 =>
 ((bif (j10.1==3) then
 bif (decide (j10.2.1<2048)) then
 some (j10.1,j10.2.1,true,())
 else
 bif (decide (j10.2.1≥55296)) then
 bif (decide (j10.2.1<57344)) then
 some (j10.1,j10.2.1,true,())
 else
 bif (j10.1==4) then
 bif (decide (j10.2.1<65536)) then
 some (j10.1,j10.2.1,true,())
 else
 some (j10.1,j10.2.1,(decide (j10.2.1>1114111)),())
 else
 some (j10.1,j10.2.1,false,())
 else
 bif (j10.1==4) then
 bif (decide (j10.2.1<65536)) then
 some (j10.1,j10.2.1,true,())
 else
 some (j10.1,j10.2.1,(decide (j10.2.1>1114111)),())
 else
 some (j10.1,j10.2.1,false,())
 else
 bif (j10.1==4) then
 bif (decide (j10.2.1<65536)) then
 some (j10.1,j10.2.1,true,())
 else
 some (j10.1,j10.2.1,(decide (j10.2.1>1114111)),())
 else
 some (j10.1,j10.2.1,false,()):Option ((Int×Int×Bool×Unit))).bind fun j12 =>
 bif j12.2.2.1 then
 some (0,0)
 else
 some (j12.2.1,j12.1))
 | .inr j11 =>
 (some (j11.1,j11.2.1))))
 | .inr j6 =>
 (some (j6.1,j6.2.1)))
noncomputable def i3F (p1:ByteArray×Int×Unit):Option ((ByteArray×Int×Unit)⊕((Int×Unit)⊕(Bool×Unit))):=
 bif (decide ((p1.1.size:Int)>0)) then
 (j2F p1.1).bind fun y2 =>
 (bif (y2.2==0) then
 some (p1.1,p1.2.1,y2.2,true,())
 else
 bif (decide (y2.1<32)) then
 some (p1.1,p1.2.1,y2.2,true,())
 else
 some (p1.1,p1.2.1,y2.2,(y2.1==127),()):Option ((ByteArray×Int×Int×Bool×Unit))).bind fun j3 =>
 bif j3.2.2.2.1 then
 some (Sum.inr (Sum.inr (false,())))
 else
 bif (f3A j3.2.2.1 (j3.1.size:Int) j3.1.size) then
 some (Sum.inl ((j3.1.extract j3.2.2.1.toNat (j3.1.size:Int).toNat),(IntKind.i64.wrap (j3.2.1+1)),()))
 else none
 else
 some (Sum.inr (Sum.inl (p1.2.1,())))
noncomputable def j3F (a0:ByteArray):Option (Bool):=
 (iter (i3F) (a0,0,())).bind fun j4 =>
 (match j4 with
 | .inl j5 =>
 (some (decide (j5.1≤16)))
 | .inr j6 =>
 (some j6.1))
noncomputable def j8F (a0:Int×Int×Int×Int×Int×Int×Int×Int×ByteArray×List Int):Option (List Int):=
 some [a0.2.1,a0.2.2.1,a0.2.2.2.1,a0.2.2.2.2.1,a0.2.2.2.2.2.1,a0.2.2.2.2.2.2.1,a0.2.2.2.2.2.2.2.1]
noncomputable def i8F (p4:List Int×Int×Int×(Int×Int×Int×Int×Int×Int×Int×Int×ByteArray×List Int)×Unit):Option ((List Int×Int×Int×(Int×Int×Int×Int×Int×Int×Int×Int×ByteArray×List Int)×Unit)⊕(((Int×Int×Int×Int×Int×Int×Int×Int×ByteArray×List Int)×Unit)⊕(Int×Unit))):=
 bif (decide (p4.2.2.1<p4.2.1)) then
 bif (a7A p4.2.2.1 p4.1.length) then
 (bif (decide ((p4.1.getD p4.2.2.1.toNat 0)<0)) then
 some (p4.1,p4.2.1,p4.2.2.1,true,p4.2.2.2.1,())
 else
 some (p4.1,p4.2.1,p4.2.2.1,(decide ((p4.1.getD p4.2.2.1.toNat 0)>1073741824)),p4.2.2.2.1,()):Option ((List Int×Int×Int×Bool×(Int×Int×Int×Int×Int×Int×Int×Int×ByteArray×List Int)×Unit))).bind fun j5 =>
 bif j5.2.2.2.1 then
 some (Sum.inr (Sum.inr (1,())))
 else
 some (Sum.inl (j5.1,j5.2.1,(IntKind.i64.wrap (j5.2.2.1+1)),j5.2.2.2.2.1,()))
 else none
 else
 some (Sum.inr (Sum.inl (p4.2.2.2.1,())))
noncomputable def j4F (a0:Int×Int×Int×Int×Int×Int×Int×Int×ByteArray×List Int):Option (Int):=
 (bif (decide (a0.1<1)) then
 some (true,a0,())
 else
 bif (decide (a0.1>15)) then
 some (true,a0,())
 else
 (j3F a0.2.2.2.2.2.2.2.2.1).bind fun y1 =>
 bif (!y1) then
 some (true,a0,())
 else
 some ((decide ((a0.2.2.2.2.2.2.2.2.2.length:Int)>64)),a0,()):Option ((Bool×(Int×Int×Int×Int×Int×Int×Int×Int×ByteArray×List Int)×Unit))).bind fun j2 =>
 bif j2.1 then
 some 1
 else
 (j8F j2.2.1).bind fun y3 =>
 (iter (i8F) (y3,(y3.length:Int),0,j2.2.1,())).bind fun j6 =>
 (match j6 with
 | .inl j7 =>
 ((bif (j7.1.1==1) then
 some (true,j7.1,())
 else
 bif (j7.1.1==9) then
 some (true,j7.1,())
 else
 some ((j7.1.1==5),j7.1,()):Option ((Bool×(Int×Int×Int×Int×Int×Int×Int×Int×ByteArray×List Int)×Unit))).bind fun j9 =>
 (bif (!(p3B j9.2.1.2.2.2.2.2.2.2.2.1 (ByteArray.mk #[]))) then
 bif (!j9.1) then
 some (true,())
 else
 some ((!((decide ((j9.2.1.2.2.2.2.2.2.2.2.2.length:Int)>0))==(j9.2.1.1==13))),())
 else
 some ((!((decide ((j9.2.1.2.2.2.2.2.2.2.2.2.length:Int)>0))==(j9.2.1.1==13))),()):Option ((Bool×Unit))).bind fun j10 =>
 bif j10.1 then
 some 1
 else
 some 0)
 | .inr j8 =>
 (some j8.1))
noncomputable def e6B (a0:Int) (a1:Int):Option (Int):=
 (b8B a0).bind fun y1 =>
 (b8B a1).bind fun y2 =>
 bif y1 then
 bif y2 then
 some 0
 else
 some (-1)
 else
 bif y2 then
 some 1
 else
 bif (decide (a0<a1)) then
 some (-1)
 else
 bif (decide (a0>a1)) then
 some 1
 else
 some 0
noncomputable def o7B (a0:Int×Int×List Int) (a1:Int):Option (Int):=
 (e6B a0.1 a1).bind fun y1 =>
 some y1
end Go.Sq
namespace Go.Sq
open Go.Rx
end Go.Sq
set_option linter.unusedVariables false
set_option maxRecDepth 100000
namespace Go.Sq
open Go.Rx
end Go.Sq
set_option linter.unusedVariables false
set_option maxRecDepth 100000
namespace Go.Sq
open Go.Rx
end Go.Sq
set_option linter.unusedVariables false
set_option maxRecDepth 100000
namespace Go.Sq
open Go.Rx
noncomputable def r5C:Option (Int×Int×Int×Int×Int×Int×Int×List (Int×Int)×List Int):=
 some (0,(0,(0,(0,(0,(0,(0,([],[]))))))))
noncomputable def u5B (a0:List (Int×Int)):Option (List (Int×Int)):=
 bif c6A 16 ([]++a0).length then some ([]++a0) else none
noncomputable def k4A (a0:Int) (a1:Int):Option (Bool):=
 bif (decide (a0≥0)) then
 some (decide (a0≤a1))
 else
 some false
noncomputable def o2B (a0:Int×Int×Int×Int×Int×Int×Int×List (Int×Int)×List Int) (a1:Int):Option (Bool):=
 (z0A a0.2.2.2.2.2.2.2.2 a1).bind fun y1 =>
 some y1.2
noncomputable def f8C (p1:(List (Int×Int))×Int×Int×Int×Unit):Option (((List (Int×Int))×Int×Int×Int×Unit)⊕(((List (Int×Int))×Int×Unit)⊕((List (Int×Int))×Int×Int×Unit))):=
 bif (decide (p1.2.2.1<p1.2.1)) then
 bif (a7A p1.2.2.1 p1.1.length) then
 bif ((((p1.1.getD p1.2.2.1.toNat (0,0))).1)==p1.2.2.2.1) then
 some (Sum.inr (Sum.inr (p1.1,p1.2.2.1,p1.2.2.2.1,())))
 else
 some (Sum.inl (p1.1,p1.2.1,(IntKind.i64.wrap (p1.2.2.1+1)),p1.2.2.2.1,()))
 else none
 else
 some (Sum.inr (Sum.inl (p1.1,p1.2.2.2.1,())))
noncomputable def u2B (a0:Int×Int×Int×Int×Int×Int×Int×List (Int×Int)×List Int) (a1:Int):Option (Int):=
 (iter (f8C) (a0.2.2.2.2.2.2.2.1,(a0.2.2.2.2.2.2.2.1.length:Int),0,a1,())).bind fun j2 =>
 (match j2 with
 | .inl j3 =>
 (some (-1))
 | .inr j4 =>
 (some j4.2.1))
noncomputable def w0B (p8:Bool×Int×List Int×Int×Int×(Int×Int×Int×Int×Int×Int×Int×List (Int×Int)×List Int)×Unit):Option ((Bool×Int×List Int×Int×Int×(Int×Int×Int×Int×Int×Int×Int×List (Int×Int)×List Int)×Unit)⊕((Bool×(Int×Int×Int×Int×Int×Int×Int×List (Int×Int)×List Int)×Unit))):=
 bif (decide (p8.2.2.2.2.1<p8.2.2.2.1)) then
 bif (a7A p8.2.2.2.2.1 p8.2.2.1.length) then
 (bif p8.1 then
 bif (decide ((p8.2.2.1.getD p8.2.2.2.2.1.toNat 0)>p8.2.1)) then
 some ((decide ((p8.2.2.1.getD p8.2.2.2.2.1.toNat 0)≤1073741824)),(p8.2.2.1.getD p8.2.2.2.2.1.toNat 0),p8.2.2.1,p8.2.2.2.1,p8.2.2.2.2.1,p8.2.2.2.2.2.1,())
 else
 some (false,(p8.2.2.1.getD p8.2.2.2.2.1.toNat 0),p8.2.2.1,p8.2.2.2.1,p8.2.2.2.2.1,p8.2.2.2.2.2.1,())
 else
 some (false,(p8.2.2.1.getD p8.2.2.2.2.1.toNat 0),p8.2.2.1,p8.2.2.2.1,p8.2.2.2.2.1,p8.2.2.2.2.2.1,()):Option ((Bool×Int×List Int×Int×Int×(Int×Int×Int×Int×Int×Int×Int×List (Int×Int)×List Int)×Unit))).bind fun j9 =>
 some (Sum.inl (j9.1,j9.2.1,j9.2.2.1,j9.2.2.2.1,(IntKind.i64.wrap (j9.2.2.2.2.1+1)),j9.2.2.2.2.2.1,()))
 else none
 else
 some (Sum.inr (p8.1,p8.2.2.2.2.2.1,()))
noncomputable def p7B (p11:Bool×Int×(List (Int×Int))×Int×Int×(Int×Int×Int×Int×Int×Int×Int×List (Int×Int)×List Int)×Unit):Option ((Bool×Int×(List (Int×Int))×Int×Int×(Int×Int×Int×Int×Int×Int×Int×List (Int×Int)×List Int)×Unit)⊕((Bool×(Int×Int×Int×Int×Int×Int×Int×List (Int×Int)×List Int)×Unit))):=
 bif (decide (p11.2.2.2.2.1<p11.2.2.2.1)) then
 bif (a7A p11.2.2.2.2.1 p11.2.2.1.length) then
 (bif p11.1 then
 (o2B p11.2.2.2.2.2.1 (((p11.2.2.1.getD p11.2.2.2.2.1.toNat (0,0))).1)).bind fun y12 =>
 bif y12 then
 bif ((((p11.2.2.1.getD p11.2.2.2.2.1.toNat (0,0))).1) != p11.2.2.2.2.2.1.2.2.1) then
 (k4A (((p11.2.2.1.getD p11.2.2.2.2.1.toNat (0,0))).2) p11.2.1).bind fun y13 =>
 bif y13 then
 (u2B p11.2.2.2.2.2.1 (((p11.2.2.1.getD p11.2.2.2.2.1.toNat (0,0))).1)).bind fun y14 =>
 some ((y14==p11.2.2.2.2.1),p11.2.2.1,p11.2.2.2.1,p11.2.2.2.2.1,p11.2.2.2.2.2.1,((p11.2.2.1.getD p11.2.2.2.2.1.toNat (0,0))),())
 else
 some (false,p11.2.2.1,p11.2.2.2.1,p11.2.2.2.2.1,p11.2.2.2.2.2.1,((p11.2.2.1.getD p11.2.2.2.2.1.toNat (0,0))),())
 else
 some (false,p11.2.2.1,p11.2.2.2.1,p11.2.2.2.2.1,p11.2.2.2.2.2.1,((p11.2.2.1.getD p11.2.2.2.2.1.toNat (0,0))),())
 else
 some (false,p11.2.2.1,p11.2.2.2.1,p11.2.2.2.2.1,p11.2.2.2.2.2.1,((p11.2.2.1.getD p11.2.2.2.2.1.toNat (0,0))),())
 else
 some (false,p11.2.2.1,p11.2.2.2.1,p11.2.2.2.2.1,p11.2.2.2.2.2.1,((p11.2.2.1.getD p11.2.2.2.2.1.toNat (0,0))),()):Option ((Bool×(List (Int×Int))×Int×Int×(Int×Int×Int×Int×Int×Int×Int×List (Int×Int)×List Int)×(Int×Int)×Unit))).bind fun j15 =>
 some (Sum.inl (j15.1,j15.2.2.2.2.2.1.2,j15.2.1,j15.2.2.1,(IntKind.i64.wrap (j15.2.2.2.1+1)),j15.2.2.2.2.1,()))
 else none
 else
 some (Sum.inr (p11.1,p11.2.2.2.2.2.1,()))
noncomputable def v5A (a0:Int×Int×Int×Int×Int×Int×Int×List (Int×Int)×List Int):Option (Int):=
 ((k4A a0.1 2).bind fun y1 =>
 bif y1 then
 (k4A a0.2.1 1099511627776).bind fun y2 =>
 bif y2 then
 (k4A a0.2.2.2.2.2.2.1 1099511627776).bind fun y3 =>
 bif y3 then
 (k4A a0.2.2.2.2.1 2199023255552).bind fun y4 =>
 bif y4 then
 (k4A a0.2.2.2.2.2.1 2199023255552).bind fun y5 =>
 some (y5,a0,())
 else
 some (false,a0,())
 else
 some (false,a0,())
 else
 some (false,a0,())
 else
 some (false,a0,()):Option ((Bool×(Int×Int×Int×Int×Int×Int×Int×List (Int×Int)×List Int)×Unit))).bind fun j6 =>
 (bif j6.1 then
 bif (decide ((j6.2.1.2.2.2.2.2.2.2.2.length:Int)≤8)) then
 some ((decide ((j6.2.1.2.2.2.2.2.2.2.1.length:Int)≤4)),j6.2.1,())
 else
 some (false,j6.2.1,())
 else
 some (false,j6.2.1,()):Option ((Bool×(Int×Int×Int×Int×Int×Int×Int×List (Int×Int)×List Int)×Unit))).bind fun j7 =>
 (iter (w0B) (j7.1,0,j7.2.1.2.2.2.2.2.2.2.2,(j7.2.1.2.2.2.2.2.2.2.2.length:Int),0,j7.2.1,())).bind fun j10 =>
 bif (!j10.1) then
 some 1
 else
 (iter (p7B) (j10.1,7,j10.2.1.2.2.2.2.2.2.2.1,(j10.2.1.2.2.2.2.2.2.2.1.length:Int),0,j10.2.1,())).bind fun j16 =>
 (bif (j16.2.1.1==0) then
 bif j16.1 then
 bif ([j16.2.1.2.2.1,j16.2.1.2.2.2.1,j16.2.1.2.2.2.2.1,j16.2.1.2.2.2.2.2.1]==[0,0,0,0]) then
 some (((j16.2.1.2.2.2.2.2.2.2.1.length:Int)==0),())
 else
 some (false,())
 else
 some (false,())
 else
 bif j16.1 then
 (o2B j16.2.1 j16.2.1.2.2.1).bind fun y17 =>
 bif y17 then
 (k4A j16.2.1.2.2.2.1 7).bind fun y18 =>
 bif y18 then
 some ((decide (j16.2.1.2.1>0)),())
 else
 some (false,())
 else
 some (false,())
 else
 some (false,()):Option ((Bool×Unit))).bind fun j19 =>
 bif (!j19.1) then
 some 1
 else
 some 0
noncomputable def o8B (a0:List Int) (a1:Int) (a2:List Int):Option (List Int):=
 s4A 8 a0 a1 a2
noncomputable def r8C (a0:List Int) (a1:Int) (a2:Int):Option (List Int):=
 j3B 8 a0 a1 a2
noncomputable def e7C (a0:List (Int×Int)) (a1:Int) (a2:List (Int×Int)):Option (List (Int×Int)):=
 s4A 16 a0 a1 a2
noncomputable def j4B (p18:List (Int×Int)×Int×Int×(Int×Int×Int×Int×Int×Int×Int×Int×Int×Int×Int×Int×Unit)×List Int×List (Int×Int×Int×Int)×Unit):Option ((List (Int×Int)×Int×Int×(Int×Int×Int×Int×Int×Int×Int×Int×Int×Int×Int×Int×Unit)×List Int×List (Int×Int×Int×Int)×Unit)⊕((List (Int×Int)×(Int×Int×Int×Int×Int×Int×Int×Int×Int×Int×Int×Int×Unit)×List Int×List (Int×Int×Int×Int)×Unit)⊕(List (Int×Int)×Int×(Int×Int×Int×Int×Int×Int×Int×Int×Int×Int×Int×Int×Unit)×List Int×List (Int×Int×Int×Int)×Unit))):=
 bif (decide (p18.2.2.1<p18.2.1)) then
 bif (a7A p18.2.2.1 p18.1.length) then
 bif ((((p18.1.getD p18.2.2.1.toNat (0,0))).1)==p18.2.2.2.1.2.2.2.2.2.2.2.2.1) then
 some (Sum.inr (Sum.inr (p18.1,p18.2.2.1,(p18.2.2.2.1.1,p18.2.2.2.1.2.1,p18.2.2.2.1.2.2.1,p18.2.2.2.1.2.2.2.1,p18.2.2.2.1.2.2.2.2.1,p18.2.2.2.1.2.2.2.2.2.1,p18.2.2.2.1.2.2.2.2.2.2.1,p18.2.2.2.1.2.2.2.2.2.2.2.1,p18.2.2.2.1.2.2.2.2.2.2.2.2.1,p18.2.2.2.1.2.2.2.2.2.2.2.2.2.1,p18.2.2.2.1.2.2.2.2.2.2.2.2.2.2.1,p18.2.2.2.1.2.2.2.2.2.2.2.2.2.2.2.1,()),p18.2.2.2.2.1,p18.2.2.2.2.2.1,())))
 else
 some (Sum.inl (p18.1,p18.2.1,(IntKind.i64.wrap (p18.2.2.1+1)),(p18.2.2.2.1.1,p18.2.2.2.1.2.1,p18.2.2.2.1.2.2.1,p18.2.2.2.1.2.2.2.1,p18.2.2.2.1.2.2.2.2.1,p18.2.2.2.1.2.2.2.2.2.1,p18.2.2.2.1.2.2.2.2.2.2.1,p18.2.2.2.1.2.2.2.2.2.2.2.1,p18.2.2.2.1.2.2.2.2.2.2.2.2.1,p18.2.2.2.1.2.2.2.2.2.2.2.2.2.1,p18.2.2.2.1.2.2.2.2.2.2.2.2.2.2.1,p18.2.2.2.1.2.2.2.2.2.2.2.2.2.2.2.1,()),p18.2.2.2.2.1,p18.2.2.2.2.2.1,()))
 else none
 else
 some (Sum.inr (Sum.inl (p18.1,(p18.2.2.2.1.1,p18.2.2.2.1.2.1,p18.2.2.2.1.2.2.1,p18.2.2.2.1.2.2.2.1,p18.2.2.2.1.2.2.2.2.1,p18.2.2.2.1.2.2.2.2.2.1,p18.2.2.2.1.2.2.2.2.2.2.1,p18.2.2.2.1.2.2.2.2.2.2.2.1,p18.2.2.2.1.2.2.2.2.2.2.2.2.1,p18.2.2.2.1.2.2.2.2.2.2.2.2.2.1,p18.2.2.2.1.2.2.2.2.2.2.2.2.2.2.1,p18.2.2.2.1.2.2.2.2.2.2.2.2.2.2.2.1,()),p18.2.2.2.2.1,p18.2.2.2.2.2.1,())))
noncomputable def f0B (p23:List (Int×Int)×Int×Int×(Int×Int×Int×Int×Int×Int×Int×Int×Int×Int×Int×Int×Unit)×List Int×List (Int×Int×Int×Int)×Unit):Option ((List (Int×Int)×Int×Int×(Int×Int×Int×Int×Int×Int×Int×Int×Int×Int×Int×Int×Unit)×List Int×List (Int×Int×Int×Int)×Unit)⊕((List (Int×Int)×Int×(Int×Int×Int×Int×Int×Int×Int×Int×Int×Int×Int×Int×Unit)×List Int×List (Int×Int×Int×Int)×Unit))):=
 bif (decide (p23.2.2.1<(p23.1.length:Int))) then
 (bif (a7A p23.2.2.1 p23.1.length) then
 bif (!((((p23.1.getD p23.2.2.1.toNat (0,0))).1)==p23.2.2.2.1.2.2.2.2.2.2.2.2.1)) then
 bif (a7A p23.2.1 p23.1.length) then
 some ((p23.1.set p23.2.1.toNat ((p23.1.getD p23.2.2.1.toNat (0,0)))),(IntKind.i64.wrap (p23.2.1+1)),p23.2.2.1,(p23.2.2.2.1.1,p23.2.2.2.1.2.1,p23.2.2.2.1.2.2.1,p23.2.2.2.1.2.2.2.1,p23.2.2.2.1.2.2.2.2.1,p23.2.2.2.1.2.2.2.2.2.1,p23.2.2.2.1.2.2.2.2.2.2.1,p23.2.2.2.1.2.2.2.2.2.2.2.1,p23.2.2.2.1.2.2.2.2.2.2.2.2.1,p23.2.2.2.1.2.2.2.2.2.2.2.2.2.1,p23.2.2.2.1.2.2.2.2.2.2.2.2.2.2.1,p23.2.2.2.1.2.2.2.2.2.2.2.2.2.2.2.1,()),p23.2.2.2.2.1,p23.2.2.2.2.2.1,())
 else none
 else
 some (p23.1,p23.2.1,p23.2.2.1,(p23.2.2.2.1.1,p23.2.2.2.1.2.1,p23.2.2.2.1.2.2.1,p23.2.2.2.1.2.2.2.1,p23.2.2.2.1.2.2.2.2.1,p23.2.2.2.1.2.2.2.2.2.1,p23.2.2.2.1.2.2.2.2.2.2.1,p23.2.2.2.1.2.2.2.2.2.2.2.1,p23.2.2.2.1.2.2.2.2.2.2.2.2.1,p23.2.2.2.1.2.2.2.2.2.2.2.2.2.1,p23.2.2.2.1.2.2.2.2.2.2.2.2.2.2.1,p23.2.2.2.1.2.2.2.2.2.2.2.2.2.2.2.1,()),p23.2.2.2.2.1,p23.2.2.2.2.2.1,())
 else none:Option ((List (Int×Int)×Int×Int×(Int×Int×Int×Int×Int×Int×Int×Int×Int×Int×Int×Int×Unit)×List Int×List (Int×Int×Int×Int)×Unit))).bind fun j24 =>
 some (Sum.inl (j24.1,j24.2.1,(IntKind.i64.wrap (j24.2.2.1+1)),(j24.2.2.2.1.1,j24.2.2.2.1.2.1,j24.2.2.2.1.2.2.1,j24.2.2.2.1.2.2.2.1,j24.2.2.2.1.2.2.2.2.1,j24.2.2.2.1.2.2.2.2.2.1,j24.2.2.2.1.2.2.2.2.2.2.1,j24.2.2.2.1.2.2.2.2.2.2.2.1,j24.2.2.2.1.2.2.2.2.2.2.2.2.1,j24.2.2.2.1.2.2.2.2.2.2.2.2.2.1,j24.2.2.2.1.2.2.2.2.2.2.2.2.2.2.1,j24.2.2.2.1.2.2.2.2.2.2.2.2.2.2.2.1,()),j24.2.2.2.2.1,j24.2.2.2.2.2.1,()))
 else
 some (Sum.inr (p23.1,p23.2.1,(p23.2.2.2.1.1,p23.2.2.2.1.2.1,p23.2.2.2.1.2.2.1,p23.2.2.2.1.2.2.2.1,p23.2.2.2.1.2.2.2.2.1,p23.2.2.2.1.2.2.2.2.2.1,p23.2.2.2.1.2.2.2.2.2.2.1,p23.2.2.2.1.2.2.2.2.2.2.2.1,p23.2.2.2.1.2.2.2.2.2.2.2.2.1,p23.2.2.2.1.2.2.2.2.2.2.2.2.2.1,p23.2.2.2.1.2.2.2.2.2.2.2.2.2.2.1,p23.2.2.2.1.2.2.2.2.2.2.2.2.2.2.2.1,()),p23.2.2.2.2.1,p23.2.2.2.2.2.1,()))
noncomputable def w1B (p33:List (Int×Int)×Int×Int×(Int×Int)×Unit):Option ((List (Int×Int)×Int×Int×(Int×Int)×Unit)⊕((List (Int×Int)×(Int×Int)×Unit)⊕(List (Int×Int)×Int×(Int×Int)×Unit))):=
 bif (decide (p33.2.2.1<p33.2.1)) then
 bif (a7A p33.2.2.1 p33.1.length) then
 bif (decide (((p33.1.getD p33.2.2.1.toNat (0,0))).2<p33.2.2.2.1.2)) then
 some (Sum.inr (Sum.inr (p33.1,p33.2.2.1,p33.2.2.2.1,())))
 else
 some (Sum.inl (p33.1,p33.2.1,(IntKind.i64.wrap (p33.2.2.1+1)),p33.2.2.2.1,()))
 else none
 else
 some (Sum.inr (Sum.inl (p33.1,p33.2.2.2.1,())))
noncomputable def i5D (p44:List (Int×Int)×Int×Int×(Int×Int×Int×Int×Int×Int×Int×Int×Int×Int×Int×Int×Unit)×List Int×List (Int×Int×Int×Int)×Unit):Option ((List (Int×Int)×Int×Int×(Int×Int×Int×Int×Int×Int×Int×Int×Int×Int×Int×Int×Unit)×List Int×List (Int×Int×Int×Int)×Unit)⊕((List (Int×Int)×(Int×Int×Int×Int×Int×Int×Int×Int×Int×Int×Int×Int×Unit)×List Int×List (Int×Int×Int×Int)×Unit)⊕(List (Int×Int)×Int×(Int×Int×Int×Int×Int×Int×Int×Int×Int×Int×Int×Int×Unit)×List Int×List (Int×Int×Int×Int)×Unit))):=
 bif (decide (p44.2.2.1<p44.2.1)) then
 bif (a7A p44.2.2.1 p44.1.length) then
 bif ((((p44.1.getD p44.2.2.1.toNat (0,0))).1)==p44.2.2.2.1.2.2.2.2.2.2.2.2.1) then
 some (Sum.inr (Sum.inr (p44.1,p44.2.2.1,(p44.2.2.2.1.1,p44.2.2.2.1.2.1,p44.2.2.2.1.2.2.1,p44.2.2.2.1.2.2.2.1,p44.2.2.2.1.2.2.2.2.1,p44.2.2.2.1.2.2.2.2.2.1,p44.2.2.2.1.2.2.2.2.2.2.1,p44.2.2.2.1.2.2.2.2.2.2.2.1,p44.2.2.2.1.2.2.2.2.2.2.2.2.1,p44.2.2.2.1.2.2.2.2.2.2.2.2.2.1,p44.2.2.2.1.2.2.2.2.2.2.2.2.2.2.1,p44.2.2.2.1.2.2.2.2.2.2.2.2.2.2.2.1,()),p44.2.2.2.2.1,p44.2.2.2.2.2.1,())))
 else
 some (Sum.inl (p44.1,p44.2.1,(IntKind.i64.wrap (p44.2.2.1+1)),(p44.2.2.2.1.1,p44.2.2.2.1.2.1,p44.2.2.2.1.2.2.1,p44.2.2.2.1.2.2.2.1,p44.2.2.2.1.2.2.2.2.1,p44.2.2.2.1.2.2.2.2.2.1,p44.2.2.2.1.2.2.2.2.2.2.1,p44.2.2.2.1.2.2.2.2.2.2.2.1,p44.2.2.2.1.2.2.2.2.2.2.2.2.1,p44.2.2.2.1.2.2.2.2.2.2.2.2.2.1,p44.2.2.2.1.2.2.2.2.2.2.2.2.2.2.1,p44.2.2.2.1.2.2.2.2.2.2.2.2.2.2.2.1,()),p44.2.2.2.2.1,p44.2.2.2.2.2.1,()))
 else none
 else
 some (Sum.inr (Sum.inl (p44.1,(p44.2.2.2.1.1,p44.2.2.2.1.2.1,p44.2.2.2.1.2.2.1,p44.2.2.2.1.2.2.2.1,p44.2.2.2.1.2.2.2.2.1,p44.2.2.2.1.2.2.2.2.2.1,p44.2.2.2.1.2.2.2.2.2.2.1,p44.2.2.2.1.2.2.2.2.2.2.2.1,p44.2.2.2.1.2.2.2.2.2.2.2.2.1,p44.2.2.2.1.2.2.2.2.2.2.2.2.2.1,p44.2.2.2.1.2.2.2.2.2.2.2.2.2.2.1,p44.2.2.2.1.2.2.2.2.2.2.2.2.2.2.2.1,()),p44.2.2.2.2.1,p44.2.2.2.2.2.1,())))
noncomputable def i6D (p49:List (Int×Int)×Int×Int×(Int×Int×Int×Int×Int×Int×Int×Int×Int×Int×Int×Int×Unit)×List Int×List (Int×Int×Int×Int)×Unit):Option ((List (Int×Int)×Int×Int×(Int×Int×Int×Int×Int×Int×Int×Int×Int×Int×Int×Int×Unit)×List Int×List (Int×Int×Int×Int)×Unit)⊕((List (Int×Int)×Int×(Int×Int×Int×Int×Int×Int×Int×Int×Int×Int×Int×Int×Unit)×List Int×List (Int×Int×Int×Int)×Unit))):=
 bif (decide (p49.2.2.1<(p49.1.length:Int))) then
 (bif (a7A p49.2.2.1 p49.1.length) then
 bif (!((((p49.1.getD p49.2.2.1.toNat (0,0))).1)==p49.2.2.2.1.2.2.2.2.2.2.2.2.1)) then
 bif (a7A p49.2.1 p49.1.length) then
 some ((p49.1.set p49.2.1.toNat ((p49.1.getD p49.2.2.1.toNat (0,0)))),(IntKind.i64.wrap (p49.2.1+1)),p49.2.2.1,(p49.2.2.2.1.1,p49.2.2.2.1.2.1,p49.2.2.2.1.2.2.1,p49.2.2.2.1.2.2.2.1,p49.2.2.2.1.2.2.2.2.1,p49.2.2.2.1.2.2.2.2.2.1,p49.2.2.2.1.2.2.2.2.2.2.1,p49.2.2.2.1.2.2.2.2.2.2.2.1,p49.2.2.2.1.2.2.2.2.2.2.2.2.1,p49.2.2.2.1.2.2.2.2.2.2.2.2.2.1,p49.2.2.2.1.2.2.2.2.2.2.2.2.2.2.1,p49.2.2.2.1.2.2.2.2.2.2.2.2.2.2.2.1,()),p49.2.2.2.2.1,p49.2.2.2.2.2.1,())
 else none
 else
 some (p49.1,p49.2.1,p49.2.2.1,(p49.2.2.2.1.1,p49.2.2.2.1.2.1,p49.2.2.2.1.2.2.1,p49.2.2.2.1.2.2.2.1,p49.2.2.2.1.2.2.2.2.1,p49.2.2.2.1.2.2.2.2.2.1,p49.2.2.2.1.2.2.2.2.2.2.1,p49.2.2.2.1.2.2.2.2.2.2.2.1,p49.2.2.2.1.2.2.2.2.2.2.2.2.1,p49.2.2.2.1.2.2.2.2.2.2.2.2.2.1,p49.2.2.2.1.2.2.2.2.2.2.2.2.2.2.1,p49.2.2.2.1.2.2.2.2.2.2.2.2.2.2.2.1,()),p49.2.2.2.2.1,p49.2.2.2.2.2.1,())
 else none:Option ((List (Int×Int)×Int×Int×(Int×Int×Int×Int×Int×Int×Int×Int×Int×Int×Int×Int×Unit)×List Int×List (Int×Int×Int×Int)×Unit))).bind fun j50 =>
 some (Sum.inl (j50.1,j50.2.1,(IntKind.i64.wrap (j50.2.2.1+1)),(j50.2.2.2.1.1,j50.2.2.2.1.2.1,j50.2.2.2.1.2.2.1,j50.2.2.2.1.2.2.2.1,j50.2.2.2.1.2.2.2.2.1,j50.2.2.2.1.2.2.2.2.2.1,j50.2.2.2.1.2.2.2.2.2.2.1,j50.2.2.2.1.2.2.2.2.2.2.2.1,j50.2.2.2.1.2.2.2.2.2.2.2.2.1,j50.2.2.2.1.2.2.2.2.2.2.2.2.2.1,j50.2.2.2.1.2.2.2.2.2.2.2.2.2.2.1,j50.2.2.2.1.2.2.2.2.2.2.2.2.2.2.2.1,()),j50.2.2.2.2.1,j50.2.2.2.2.2.1,()))
 else
 some (Sum.inr (p49.1,p49.2.1,(p49.2.2.2.1.1,p49.2.2.2.1.2.1,p49.2.2.2.1.2.2.1,p49.2.2.2.1.2.2.2.1,p49.2.2.2.1.2.2.2.2.1,p49.2.2.2.1.2.2.2.2.2.1,p49.2.2.2.1.2.2.2.2.2.2.1,p49.2.2.2.1.2.2.2.2.2.2.2.1,p49.2.2.2.1.2.2.2.2.2.2.2.2.1,p49.2.2.2.1.2.2.2.2.2.2.2.2.2.1,p49.2.2.2.1.2.2.2.2.2.2.2.2.2.2.1,p49.2.2.2.1.2.2.2.2.2.2.2.2.2.2.2.1,()),p49.2.2.2.2.1,p49.2.2.2.2.2.1,()))
noncomputable def n3A (a0:Int×Int×Int×Int×Int×Int×Int×List (Int×Int)×List Int) (a1:Int×Int×Int×Int×Int):Option ((Int×Int×Int×Int×Int×Int×Int×List (Int×Int)×List Int)×(List (Int×Int×Int×Int))×Int):=
 (u5B a0.2.2.2.2.2.2.2.1).bind fun y1 =>
 (s2A a0.2.2.2.2.2.2.2.2).bind fun y2 =>
 bif (decide (a1.1=1)) then
 (v5A a0).bind fun y4 =>
 (bif (a1.1==6) then
 bif (y4==0) then
 bif (decide (a1.2.2.2.2≥a0.2.2.2.2.2.2.1)) then
 some ((decide (a1.2.2.2.2≤1099511627776)),(0,(0,(0,(0,(0,(0,(0,([],[])))))))),((a0.1,(a0.2.1,(a0.2.2.1,(a0.2.2.2.1,(a0.2.2.2.2.1,(a0.2.2.2.2.2.1,(a0.2.2.2.2.2.2.1,(y1,y2)))))))),(a1,[])),())
 else
 some (false,(0,(0,(0,(0,(0,(0,(0,([],[])))))))),((a0.1,(a0.2.1,(a0.2.2.1,(a0.2.2.2.1,(a0.2.2.2.2.1,(a0.2.2.2.2.2.1,(a0.2.2.2.2.2.2.1,(y1,y2)))))))),(a1,[])),())
 else
 some (false,(0,(0,(0,(0,(0,(0,(0,([],[])))))))),((a0.1,(a0.2.1,(a0.2.2.1,(a0.2.2.2.1,(a0.2.2.2.2.1,(a0.2.2.2.2.2.1,(a0.2.2.2.2.2.2.1,(y1,y2)))))))),(a1,[])),())
 else
 bif (a1.1==3) then
 bif (y4==0) then
 (k4A a1.2.2.1 7).bind fun y5 =>
 bif y5 then
 bif (decide (a1.2.1>0)) then
 some ((decide (a1.2.1≤1073741824)),(0,(0,(0,(0,(0,(0,(0,([],[])))))))),((a0.1,(a0.2.1,(a0.2.2.1,(a0.2.2.2.1,(a0.2.2.2.2.1,(a0.2.2.2.2.2.1,(a0.2.2.2.2.2.2.1,(y1,y2)))))))),(a1,[])),())
 else
 some (false,(0,(0,(0,(0,(0,(0,(0,([],[])))))))),((a0.1,(a0.2.1,(a0.2.2.1,(a0.2.2.2.1,(a0.2.2.2.2.1,(a0.2.2.2.2.2.1,(a0.2.2.2.2.2.2.1,(y1,y2)))))))),(a1,[])),())
 else
 some (false,(0,(0,(0,(0,(0,(0,(0,([],[])))))))),((a0.1,(a0.2.1,(a0.2.2.1,(a0.2.2.2.1,(a0.2.2.2.2.1,(a0.2.2.2.2.2.1,(a0.2.2.2.2.2.2.1,(y1,y2)))))))),(a1,[])),())
 else
 some (false,(0,(0,(0,(0,(0,(0,(0,([],[])))))))),((a0.1,(a0.2.1,(a0.2.2.1,(a0.2.2.2.1,(a0.2.2.2.2.1,(a0.2.2.2.2.2.1,(a0.2.2.2.2.2.2.1,(y1,y2)))))))),(a1,[])),())
 else
 bif (y4==0) then
 bif (decide (a1.2.1>0)) then
 some ((decide (a1.2.1≤1073741824)),(0,(0,(0,(0,(0,(0,(0,([],[])))))))),((a0.1,(a0.2.1,(a0.2.2.1,(a0.2.2.2.1,(a0.2.2.2.2.1,(a0.2.2.2.2.2.1,(a0.2.2.2.2.2.2.1,(y1,y2)))))))),(a1,[])),())
 else
 some (false,(0,(0,(0,(0,(0,(0,(0,([],[])))))))),((a0.1,(a0.2.1,(a0.2.2.1,(a0.2.2.2.1,(a0.2.2.2.2.1,(a0.2.2.2.2.2.1,(a0.2.2.2.2.2.2.1,(y1,y2)))))))),(a1,[])),())
 else
 some (false,(0,(0,(0,(0,(0,(0,(0,([],[])))))))),((a0.1,(a0.2.1,(a0.2.2.1,(a0.2.2.2.1,(a0.2.2.2.2.1,(a0.2.2.2.2.2.1,(a0.2.2.2.2.2.2.1,(y1,y2)))))))),(a1,[])),()):Option ((Bool×(Int×Int×Int×Int×Int×Int×Int×List (Int×Int)×List Int)×((Int×Int×Int×Int×Int×Int×Int×List (Int×Int)×List Int)×(Int×Int×Int×Int×Int)×List (Int×Int×Int×Int))×Unit))).bind fun j6 =>
 bif (!j6.1) then
 some ((0,(0,(0,(0,(0,(0,(0,([],[])))))))),([],1))
 else
 (z0A j6.2.2.1.1.2.2.2.2.2.2.2.2 j6.2.2.1.2.1.2.1).bind fun y7 =>
 ((bif (!y7.2) then
 some (y7.1,y7.2,(decide ((j6.2.2.1.1.2.2.2.2.2.2.2.2.length:Int)≥8)),j6.2.2.1,())
 else
 some (y7.1,y7.2,false,j6.2.2.1,()):Option ((Int×Bool×Bool×((Int×Int×Int×Int×Int×Int×Int×List (Int×Int)×List Int)×(Int×Int×Int×Int×Int)×List (Int×Int×Int×Int))×Unit))).bind fun j8 =>
 bif j8.2.2.1 then
 bif (c6A 32 (j8.2.2.2.1.2.2++[(6,(j8.2.2.2.1.2.1.2.1,(0,0)))]).length) then
 some (Sum.inr ((j8.2.2.2.1.1,(j8.2.2.2.1.2.1,(j8.2.2.2.1.2.2++[(6,(j8.2.2.2.1.2.1.2.1,(0,0)))]))),()))
 else none
 else
 bif (!j8.2.1) then
 (o8B j8.2.2.2.1.1.2.2.2.2.2.2.2.2 j8.1 [j8.2.2.2.1.2.1.2.1]).bind fun y9 =>
 some (Sum.inl (((j8.2.2.2.1.1.1,(j8.2.2.2.1.1.2.1,(j8.2.2.2.1.1.2.2.1,(j8.2.2.2.1.1.2.2.2.1,(j8.2.2.2.1.1.2.2.2.2.1,(j8.2.2.2.1.1.2.2.2.2.2.1,(j8.2.2.2.1.1.2.2.2.2.2.2.1,(j8.2.2.2.1.1.2.2.2.2.2.2.2.1,y9)))))))),j8.2.2.2.1.2),()))
 else
 some (Sum.inl (j8.2.2.2.1,())):Option ((((Int×Int×Int×Int×Int×Int×Int×List (Int×Int)×List Int)×(Int×Int×Int×Int×Int)×List (Int×Int×Int×Int))×Unit)⊕(((Int×Int×Int×Int×Int×Int×Int×List (Int×Int)×List Int)×(Int×Int×Int×Int×Int)×List (Int×Int×Int×Int))×Unit))).bind fun j10 =>
 (match j10 with
 | .inl j11 =>
 (bif (c6A 32 (j11.1.2.2++[(15,(j11.1.2.1.2.1,(j11.1.1.2.1,0)))]).length) then
 some (j11.1.1,((j11.1.2.2++[(15,(j11.1.2.1.2.1,(j11.1.1.2.1,0)))]),0))
 else none)
 | .inr j12 =>
 (some (j12.1.1,(j12.1.2.2,0))))
 else
 bif (decide (a1.1=2)) then
 (v5A a0).bind fun y13 =>
 (bif (a1.1==6) then
 bif (y13==0) then
 bif (decide (a1.2.2.2.2≥a0.2.2.2.2.2.2.1)) then
 some ((decide (a1.2.2.2.2≤1099511627776)),(0,(0,(0,(0,(0,(0,(0,([],[])))))))),((a0.1,(a0.2.1,(a0.2.2.1,(a0.2.2.2.1,(a0.2.2.2.2.1,(a0.2.2.2.2.2.1,(a0.2.2.2.2.2.2.1,(y1,y2)))))))),(a1,[])),())
 else
 some (false,(0,(0,(0,(0,(0,(0,(0,([],[])))))))),((a0.1,(a0.2.1,(a0.2.2.1,(a0.2.2.2.1,(a0.2.2.2.2.1,(a0.2.2.2.2.2.1,(a0.2.2.2.2.2.2.1,(y1,y2)))))))),(a1,[])),())
 else
 some (false,(0,(0,(0,(0,(0,(0,(0,([],[])))))))),((a0.1,(a0.2.1,(a0.2.2.1,(a0.2.2.2.1,(a0.2.2.2.2.1,(a0.2.2.2.2.2.1,(a0.2.2.2.2.2.2.1,(y1,y2)))))))),(a1,[])),())
 else
 bif (a1.1==3) then
 bif (y13==0) then
 (k4A a1.2.2.1 7).bind fun y14 =>
 bif y14 then
 bif (decide (a1.2.1>0)) then
 some ((decide (a1.2.1≤1073741824)),(0,(0,(0,(0,(0,(0,(0,([],[])))))))),((a0.1,(a0.2.1,(a0.2.2.1,(a0.2.2.2.1,(a0.2.2.2.2.1,(a0.2.2.2.2.2.1,(a0.2.2.2.2.2.2.1,(y1,y2)))))))),(a1,[])),())
 else
 some (false,(0,(0,(0,(0,(0,(0,(0,([],[])))))))),((a0.1,(a0.2.1,(a0.2.2.1,(a0.2.2.2.1,(a0.2.2.2.2.1,(a0.2.2.2.2.2.1,(a0.2.2.2.2.2.2.1,(y1,y2)))))))),(a1,[])),())
 else
 some (false,(0,(0,(0,(0,(0,(0,(0,([],[])))))))),((a0.1,(a0.2.1,(a0.2.2.1,(a0.2.2.2.1,(a0.2.2.2.2.1,(a0.2.2.2.2.2.1,(a0.2.2.2.2.2.2.1,(y1,y2)))))))),(a1,[])),())
 else
 some (false,(0,(0,(0,(0,(0,(0,(0,([],[])))))))),((a0.1,(a0.2.1,(a0.2.2.1,(a0.2.2.2.1,(a0.2.2.2.2.1,(a0.2.2.2.2.2.1,(a0.2.2.2.2.2.2.1,(y1,y2)))))))),(a1,[])),())
 else
 bif (y13==0) then
 bif (decide (a1.2.1>0)) then
 some ((decide (a1.2.1≤1073741824)),(0,(0,(0,(0,(0,(0,(0,([],[])))))))),((a0.1,(a0.2.1,(a0.2.2.1,(a0.2.2.2.1,(a0.2.2.2.2.1,(a0.2.2.2.2.2.1,(a0.2.2.2.2.2.2.1,(y1,y2)))))))),(a1,[])),())
 else
 some (false,(0,(0,(0,(0,(0,(0,(0,([],[])))))))),((a0.1,(a0.2.1,(a0.2.2.1,(a0.2.2.2.1,(a0.2.2.2.2.1,(a0.2.2.2.2.2.1,(a0.2.2.2.2.2.2.1,(y1,y2)))))))),(a1,[])),())
 else
 some (false,(0,(0,(0,(0,(0,(0,(0,([],[])))))))),((a0.1,(a0.2.1,(a0.2.2.1,(a0.2.2.2.1,(a0.2.2.2.2.1,(a0.2.2.2.2.2.1,(a0.2.2.2.2.2.2.1,(y1,y2)))))))),(a1,[])),()):Option ((Bool×(Int×Int×Int×Int×Int×Int×Int×List (Int×Int)×List Int)×((Int×Int×Int×Int×Int×Int×Int×List (Int×Int)×List Int)×(Int×Int×Int×Int×Int)×List (Int×Int×Int×Int))×Unit))).bind fun j15 =>
 bif (!j15.1) then
 some ((0,(0,(0,(0,(0,(0,(0,([],[])))))))),([],1))
 else
 (z0A j15.2.2.1.1.2.2.2.2.2.2.2.2 j15.2.2.1.2.1.2.1).bind fun y16 =>
 bif (!y16.2) then
 some (j15.2.2.1.1,(j15.2.2.1.2.2,0))
 else
 (r8C j15.2.2.1.1.2.2.2.2.2.2.2.2 y16.1 (IntKind.i64.wrap (y16.1+1))).bind fun y17 =>
 (((iter (j4B) (j15.2.2.1.1.2.2.2.2.2.2.2.1,(j15.2.2.1.1.2.2.2.2.2.2.2.1.length:Int),0,(j15.2.2.1.1.1,j15.2.2.1.1.2.1,j15.2.2.1.1.2.2.1,j15.2.2.1.1.2.2.2.1,j15.2.2.1.1.2.2.2.2.1,j15.2.2.1.1.2.2.2.2.2.1,j15.2.2.1.1.2.2.2.2.2.2.1,j15.2.2.1.2.1.1,j15.2.2.1.2.1.2.1,j15.2.2.1.2.1.2.2.1,j15.2.2.1.2.1.2.2.2.1,j15.2.2.1.2.1.2.2.2.2,()),y17,j15.2.2.1.2.2,())).bind fun j19 =>
 (match j19 with
 | .inl j20 =>
 (some (j20.1,(-1),(j20.2.1.1,j20.2.1.2.1,j20.2.1.2.2.1,j20.2.1.2.2.2.1,j20.2.1.2.2.2.2.1,j20.2.1.2.2.2.2.2.1,j20.2.1.2.2.2.2.2.2.1,j20.2.1.2.2.2.2.2.2.2.1,j20.2.1.2.2.2.2.2.2.2.2.1,j20.2.1.2.2.2.2.2.2.2.2.2.1,j20.2.1.2.2.2.2.2.2.2.2.2.2.1,j20.2.1.2.2.2.2.2.2.2.2.2.2.2.1,()),j20.2.2.1,j20.2.2.2.1,()))
 | .inr j21 =>
 (some (j21.1,j21.2.1,(j21.2.2.1.1,j21.2.2.1.2.1,j21.2.2.1.2.2.1,j21.2.2.1.2.2.2.1,j21.2.2.1.2.2.2.2.1,j21.2.2.1.2.2.2.2.2.1,j21.2.2.1.2.2.2.2.2.2.1,j21.2.2.1.2.2.2.2.2.2.2.1,j21.2.2.1.2.2.2.2.2.2.2.2.1,j21.2.2.1.2.2.2.2.2.2.2.2.2.1,j21.2.2.1.2.2.2.2.2.2.2.2.2.2.1,j21.2.2.1.2.2.2.2.2.2.2.2.2.2.2.1,()),j21.2.2.2.1,j21.2.2.2.2.1,()))):Option ((List (Int×Int)×Int×(Int×Int×Int×Int×Int×Int×Int×Int×Int×Int×Int×Int×Unit)×List Int×List (Int×Int×Int×Int)×Unit))).bind fun j22 =>
 bif (j22.2.1==(-1)) then
 some (((j22.2.2.1.1,(j22.2.2.1.2.1,(j22.2.2.1.2.2.1,(j22.2.2.1.2.2.2.1,(j22.2.2.1.2.2.2.2.1,(j22.2.2.1.2.2.2.2.2.1,(j22.2.2.1.2.2.2.2.2.2.1,(j22.1,j22.2.2.2.1)))))))),((j22.2.2.1.2.2.2.2.2.2.2.1,(j22.2.2.1.2.2.2.2.2.2.2.2.1,(j22.2.2.1.2.2.2.2.2.2.2.2.2.1,(j22.2.2.1.2.2.2.2.2.2.2.2.2.2.1,j22.2.2.1.2.2.2.2.2.2.2.2.2.2.2.1)))),j22.2.2.2.2.1)),())
 else
 (iter (f0B) (j22.1,j22.2.1,(IntKind.i64.wrap (j22.2.1+1)),(j22.2.2.1.1,j22.2.2.1.2.1,j22.2.2.1.2.2.1,j22.2.2.1.2.2.2.1,j22.2.2.1.2.2.2.2.1,j22.2.2.1.2.2.2.2.2.1,j22.2.2.1.2.2.2.2.2.2.1,j22.2.2.1.2.2.2.2.2.2.2.1,j22.2.2.1.2.2.2.2.2.2.2.2.1,j22.2.2.1.2.2.2.2.2.2.2.2.2.1,j22.2.2.1.2.2.2.2.2.2.2.2.2.2.1,j22.2.2.1.2.2.2.2.2.2.2.2.2.2.2.1,()),j22.2.2.2.1,j22.2.2.2.2.1,())).bind fun j25 =>
 bif (f3A j25.2.1 (j25.1.length:Int) j25.1.length) then
 bif (f3A 0 j25.2.1 ((h5A j25.1 j25.2.1.toNat (List.replicate ((j25.1.length:Int).toNat - j25.2.1.toNat) (0,0))).length)) then
 some (((j25.2.2.1.1,(j25.2.2.1.2.1,(j25.2.2.1.2.2.1,(j25.2.2.1.2.2.2.1,(j25.2.2.1.2.2.2.2.1,(j25.2.2.1.2.2.2.2.2.1,(j25.2.2.1.2.2.2.2.2.2.1,((((h5A j25.1 j25.2.1.toNat (List.replicate ((j25.1.length:Int).toNat - j25.2.1.toNat) (0,0))).drop 0).take (j25.2.1.toNat - 0)),j25.2.2.2.1)))))))),((j25.2.2.1.2.2.2.2.2.2.2.1,(j25.2.2.1.2.2.2.2.2.2.2.2.1,(j25.2.2.1.2.2.2.2.2.2.2.2.2.1,(j25.2.2.1.2.2.2.2.2.2.2.2.2.2.1,j25.2.2.1.2.2.2.2.2.2.2.2.2.2.2.1)))),j25.2.2.2.2.1)),())
 else none
 else none:Option ((((Int×Int×Int×Int×Int×Int×Int×List (Int×Int)×List Int)×(Int×Int×Int×Int×Int)×List (Int×Int×Int×Int))×Unit))).bind fun j26 =>
 bif (j26.1.1.2.2.1==j26.1.2.1.2.1) then
 bif (decide ((j26.1.1.2.2.2.2.2.2.2.1.length:Int)>0)) then
 bif (a7A 0 j26.1.1.2.2.2.2.2.2.2.1.length) then
 bif (f3A 1 (j26.1.1.2.2.2.2.2.2.2.1.length:Int) j26.1.1.2.2.2.2.2.2.2.1.length) then
 bif (c6A 32 (j26.1.2.2++[(5,(((j26.1.1.2.2.2.2.2.2.2.1.getD 0 (0,0))).1,((IntKind.i64.wrap (j26.1.1.2.1+1)),0)))]).length) then
 some ((1,((IntKind.i64.wrap (j26.1.1.2.1+1)),(((j26.1.1.2.2.2.2.2.2.2.1.getD 0 (0,0))).1,(((j26.1.1.2.2.2.2.2.2.2.1.getD 0 (0,0))).2,((IntKind.i64.wrap (j26.1.1.2.2.2.2.2.2.1+60)),((IntKind.i64.wrap (j26.1.1.2.2.2.2.2.2.1+12)),(j26.1.1.2.2.2.2.2.2.1,(((j26.1.1.2.2.2.2.2.2.2.1.drop 1).take ((j26.1.1.2.2.2.2.2.2.2.1.length:Int).toNat - 1)),j26.1.1.2.2.2.2.2.2.2.2)))))))),((j26.1.2.2++[(5,(((j26.1.1.2.2.2.2.2.2.2.1.getD 0 (0,0))).1,((IntKind.i64.wrap (j26.1.1.2.1+1)),0)))]),0))
 else none
 else none
 else none
 else
 bif (c6A 32 (j26.1.2.2++[(10,(0,(j26.1.1.2.1,0)))]).length) then
 some ((0,(j26.1.1.2.1,(0,(0,(0,(0,j26.1.1.2.2.2.2.2.2)))))),((j26.1.2.2++[(10,(0,(j26.1.1.2.1,0)))]),0))
 else none
 else
 some (j26.1.1,(j26.1.2.2,0))
 else
 bif (decide (a1.1=3)) then
 (v5A a0).bind fun y27 =>
 (bif (a1.1==6) then
 bif (y27==0) then
 bif (decide (a1.2.2.2.2≥a0.2.2.2.2.2.2.1)) then
 some ((decide (a1.2.2.2.2≤1099511627776)),(0,(0,(0,(0,(0,(0,(0,([],[])))))))),((a0.1,(a0.2.1,(a0.2.2.1,(a0.2.2.2.1,(a0.2.2.2.2.1,(a0.2.2.2.2.2.1,(a0.2.2.2.2.2.2.1,(y1,y2)))))))),(a1,[])),())
 else
 some (false,(0,(0,(0,(0,(0,(0,(0,([],[])))))))),((a0.1,(a0.2.1,(a0.2.2.1,(a0.2.2.2.1,(a0.2.2.2.2.1,(a0.2.2.2.2.2.1,(a0.2.2.2.2.2.2.1,(y1,y2)))))))),(a1,[])),())
 else
 some (false,(0,(0,(0,(0,(0,(0,(0,([],[])))))))),((a0.1,(a0.2.1,(a0.2.2.1,(a0.2.2.2.1,(a0.2.2.2.2.1,(a0.2.2.2.2.2.1,(a0.2.2.2.2.2.2.1,(y1,y2)))))))),(a1,[])),())
 else
 bif (a1.1==3) then
 bif (y27==0) then
 (k4A a1.2.2.1 7).bind fun y28 =>
 bif y28 then
 bif (decide (a1.2.1>0)) then
 some ((decide (a1.2.1≤1073741824)),(0,(0,(0,(0,(0,(0,(0,([],[])))))))),((a0.1,(a0.2.1,(a0.2.2.1,(a0.2.2.2.1,(a0.2.2.2.2.1,(a0.2.2.2.2.2.1,(a0.2.2.2.2.2.2.1,(y1,y2)))))))),(a1,[])),())
 else
 some (false,(0,(0,(0,(0,(0,(0,(0,([],[])))))))),((a0.1,(a0.2.1,(a0.2.2.1,(a0.2.2.2.1,(a0.2.2.2.2.1,(a0.2.2.2.2.2.1,(a0.2.2.2.2.2.2.1,(y1,y2)))))))),(a1,[])),())
 else
 some (false,(0,(0,(0,(0,(0,(0,(0,([],[])))))))),((a0.1,(a0.2.1,(a0.2.2.1,(a0.2.2.2.1,(a0.2.2.2.2.1,(a0.2.2.2.2.2.1,(a0.2.2.2.2.2.2.1,(y1,y2)))))))),(a1,[])),())
 else
 some (false,(0,(0,(0,(0,(0,(0,(0,([],[])))))))),((a0.1,(a0.2.1,(a0.2.2.1,(a0.2.2.2.1,(a0.2.2.2.2.1,(a0.2.2.2.2.2.1,(a0.2.2.2.2.2.2.1,(y1,y2)))))))),(a1,[])),())
 else
 bif (y27==0) then
 bif (decide (a1.2.1>0)) then
 some ((decide (a1.2.1≤1073741824)),(0,(0,(0,(0,(0,(0,(0,([],[])))))))),((a0.1,(a0.2.1,(a0.2.2.1,(a0.2.2.2.1,(a0.2.2.2.2.1,(a0.2.2.2.2.2.1,(a0.2.2.2.2.2.2.1,(y1,y2)))))))),(a1,[])),())
 else
 some (false,(0,(0,(0,(0,(0,(0,(0,([],[])))))))),((a0.1,(a0.2.1,(a0.2.2.1,(a0.2.2.2.1,(a0.2.2.2.2.1,(a0.2.2.2.2.2.1,(a0.2.2.2.2.2.2.1,(y1,y2)))))))),(a1,[])),())
 else
 some (false,(0,(0,(0,(0,(0,(0,(0,([],[])))))))),((a0.1,(a0.2.1,(a0.2.2.1,(a0.2.2.2.1,(a0.2.2.2.2.1,(a0.2.2.2.2.2.1,(a0.2.2.2.2.2.2.1,(y1,y2)))))))),(a1,[])),()):Option ((Bool×(Int×Int×Int×Int×Int×Int×Int×List (Int×Int)×List Int)×((Int×Int×Int×Int×Int×Int×Int×List (Int×Int)×List Int)×(Int×Int×Int×Int×Int)×List (Int×Int×Int×Int))×Unit))).bind fun j29 =>
 bif (!j29.1) then
 some ((0,(0,(0,(0,(0,(0,(0,([],[])))))))),([],1))
 else
 (u2B j29.2.2.1.1 j29.2.2.1.2.1.2.1).bind fun y30 =>
 (o2B j29.2.2.1.1 j29.2.2.1.2.1.2.1).bind fun y31 =>
 bif (!y31) then
 bif (c6A 32 (j29.2.2.1.2.2++[(6,(j29.2.2.1.2.1.2.1,(0,0)))]).length) then
 some (j29.2.2.1.1,((j29.2.2.1.2.2++[(6,(j29.2.2.1.2.1.2.1,(0,0)))]),0))
 else none
 else
 bif (j29.2.2.1.1.1==0) then
 bif (c6A 32 (j29.2.2.1.2.2++[(5,(j29.2.2.1.2.1.2.1,((IntKind.i64.wrap (j29.2.2.1.1.2.1+1)),0)))]).length) then
 some ((1,((IntKind.i64.wrap (j29.2.2.1.1.2.1+1)),(j29.2.2.1.2.1.2.1,(j29.2.2.1.2.1.2.2.1,((IntKind.i64.wrap (j29.2.2.1.1.2.2.2.2.2.2.1+60)),((IntKind.i64.wrap (j29.2.2.1.1.2.2.2.2.2.2.1+12)),j29.2.2.1.1.2.2.2.2.2.2)))))),((j29.2.2.1.2.2++[(5,(j29.2.2.1.2.1.2.1,((IntKind.i64.wrap (j29.2.2.1.1.2.1+1)),0)))]),0))
 else none
 else
 (bif (j29.2.2.1.1.2.2.1==j29.2.2.1.2.1.2.1) then
 some (y30,(j29.2.2.1.1.1==1),j29.2.2.1,(j29.2.2.1.2.1.2.1,j29.2.2.1.2.1.2.2.1),())
 else
 some (y30,false,j29.2.2.1,(j29.2.2.1.2.1.2.1,j29.2.2.1.2.1.2.2.1),()):Option ((Int×Bool×((Int×Int×Int×Int×Int×Int×Int×List (Int×Int)×List Int)×(Int×Int×Int×Int×Int)×List (Int×Int×Int×Int))×(Int×Int)×Unit))).bind fun j32 =>
 bif j32.2.1 then
 bif (c6A 32 (j32.2.2.1.2.2++[(5,(j32.2.2.2.1.1,(j32.2.2.1.1.2.1,0)))]).length) then
 some (j32.2.2.1.1,((j32.2.2.1.2.2++[(5,(j32.2.2.2.1.1,(j32.2.2.1.1.2.1,0)))]),0))
 else none
 else
 bif (j32.2.2.1.1.2.2.1==j32.2.2.2.1.1) then
 bif (c6A 32 (j32.2.2.1.2.2++[(8,(j32.2.2.2.1.1,(j32.2.2.1.1.2.1,0)))]).length) then
 some (j32.2.2.1.1,((j32.2.2.1.2.2++[(8,(j32.2.2.2.1.1,(j32.2.2.1.1.2.1,0)))]),0))
 else none
 else
 bif (decide (j32.1≥0)) then
 bif (c6A 32 (j32.2.2.1.2.2++[(7,(j32.2.2.2.1.1,(0,(IntKind.i64.wrap (j32.1+1)))))]).length) then
 some (j32.2.2.1.1,((j32.2.2.1.2.2++[(7,(j32.2.2.2.1.1,(0,(IntKind.i64.wrap (j32.1+1)))))]),0))
 else none
 else
 bif (decide ((j32.2.2.1.1.2.2.2.2.2.2.2.1.length:Int)≥4)) then
 bif (c6A 32 (j32.2.2.1.2.2++[(6,(j32.2.2.2.1.1,(0,0)))]).length) then
 some (j32.2.2.1.1,((j32.2.2.1.2.2++[(6,(j32.2.2.2.1.1,(0,0)))]),0))
 else none
 else
 ((iter (w1B) (j32.2.2.1.1.2.2.2.2.2.2.2.1,(j32.2.2.1.1.2.2.2.2.2.2.2.1.length:Int),0,j32.2.2.2.1,())).bind fun j34 =>
 (match j34 with
 | .inl j35 =>
 (some (j32.2.2.2.1,(-1),((j32.2.2.1.1.1,(j32.2.2.1.1.2.1,(j32.2.2.1.1.2.2.1,(j32.2.2.1.1.2.2.2.1,(j32.2.2.1.1.2.2.2.2.1,(j32.2.2.1.1.2.2.2.2.2.1,(j32.2.2.1.1.2.2.2.2.2.2.1,(j35.1,j32.2.2.1.1.2.2.2.2.2.2.2.2)))))))),j32.2.2.1.2),j35.2.1,()))
 | .inr j36 =>
 (some (j32.2.2.2.1,j36.2.1,((j32.2.2.1.1.1,(j32.2.2.1.1.2.1,(j32.2.2.1.1.2.2.1,(j32.2.2.1.1.2.2.2.1,(j32.2.2.1.1.2.2.2.2.1,(j32.2.2.1.1.2.2.2.2.2.1,(j32.2.2.1.1.2.2.2.2.2.2.1,(j36.1,j32.2.2.1.1.2.2.2.2.2.2.2.2)))))))),j32.2.2.1.2),j36.2.2.1,()))):Option (((Int×Int)×Int×((Int×Int×Int×Int×Int×Int×Int×List (Int×Int)×List Int)×(Int×Int×Int×Int×Int)×List (Int×Int×Int×Int))×(Int×Int)×Unit))).bind fun j37 =>
 (bif (decide (j37.2.1<0)) then
 some (j37.1,(j37.2.2.1.1.2.2.2.2.2.2.2.1.length:Int),j37.2.2.1,j37.2.2.2.1,())
 else
 some (j37.1,j37.2.1,j37.2.2.1,j37.2.2.2.1,()):Option (((Int×Int)×Int×((Int×Int×Int×Int×Int×Int×Int×List (Int×Int)×List Int)×(Int×Int×Int×Int×Int)×List (Int×Int×Int×Int))×(Int×Int)×Unit))).bind fun j38 =>
 (e7C j38.2.2.1.1.2.2.2.2.2.2.2.1 j38.2.1 [j38.2.2.2.1]).bind fun y39 =>
 bif (c6A 32 (j38.2.2.1.2.2++[(7,(j38.2.2.2.1.1,(0,(IntKind.i64.wrap (j38.2.1+1)))))]).length) then
 (bif (j38.2.2.1.1.1==1) then
 some (j38.1,(decide (j38.2.2.1.1.2.2.2.1<j38.2.2.2.1.2)),((j38.2.2.1.1.1,(j38.2.2.1.1.2.1,(j38.2.2.1.1.2.2.1,(j38.2.2.1.1.2.2.2.1,(j38.2.2.1.1.2.2.2.2.1,(j38.2.2.1.1.2.2.2.2.2.1,(j38.2.2.1.1.2.2.2.2.2.2.1,(y39,j38.2.2.1.1.2.2.2.2.2.2.2.2)))))))),(j38.2.2.1.2.1,(j38.2.2.1.2.2++[(7,(j38.2.2.2.1.1,(0,(IntKind.i64.wrap (j38.2.1+1)))))]))),())
 else
 some (j38.1,false,((j38.2.2.1.1.1,(j38.2.2.1.1.2.1,(j38.2.2.1.1.2.2.1,(j38.2.2.1.1.2.2.2.1,(j38.2.2.1.1.2.2.2.2.1,(j38.2.2.1.1.2.2.2.2.2.1,(j38.2.2.1.1.2.2.2.2.2.2.1,(y39,j38.2.2.1.1.2.2.2.2.2.2.2.2)))))))),(j38.2.2.1.2.1,(j38.2.2.1.2.2++[(7,(j38.2.2.2.1.1,(0,(IntKind.i64.wrap (j38.2.1+1)))))]))),()):Option (((Int×Int)×Bool×((Int×Int×Int×Int×Int×Int×Int×List (Int×Int)×List Int)×(Int×Int×Int×Int×Int)×List (Int×Int×Int×Int))×Unit))).bind fun j40 =>
 bif j40.2.1 then
 bif (c6A 32 (j40.2.2.1.2.2++[(8,(j40.2.2.1.1.2.2.1,(j40.2.2.1.1.2.1,0)))]).length) then
 some ((2,j40.2.2.1.1.2),((j40.2.2.1.2.2++[(8,(j40.2.2.1.1.2.2.1,(j40.2.2.1.1.2.1,0)))]),0))
 else none
 else
 some (j40.2.2.1.1,(j40.2.2.1.2.2,0))
 else none
 else
 bif (decide (a1.1=4)) then
 (v5A a0).bind fun y41 =>
 (bif (a1.1==6) then
 bif (y41==0) then
 bif (decide (a1.2.2.2.2≥a0.2.2.2.2.2.2.1)) then
 some ((decide (a1.2.2.2.2≤1099511627776)),(0,(0,(0,(0,(0,(0,(0,([],[])))))))),((a0.1,(a0.2.1,(a0.2.2.1,(a0.2.2.2.1,(a0.2.2.2.2.1,(a0.2.2.2.2.2.1,(a0.2.2.2.2.2.2.1,(y1,y2)))))))),(a1,[])),())
 else
 some (false,(0,(0,(0,(0,(0,(0,(0,([],[])))))))),((a0.1,(a0.2.1,(a0.2.2.1,(a0.2.2.2.1,(a0.2.2.2.2.1,(a0.2.2.2.2.2.1,(a0.2.2.2.2.2.2.1,(y1,y2)))))))),(a1,[])),())
 else
 some (false,(0,(0,(0,(0,(0,(0,(0,([],[])))))))),((a0.1,(a0.2.1,(a0.2.2.1,(a0.2.2.2.1,(a0.2.2.2.2.1,(a0.2.2.2.2.2.1,(a0.2.2.2.2.2.2.1,(y1,y2)))))))),(a1,[])),())
 else
 bif (a1.1==3) then
 bif (y41==0) then
 (k4A a1.2.2.1 7).bind fun y42 =>
 bif y42 then
 bif (decide (a1.2.1>0)) then
 some ((decide (a1.2.1≤1073741824)),(0,(0,(0,(0,(0,(0,(0,([],[])))))))),((a0.1,(a0.2.1,(a0.2.2.1,(a0.2.2.2.1,(a0.2.2.2.2.1,(a0.2.2.2.2.2.1,(a0.2.2.2.2.2.2.1,(y1,y2)))))))),(a1,[])),())
 else
 some (false,(0,(0,(0,(0,(0,(0,(0,([],[])))))))),((a0.1,(a0.2.1,(a0.2.2.1,(a0.2.2.2.1,(a0.2.2.2.2.1,(a0.2.2.2.2.2.1,(a0.2.2.2.2.2.2.1,(y1,y2)))))))),(a1,[])),())
 else
 some (false,(0,(0,(0,(0,(0,(0,(0,([],[])))))))),((a0.1,(a0.2.1,(a0.2.2.1,(a0.2.2.2.1,(a0.2.2.2.2.1,(a0.2.2.2.2.2.1,(a0.2.2.2.2.2.2.1,(y1,y2)))))))),(a1,[])),())
 else
 some (false,(0,(0,(0,(0,(0,(0,(0,([],[])))))))),((a0.1,(a0.2.1,(a0.2.2.1,(a0.2.2.2.1,(a0.2.2.2.2.1,(a0.2.2.2.2.2.1,(a0.2.2.2.2.2.2.1,(y1,y2)))))))),(a1,[])),())
 else
 bif (y41==0) then
 bif (decide (a1.2.1>0)) then
 some ((decide (a1.2.1≤1073741824)),(0,(0,(0,(0,(0,(0,(0,([],[])))))))),((a0.1,(a0.2.1,(a0.2.2.1,(a0.2.2.2.1,(a0.2.2.2.2.1,(a0.2.2.2.2.2.1,(a0.2.2.2.2.2.2.1,(y1,y2)))))))),(a1,[])),())
 else
 some (false,(0,(0,(0,(0,(0,(0,(0,([],[])))))))),((a0.1,(a0.2.1,(a0.2.2.1,(a0.2.2.2.1,(a0.2.2.2.2.1,(a0.2.2.2.2.2.1,(a0.2.2.2.2.2.2.1,(y1,y2)))))))),(a1,[])),())
 else
 some (false,(0,(0,(0,(0,(0,(0,(0,([],[])))))))),((a0.1,(a0.2.1,(a0.2.2.1,(a0.2.2.2.1,(a0.2.2.2.2.1,(a0.2.2.2.2.2.1,(a0.2.2.2.2.2.2.1,(y1,y2)))))))),(a1,[])),()):Option ((Bool×(Int×Int×Int×Int×Int×Int×Int×List (Int×Int)×List Int)×((Int×Int×Int×Int×Int×Int×Int×List (Int×Int)×List Int)×(Int×Int×Int×Int×Int)×List (Int×Int×Int×Int))×Unit))).bind fun j43 =>
 bif (!j43.1) then
 some ((0,(0,(0,(0,(0,(0,(0,([],[])))))))),([],1))
 else
 (((iter (i5D) (j43.2.2.1.1.2.2.2.2.2.2.2.1,(j43.2.2.1.1.2.2.2.2.2.2.2.1.length:Int),0,(j43.2.2.1.1.1,j43.2.2.1.1.2.1,j43.2.2.1.1.2.2.1,j43.2.2.1.1.2.2.2.1,j43.2.2.1.1.2.2.2.2.1,j43.2.2.1.1.2.2.2.2.2.1,j43.2.2.1.1.2.2.2.2.2.2.1,j43.2.2.1.2.1.1,j43.2.2.1.2.1.2.1,j43.2.2.1.2.1.2.2.1,j43.2.2.1.2.1.2.2.2.1,j43.2.2.1.2.1.2.2.2.2,()),j43.2.2.1.1.2.2.2.2.2.2.2.2,j43.2.2.1.2.2,())).bind fun j45 =>
 (match j45 with
 | .inl j46 =>
 (some (j46.1,(-1),(j46.2.1.1,j46.2.1.2.1,j46.2.1.2.2.1,j46.2.1.2.2.2.1,j46.2.1.2.2.2.2.1,j46.2.1.2.2.2.2.2.1,j46.2.1.2.2.2.2.2.2.1,j46.2.1.2.2.2.2.2.2.2.1,j46.2.1.2.2.2.2.2.2.2.2.1,j46.2.1.2.2.2.2.2.2.2.2.2.1,j46.2.1.2.2.2.2.2.2.2.2.2.2.1,j46.2.1.2.2.2.2.2.2.2.2.2.2.2.1,()),j46.2.2.1,j46.2.2.2.1,()))
 | .inr j47 =>
 (some (j47.1,j47.2.1,(j47.2.2.1.1,j47.2.2.1.2.1,j47.2.2.1.2.2.1,j47.2.2.1.2.2.2.1,j47.2.2.1.2.2.2.2.1,j47.2.2.1.2.2.2.2.2.1,j47.2.2.1.2.2.2.2.2.2.1,j47.2.2.1.2.2.2.2.2.2.2.1,j47.2.2.1.2.2.2.2.2.2.2.2.1,j47.2.2.1.2.2.2.2.2.2.2.2.2.1,j47.2.2.1.2.2.2.2.2.2.2.2.2.2.1,j47.2.2.1.2.2.2.2.2.2.2.2.2.2.2.1,()),j47.2.2.2.1,j47.2.2.2.2.1,()))):Option ((List (Int×Int)×Int×(Int×Int×Int×Int×Int×Int×Int×Int×Int×Int×Int×Int×Unit)×List Int×List (Int×Int×Int×Int)×Unit))).bind fun j48 =>
 bif (j48.2.1==(-1)) then
 some (((j48.2.2.1.1,(j48.2.2.1.2.1,(j48.2.2.1.2.2.1,(j48.2.2.1.2.2.2.1,(j48.2.2.1.2.2.2.2.1,(j48.2.2.1.2.2.2.2.2.1,(j48.2.2.1.2.2.2.2.2.2.1,(j48.1,j48.2.2.2.1)))))))),((j48.2.2.1.2.2.2.2.2.2.2.1,(j48.2.2.1.2.2.2.2.2.2.2.2.1,(j48.2.2.1.2.2.2.2.2.2.2.2.2.1,(j48.2.2.1.2.2.2.2.2.2.2.2.2.2.1,j48.2.2.1.2.2.2.2.2.2.2.2.2.2.2.1)))),j48.2.2.2.2.1)),())
 else
 (iter (i6D) (j48.1,j48.2.1,(IntKind.i64.wrap (j48.2.1+1)),(j48.2.2.1.1,j48.2.2.1.2.1,j48.2.2.1.2.2.1,j48.2.2.1.2.2.2.1,j48.2.2.1.2.2.2.2.1,j48.2.2.1.2.2.2.2.2.1,j48.2.2.1.2.2.2.2.2.2.1,j48.2.2.1.2.2.2.2.2.2.2.1,j48.2.2.1.2.2.2.2.2.2.2.2.1,j48.2.2.1.2.2.2.2.2.2.2.2.2.1,j48.2.2.1.2.2.2.2.2.2.2.2.2.2.1,j48.2.2.1.2.2.2.2.2.2.2.2.2.2.2.1,()),j48.2.2.2.1,j48.2.2.2.2.1,())).bind fun j51 =>
 bif (f3A j51.2.1 (j51.1.length:Int) j51.1.length) then
 bif (f3A 0 j51.2.1 ((h5A j51.1 j51.2.1.toNat (List.replicate ((j51.1.length:Int).toNat - j51.2.1.toNat) (0,0))).length)) then
 some (((j51.2.2.1.1,(j51.2.2.1.2.1,(j51.2.2.1.2.2.1,(j51.2.2.1.2.2.2.1,(j51.2.2.1.2.2.2.2.1,(j51.2.2.1.2.2.2.2.2.1,(j51.2.2.1.2.2.2.2.2.2.1,((((h5A j51.1 j51.2.1.toNat (List.replicate ((j51.1.length:Int).toNat - j51.2.1.toNat) (0,0))).drop 0).take (j51.2.1.toNat - 0)),j51.2.2.2.1)))))))),((j51.2.2.1.2.2.2.2.2.2.2.1,(j51.2.2.1.2.2.2.2.2.2.2.2.1,(j51.2.2.1.2.2.2.2.2.2.2.2.2.1,(j51.2.2.1.2.2.2.2.2.2.2.2.2.2.1,j51.2.2.1.2.2.2.2.2.2.2.2.2.2.2.1)))),j51.2.2.2.2.1)),())
 else none
 else none:Option ((((Int×Int×Int×Int×Int×Int×Int×List (Int×Int)×List Int)×(Int×Int×Int×Int×Int)×List (Int×Int×Int×Int))×Unit))).bind fun j52 =>
 bif (j52.1.1.2.2.1==j52.1.2.1.2.1) then
 bif (decide ((j52.1.1.2.2.2.2.2.2.2.1.length:Int)>0)) then
 bif (a7A 0 j52.1.1.2.2.2.2.2.2.2.1.length) then
 bif (f3A 1 (j52.1.1.2.2.2.2.2.2.2.1.length:Int) j52.1.1.2.2.2.2.2.2.2.1.length) then
 bif (c6A 32 (j52.1.2.2++[(5,(((j52.1.1.2.2.2.2.2.2.2.1.getD 0 (0,0))).1,((IntKind.i64.wrap (j52.1.1.2.1+1)),0)))]).length) then
 some ((1,((IntKind.i64.wrap (j52.1.1.2.1+1)),(((j52.1.1.2.2.2.2.2.2.2.1.getD 0 (0,0))).1,(((j52.1.1.2.2.2.2.2.2.2.1.getD 0 (0,0))).2,((IntKind.i64.wrap (j52.1.1.2.2.2.2.2.2.1+60)),((IntKind.i64.wrap (j52.1.1.2.2.2.2.2.2.1+12)),(j52.1.1.2.2.2.2.2.2.1,(((j52.1.1.2.2.2.2.2.2.2.1.drop 1).take ((j52.1.1.2.2.2.2.2.2.2.1.length:Int).toNat - 1)),j52.1.1.2.2.2.2.2.2.2.2)))))))),((j52.1.2.2++[(5,(((j52.1.1.2.2.2.2.2.2.2.1.getD 0 (0,0))).1,((IntKind.i64.wrap (j52.1.1.2.1+1)),0)))]),0))
 else none
 else none
 else none
 else
 bif (c6A 32 (j52.1.2.2++[(10,(0,(j52.1.1.2.1,0)))]).length) then
 some ((0,(j52.1.1.2.1,(0,(0,(0,(0,j52.1.1.2.2.2.2.2.2)))))),((j52.1.2.2++[(10,(0,(j52.1.1.2.1,0)))]),0))
 else none
 else
 some (j52.1.1,(j52.1.2.2,0))
 else
 bif (decide (a1.1=5)) then
 (v5A a0).bind fun y53 =>
 (bif (a1.1==6) then
 bif (y53==0) then
 bif (decide (a1.2.2.2.2≥a0.2.2.2.2.2.2.1)) then
 some ((decide (a1.2.2.2.2≤1099511627776)),(0,(0,(0,(0,(0,(0,(0,([],[])))))))),((a0.1,(a0.2.1,(a0.2.2.1,(a0.2.2.2.1,(a0.2.2.2.2.1,(a0.2.2.2.2.2.1,(a0.2.2.2.2.2.2.1,(y1,y2)))))))),(a1,[])),())
 else
 some (false,(0,(0,(0,(0,(0,(0,(0,([],[])))))))),((a0.1,(a0.2.1,(a0.2.2.1,(a0.2.2.2.1,(a0.2.2.2.2.1,(a0.2.2.2.2.2.1,(a0.2.2.2.2.2.2.1,(y1,y2)))))))),(a1,[])),())
 else
 some (false,(0,(0,(0,(0,(0,(0,(0,([],[])))))))),((a0.1,(a0.2.1,(a0.2.2.1,(a0.2.2.2.1,(a0.2.2.2.2.1,(a0.2.2.2.2.2.1,(a0.2.2.2.2.2.2.1,(y1,y2)))))))),(a1,[])),())
 else
 bif (a1.1==3) then
 bif (y53==0) then
 (k4A a1.2.2.1 7).bind fun y54 =>
 bif y54 then
 bif (decide (a1.2.1>0)) then
 some ((decide (a1.2.1≤1073741824)),(0,(0,(0,(0,(0,(0,(0,([],[])))))))),((a0.1,(a0.2.1,(a0.2.2.1,(a0.2.2.2.1,(a0.2.2.2.2.1,(a0.2.2.2.2.2.1,(a0.2.2.2.2.2.2.1,(y1,y2)))))))),(a1,[])),())
 else
 some (false,(0,(0,(0,(0,(0,(0,(0,([],[])))))))),((a0.1,(a0.2.1,(a0.2.2.1,(a0.2.2.2.1,(a0.2.2.2.2.1,(a0.2.2.2.2.2.1,(a0.2.2.2.2.2.2.1,(y1,y2)))))))),(a1,[])),())
 else
 some (false,(0,(0,(0,(0,(0,(0,(0,([],[])))))))),((a0.1,(a0.2.1,(a0.2.2.1,(a0.2.2.2.1,(a0.2.2.2.2.1,(a0.2.2.2.2.2.1,(a0.2.2.2.2.2.2.1,(y1,y2)))))))),(a1,[])),())
 else
 some (false,(0,(0,(0,(0,(0,(0,(0,([],[])))))))),((a0.1,(a0.2.1,(a0.2.2.1,(a0.2.2.2.1,(a0.2.2.2.2.1,(a0.2.2.2.2.2.1,(a0.2.2.2.2.2.2.1,(y1,y2)))))))),(a1,[])),())
 else
 bif (y53==0) then
 bif (decide (a1.2.1>0)) then
 some ((decide (a1.2.1≤1073741824)),(0,(0,(0,(0,(0,(0,(0,([],[])))))))),((a0.1,(a0.2.1,(a0.2.2.1,(a0.2.2.2.1,(a0.2.2.2.2.1,(a0.2.2.2.2.2.1,(a0.2.2.2.2.2.2.1,(y1,y2)))))))),(a1,[])),())
 else
 some (false,(0,(0,(0,(0,(0,(0,(0,([],[])))))))),((a0.1,(a0.2.1,(a0.2.2.1,(a0.2.2.2.1,(a0.2.2.2.2.1,(a0.2.2.2.2.2.1,(a0.2.2.2.2.2.2.1,(y1,y2)))))))),(a1,[])),())
 else
 some (false,(0,(0,(0,(0,(0,(0,(0,([],[])))))))),((a0.1,(a0.2.1,(a0.2.2.1,(a0.2.2.2.1,(a0.2.2.2.2.1,(a0.2.2.2.2.2.1,(a0.2.2.2.2.2.2.1,(y1,y2)))))))),(a1,[])),()):Option ((Bool×(Int×Int×Int×Int×Int×Int×Int×List (Int×Int)×List Int)×((Int×Int×Int×Int×Int×Int×Int×List (Int×Int)×List Int)×(Int×Int×Int×Int×Int)×List (Int×Int×Int×Int))×Unit))).bind fun j55 =>
 bif (!j55.1) then
 some ((0,(0,(0,(0,(0,(0,(0,([],[])))))))),([],1))
 else
 (bif (j55.2.2.1.1.1==1) then
 bif (j55.2.2.1.1.2.2.1==j55.2.2.1.2.1.2.1) then
 some ((j55.2.2.1.1.2.1==j55.2.2.1.2.1.2.2.2.1),j55.2.2.1,())
 else
 some (false,j55.2.2.1,())
 else
 some (false,j55.2.2.1,()):Option ((Bool×((Int×Int×Int×Int×Int×Int×Int×List (Int×Int)×List Int)×(Int×Int×Int×Int×Int)×List (Int×Int×Int×Int))×Unit))).bind fun j56 =>
 bif j56.1 then
 some ((j56.2.1.1.1,(j56.2.1.1.2.1,(j56.2.1.1.2.2.1,(j56.2.1.1.2.2.2.1,(j56.2.1.1.2.2.2.2.1,((IntKind.i64.wrap (j56.2.1.1.2.2.2.2.2.2.1+12)),j56.2.1.1.2.2.2.2.2.2)))))),(j56.2.1.2.2,0))
 else
 some (j56.2.1.1,(j56.2.1.2.2,0))
 else
 bif (decide (a1.1=6)) then
 (v5A a0).bind fun y57 =>
 (bif (a1.1==6) then
 bif (y57==0) then
 bif (decide (a1.2.2.2.2≥a0.2.2.2.2.2.2.1)) then
 some ((decide (a1.2.2.2.2≤1099511627776)),(0,(0,(0,(0,(0,(0,(0,([],[])))))))),((a0.1,(a0.2.1,(a0.2.2.1,(a0.2.2.2.1,(a0.2.2.2.2.1,(a0.2.2.2.2.2.1,(a0.2.2.2.2.2.2.1,(y1,y2)))))))),(a1,[])),())
 else
 some (false,(0,(0,(0,(0,(0,(0,(0,([],[])))))))),((a0.1,(a0.2.1,(a0.2.2.1,(a0.2.2.2.1,(a0.2.2.2.2.1,(a0.2.2.2.2.2.1,(a0.2.2.2.2.2.2.1,(y1,y2)))))))),(a1,[])),())
 else
 some (false,(0,(0,(0,(0,(0,(0,(0,([],[])))))))),((a0.1,(a0.2.1,(a0.2.2.1,(a0.2.2.2.1,(a0.2.2.2.2.1,(a0.2.2.2.2.2.1,(a0.2.2.2.2.2.2.1,(y1,y2)))))))),(a1,[])),())
 else
 bif (a1.1==3) then
 bif (y57==0) then
 (k4A a1.2.2.1 7).bind fun y58 =>
 bif y58 then
 bif (decide (a1.2.1>0)) then
 some ((decide (a1.2.1≤1073741824)),(0,(0,(0,(0,(0,(0,(0,([],[])))))))),((a0.1,(a0.2.1,(a0.2.2.1,(a0.2.2.2.1,(a0.2.2.2.2.1,(a0.2.2.2.2.2.1,(a0.2.2.2.2.2.2.1,(y1,y2)))))))),(a1,[])),())
 else
 some (false,(0,(0,(0,(0,(0,(0,(0,([],[])))))))),((a0.1,(a0.2.1,(a0.2.2.1,(a0.2.2.2.1,(a0.2.2.2.2.1,(a0.2.2.2.2.2.1,(a0.2.2.2.2.2.2.1,(y1,y2)))))))),(a1,[])),())
 else
 some (false,(0,(0,(0,(0,(0,(0,(0,([],[])))))))),((a0.1,(a0.2.1,(a0.2.2.1,(a0.2.2.2.1,(a0.2.2.2.2.1,(a0.2.2.2.2.2.1,(a0.2.2.2.2.2.2.1,(y1,y2)))))))),(a1,[])),())
 else
 some (false,(0,(0,(0,(0,(0,(0,(0,([],[])))))))),((a0.1,(a0.2.1,(a0.2.2.1,(a0.2.2.2.1,(a0.2.2.2.2.1,(a0.2.2.2.2.2.1,(a0.2.2.2.2.2.2.1,(y1,y2)))))))),(a1,[])),())
 else
 bif (y57==0) then
 bif (decide (a1.2.1>0)) then
 some ((decide (a1.2.1≤1073741824)),(0,(0,(0,(0,(0,(0,(0,([],[])))))))),((a0.1,(a0.2.1,(a0.2.2.1,(a0.2.2.2.1,(a0.2.2.2.2.1,(a0.2.2.2.2.2.1,(a0.2.2.2.2.2.2.1,(y1,y2)))))))),(a1,[])),())
 else
 some (false,(0,(0,(0,(0,(0,(0,(0,([],[])))))))),((a0.1,(a0.2.1,(a0.2.2.1,(a0.2.2.2.1,(a0.2.2.2.2.1,(a0.2.2.2.2.2.1,(a0.2.2.2.2.2.2.1,(y1,y2)))))))),(a1,[])),())
 else
 some (false,(0,(0,(0,(0,(0,(0,(0,([],[])))))))),((a0.1,(a0.2.1,(a0.2.2.1,(a0.2.2.2.1,(a0.2.2.2.2.1,(a0.2.2.2.2.2.1,(a0.2.2.2.2.2.2.1,(y1,y2)))))))),(a1,[])),()):Option ((Bool×(Int×Int×Int×Int×Int×Int×Int×List (Int×Int)×List Int)×((Int×Int×Int×Int×Int×Int×Int×List (Int×Int)×List Int)×(Int×Int×Int×Int×Int)×List (Int×Int×Int×Int))×Unit))).bind fun j59 =>
 bif (!j59.1) then
 some ((0,(0,(0,(0,(0,(0,(0,([],[])))))))),([],1))
 else
 ((bif (j59.2.2.1.1.1==1) then
 bif (decide (j59.2.2.1.2.1.2.2.2.2≥(IntKind.i64.wrap (j59.2.2.1.1.2.2.2.2.2.1+3)))) then
 some ((decide (j59.2.2.1.2.1.2.2.2.2≥(IntKind.i64.wrap (j59.2.2.1.1.2.2.2.2.2.1+3)))),true,((j59.2.2.1.1.1,(j59.2.2.1.1.2.1,(j59.2.2.1.1.2.2.1,(j59.2.2.1.1.2.2.2.1,(j59.2.2.1.1.2.2.2.2.1,(j59.2.2.1.1.2.2.2.2.2.1,(j59.2.2.1.2.1.2.2.2.2,j59.2.2.1.1.2.2.2.2.2.2.2))))))),j59.2.2.1.2),())
 else
 some ((decide (j59.2.2.1.2.1.2.2.2.2≥(IntKind.i64.wrap (j59.2.2.1.1.2.2.2.2.2.1+3)))),(decide (j59.2.2.1.2.1.2.2.2.2≥j59.2.2.1.1.2.2.2.2.1)),((j59.2.2.1.1.1,(j59.2.2.1.1.2.1,(j59.2.2.1.1.2.2.1,(j59.2.2.1.1.2.2.2.1,(j59.2.2.1.1.2.2.2.2.1,(j59.2.2.1.1.2.2.2.2.2.1,(j59.2.2.1.2.1.2.2.2.2,j59.2.2.1.1.2.2.2.2.2.2.2))))))),j59.2.2.1.2),())
 else
 some ((decide (j59.2.2.1.2.1.2.2.2.2≥(IntKind.i64.wrap (j59.2.2.1.1.2.2.2.2.2.1+3)))),false,((j59.2.2.1.1.1,(j59.2.2.1.1.2.1,(j59.2.2.1.1.2.2.1,(j59.2.2.1.1.2.2.2.1,(j59.2.2.1.1.2.2.2.2.1,(j59.2.2.1.1.2.2.2.2.2.1,(j59.2.2.1.2.1.2.2.2.2,j59.2.2.1.1.2.2.2.2.2.2.2))))))),j59.2.2.1.2),()):Option ((Bool×Bool×((Int×Int×Int×Int×Int×Int×Int×List (Int×Int)×List Int)×(Int×Int×Int×Int×Int)×List (Int×Int×Int×Int))×Unit))).bind fun j60 =>
 bif j60.2.1 then
 bif (c6A 32 (j60.2.2.1.2.2++[(8,(j60.2.2.1.1.2.2.1,(j60.2.2.1.1.2.1,0)))]).length) then
 some (j60.1,((2,j60.2.2.1.1.2),(j60.2.2.1.2.1,(j60.2.2.1.2.2++[(8,(j60.2.2.1.1.2.2.1,(j60.2.2.1.1.2.1,0)))]))),())
 else none
 else
 some (j60.1,j60.2.2.1,()):Option ((Bool×((Int×Int×Int×Int×Int×Int×Int×List (Int×Int)×List Int)×(Int×Int×Int×Int×Int)×List (Int×Int×Int×Int))×Unit))).bind fun j61 =>
 (bif (j61.2.1.1.1==2) then
 some (j61.1,j61.2.1,())
 else
 some (false,j61.2.1,()):Option ((Bool×((Int×Int×Int×Int×Int×Int×Int×List (Int×Int)×List Int)×(Int×Int×Int×Int×Int)×List (Int×Int×Int×Int))×Unit))).bind fun j62 =>
 bif j62.1 then
 bif (decide ((j62.2.1.1.2.2.2.2.2.2.2.1.length:Int)>0)) then
 bif (a7A 0 j62.2.1.1.2.2.2.2.2.2.2.1.length) then
 bif (f3A 1 (j62.2.1.1.2.2.2.2.2.2.2.1.length:Int) j62.2.1.1.2.2.2.2.2.2.2.1.length) then
 bif (c6A 32 (j62.2.1.2.2++[(5,(((j62.2.1.1.2.2.2.2.2.2.2.1.getD 0 (0,0))).1,((IntKind.i64.wrap (j62.2.1.1.2.1+1)),0)))]).length) then
 some ((1,((IntKind.i64.wrap (j62.2.1.1.2.1+1)),(((j62.2.1.1.2.2.2.2.2.2.2.1.getD 0 (0,0))).1,(((j62.2.1.1.2.2.2.2.2.2.2.1.getD 0 (0,0))).2,((IntKind.i64.wrap (j62.2.1.1.2.2.2.2.2.2.1+60)),((IntKind.i64.wrap (j62.2.1.1.2.2.2.2.2.2.1+12)),(j62.2.1.1.2.2.2.2.2.2.1,(((j62.2.1.1.2.2.2.2.2.2.2.1.drop 1).take ((j62.2.1.1.2.2.2.2.2.2.2.1.length:Int).toNat - 1)),j62.2.1.1.2.2.2.2.2.2.2.2)))))))),((j62.2.1.2.2++[(5,(((j62.2.1.1.2.2.2.2.2.2.2.1.getD 0 (0,0))).1,((IntKind.i64.wrap (j62.2.1.1.2.1+1)),0)))]),0))
 else none
 else none
 else none
 else
 bif (c6A 32 (j62.2.1.2.2++[(10,(0,(j62.2.1.1.2.1,0)))]).length) then
 some ((0,(j62.2.1.1.2.1,(0,(0,(0,(0,j62.2.1.1.2.2.2.2.2.2)))))),((j62.2.1.2.2++[(10,(0,(j62.2.1.1.2.1,0)))]),0))
 else none
 else
 some (j62.2.1.1,(j62.2.1.2.2,0))
 else
 (bif (a1.1==6) then
 some (false,(0,(0,(0,(0,(0,(0,(0,([],[])))))))),((a0.1,(a0.2.1,(a0.2.2.1,(a0.2.2.2.1,(a0.2.2.2.2.1,(a0.2.2.2.2.2.1,(a0.2.2.2.2.2.2.1,(y1,y2)))))))),(a1,[])),())
 else
 bif (a1.1==3) then
 some (false,(0,(0,(0,(0,(0,(0,(0,([],[])))))))),((a0.1,(a0.2.1,(a0.2.2.1,(a0.2.2.2.1,(a0.2.2.2.2.1,(a0.2.2.2.2.2.1,(a0.2.2.2.2.2.2.1,(y1,y2)))))))),(a1,[])),())
 else
 some (false,(0,(0,(0,(0,(0,(0,(0,([],[])))))))),((a0.1,(a0.2.1,(a0.2.2.1,(a0.2.2.2.1,(a0.2.2.2.2.1,(a0.2.2.2.2.2.1,(a0.2.2.2.2.2.2.1,(y1,y2)))))))),(a1,[])),()):Option ((Bool×(Int×Int×Int×Int×Int×Int×Int×List (Int×Int)×List Int)×((Int×Int×Int×Int×Int×Int×Int×List (Int×Int)×List Int)×(Int×Int×Int×Int×Int)×List (Int×Int×Int×Int))×Unit))).bind fun j3 =>
 bif (!j3.1) then
 some ((0,(0,(0,(0,(0,(0,(0,([],[])))))))),([],1))
 else
 none
end Go.Sq
set_option linter.unusedVariables false
set_option maxRecDepth 100000
namespace Go.Sq
open Go.Rx
noncomputable def w2B (p1:(List (Int×Int×List Int))×Int×Int×Int×Int×Unit):Option (((List (Int×Int×List Int))×Int×Int×Int×Int×Unit)⊕(((List (Int×Int×List Int))×Int×Int×Int×Unit))):=
 bif (decide (p1.2.2.2.1<p1.2.2.2.2.1)) then
 bif (a7A (IntKind.i64.wrap (g4A .u64 (IntKind.u64.wrap (IntKind.i64.wrap (p1.2.2.2.1+p1.2.2.2.2.1))) 1)) p1.1.length) then
 (o7B (p1.1.getD ((IntKind.i64.wrap (g4A .u64 (IntKind.u64.wrap (IntKind.i64.wrap (p1.2.2.2.1+p1.2.2.2.2.1))) 1)).toNat) (0,(0,[]))) p1.2.1).bind fun y2 =>
 bif (decide (y2<0)) then
 some (Sum.inl (p1.1,p1.2.1,p1.2.2.1,(IntKind.i64.wrap ((IntKind.i64.wrap (g4A .u64 (IntKind.u64.wrap (IntKind.i64.wrap (p1.2.2.2.1+p1.2.2.2.2.1))) 1))+1)),p1.2.2.2.2.1,()))
 else
 some (Sum.inl (p1.1,p1.2.1,p1.2.2.1,p1.2.2.2.1,(IntKind.i64.wrap (g4A .u64 (IntKind.u64.wrap (IntKind.i64.wrap (p1.2.2.2.1+p1.2.2.2.2.1))) 1)),()))
 else none
 else
 some (Sum.inr (p1.1,p1.2.1,p1.2.2.1,p1.2.2.2.1,()))
noncomputable def z3A (a0:List (Int×Int×List Int)) (a1:Int):Option (Int×Bool):=
 (iter (w2B) (a0,a1,(a0.length:Int),0,(a0.length:Int),())).bind fun j3 =>
 bif (decide (j3.2.2.2.1<j3.2.2.1)) then
 bif (a7A j3.2.2.2.1 j3.1.length) then
 (o7B (j3.1.getD j3.2.2.2.1.toNat (0,(0,[]))) j3.2.1).bind fun y4 =>
 some (j3.2.2.2.1,(y4==0))
 else none
 else
 some (j3.2.2.2.1,false)
noncomputable def d8E (a0:List (Int×Int×List Int)) (a1:Int) (a2:List (Int×Int×List Int)):Option (List (Int×Int×List Int)):=
 s4A 40 a0 a1 a2
noncomputable def i7D (p6:Int×Int×(Int×List (Int×(Int×Int×Int×Int×Int×Int×Int×Int×ByteArray×List Int)×Int×Int)×List (Int×Int×List Int))×(Int×List (Int×(Int×Int×Int×Int×Int×Int×Int×Int×ByteArray×List Int)×Int×Int)×List (Int×Int×List Int))×Unit):Option ((Int×Int×(Int×List (Int×(Int×Int×Int×Int×Int×Int×Int×Int×ByteArray×List Int)×Int×Int)×List (Int×Int×List Int))×(Int×List (Int×(Int×Int×Int×Int×Int×Int×Int×Int×ByteArray×List Int)×Int×Int)×List (Int×Int×List Int))×Unit)⊕(((Int×List (Int×(Int×Int×Int×Int×Int×Int×Int×Int×ByteArray×List Int)×Int×Int)×List (Int×Int×List Int))×(Int×List (Int×(Int×Int×Int×Int×Int×Int×Int×Int×ByteArray×List Int)×Int×Int)×List (Int×Int×List Int))×Unit))):=
 bif (decide (p6.2.1<p6.1)) then
 bif (a7A p6.2.1 p6.2.2.1.2.1.length) then
 (v7A ((((p6.2.2.1.2.1.getD p6.2.1.toNat (0,((0,(0,(0,(0,(0,(0,(0,(0,(ByteArray.empty,[]))))))))),(0,0))))).2).1)).bind fun y7 =>
 bif (a7A p6.2.1 p6.2.2.1.2.1.length) then
 some (Sum.inl (p6.1,(IntKind.i64.wrap (p6.2.1+1)),(p6.2.2.1.1,((p6.2.2.1.2.1.set p6.2.1.toNat (((p6.2.2.1.2.1.getD p6.2.1.toNat (0,((0,(0,(0,(0,(0,(0,(0,(0,(ByteArray.empty,[]))))))))),(0,0))))).1,(y7,((((p6.2.2.1.2.1.getD p6.2.1.toNat (0,((0,(0,(0,(0,(0,(0,(0,(0,(ByteArray.empty,[]))))))))),(0,0))))).2).2)))),p6.2.2.1.2.2)),p6.2.2.2.1,()))
 else none
 else none
 else
 some (Sum.inr (p6.2.2.1,p6.2.2.2.1,()))
noncomputable def f9C (g:Nat) (p9:Int×Int×(Int×List (Int×(Int×Int×Int×Int×Int×Int×Int×Int×ByteArray×List Int)×Int×Int)×List (Int×Int×List Int))×(Int×List (Int×(Int×Int×Int×Int×Int×Int×Int×Int×ByteArray×List Int)×Int×Int)×List (Int×Int×List Int))×Unit):Option ((Int×Int×(Int×List (Int×(Int×Int×Int×Int×Int×Int×Int×Int×ByteArray×List Int)×Int×Int)×List (Int×Int×List Int))×(Int×List (Int×(Int×Int×Int×Int×Int×Int×Int×Int×ByteArray×List Int)×Int×Int)×List (Int×Int×List Int))×Unit)⊕((Int×Int×(Int×List (Int×(Int×Int×Int×Int×Int×Int×Int×Int×ByteArray×List Int)×Int×Int)×List (Int×Int×List Int))×(Int×List (Int×(Int×Int×Int×Int×Int×Int×Int×Int×ByteArray×List Int)×Int×Int)×List (Int×Int×List Int))×Unit)⊕(((Int×List (Int×(Int×Int×Int×Int×Int×Int×Int×Int×ByteArray×List Int)×Int×Int)×List (Int×Int×List Int))×(Int×List (Int×(Int×Int×Int×Int×Int×Int×Int×Int×ByteArray×List Int)×Int×Int)×List (Int×Int×List Int))×Unit)))):=
 bif Nat.beq p9.2.1.toNat g then some (Sum.inr (Sum.inl p9)) else
 bif (decide (p9.2.1<p9.1)) then
 bif (a7A p9.2.1 p9.2.2.1.2.2.length) then
 (s2A ((((p9.2.2.1.2.2.getD p9.2.1.toNat (0,(0,[])))).2).2)).bind fun y10 =>
 bif (a7A p9.2.1 p9.2.2.1.2.2.length) then
 some (Sum.inl (p9.1,(IntKind.i64.wrap (p9.2.1+1)),(p9.2.2.1.1,(p9.2.2.1.2.1,(p9.2.2.1.2.2.set p9.2.1.toNat (((p9.2.2.1.2.2.getD p9.2.1.toNat (0,(0,[])))).1,((((p9.2.2.1.2.2.getD p9.2.1.toNat (0,(0,[])))).2).1,y10))))),p9.2.2.2.1,()))
 else none
 else none
 else
 some (Sum.inr (Sum.inr (p9.2.2.1,p9.2.2.2.1,())))
noncomputable def g0C (p14:Int×Int×(Int×Unit)×List (Int×(Int×Int×Int×Int×Int×Int×Int×Int×ByteArray×List Int)×Int×Int)×(List (Int×Int×List Int)×(Nat×((Int×Int×Unit)×List Int)))×(Int×List (Int×(Int×Int×Int×Int×Int×Int×Int×Int×ByteArray×List Int)×Int×Int)×List (Int×Int×List Int))×Unit):Option ((Int×Int×(Int×Unit)×List (Int×(Int×Int×Int×Int×Int×Int×Int×Int×ByteArray×List Int)×Int×Int)×(List (Int×Int×List Int)×(Nat×((Int×Int×Unit)×List Int)))×(Int×List (Int×(Int×Int×Int×Int×Int×Int×Int×Int×ByteArray×List Int)×Int×Int)×List (Int×Int×List Int))×Unit)⊕(((Int×Unit)×List (Int×(Int×Int×Int×Int×Int×Int×Int×Int×ByteArray×List Int)×Int×Int)×(List (Int×Int×List Int)×(Nat×((Int×Int×Unit)×List Int)))×(Int×List (Int×(Int×Int×Int×Int×Int×Int×Int×Int×ByteArray×List Int)×Int×Int)×List (Int×Int×List Int))×Unit))):=
 bif (decide (p14.2.1<p14.1)) then
 bif (a7A p14.2.1 p14.2.2.2.2.1.1.length) then
 bif (!Nat.beq p14.2.1.toNat p14.2.2.2.2.1.2.1) then
 (s2A ((((p14.2.2.2.2.1.1.getD p14.2.1.toNat (0,(0,[])))).2).2)).bind fun y15 =>
 bif (a7A p14.2.1 p14.2.2.2.2.1.1.length) then
 bif (!Nat.beq p14.2.1.toNat p14.2.2.2.2.1.2.1) then
 some (Sum.inl (p14.1,(IntKind.i64.wrap (p14.2.1+1)),(p14.2.2.1.1,()),p14.2.2.2.1,((p14.2.2.2.2.1.1.set p14.2.1.toNat (((p14.2.2.2.2.1.1.getD p14.2.1.toNat (0,(0,[])))).1,((((p14.2.2.2.2.1.1.getD p14.2.1.toNat (0,(0,[])))).2).1,y15))),(p14.2.2.2.2.1.2.1,((p14.2.2.2.2.1.2.2.1.1,p14.2.2.2.2.1.2.2.1.2.1,()),p14.2.2.2.2.1.2.2.2))),p14.2.2.2.2.2.1,()))
 else none
 else none
 else none
 else none
 else
 some (Sum.inr ((p14.2.2.1.1,()),p14.2.2.2.1,(p14.2.2.2.2.1.1,(p14.2.2.2.2.1.2.1,((p14.2.2.2.2.1.2.2.1.1,p14.2.2.2.2.1.2.2.1.2.1,()),p14.2.2.2.2.1.2.2.2))),p14.2.2.2.2.2.1,()))
noncomputable def j5B (p22:Nat×(List (Int×Int×List Int)×(Nat×((Int×Int×Unit)×List Int)))×Int×Int×Unit):Option ((Nat×(List (Int×Int×List Int)×(Nat×((Int×Int×Unit)×List Int)))×Int×Int×Unit)⊕((Nat×(List (Int×Int×List Int)×(Nat×((Int×Int×Unit)×List Int)))×Int×Int×Unit))):=
 (bif Nat.beq p22.1 p22.2.1.2.1 then
 bif (decide (p22.2.2.2.1<(p22.2.1.2.2.2.length:Int))) then
 bif Nat.beq p22.1 p22.2.1.2.1 then
 bif (a7A p22.2.2.2.1 p22.2.1.2.2.2.length) then
 bif Nat.beq p22.1 p22.2.1.2.1 then
 some (p22.1,(p22.2.1.1,(p22.2.1.2.1,((p22.2.1.2.2.1.1,p22.2.1.2.2.1.2.1,()),p22.2.1.2.2.2))),p22.2.2.1,p22.2.2.2.1,((p22.2.1.2.2.2.getD p22.2.2.2.1.toNat 0)==p22.2.1.2.2.1.2.1),())
 else none
 else none
 else none
 else
 some (p22.1,(p22.2.1.1,(p22.2.1.2.1,((p22.2.1.2.2.1.1,p22.2.1.2.2.1.2.1,()),p22.2.1.2.2.2))),p22.2.2.1,p22.2.2.2.1,false,())
 else none:Option ((Nat×(List (Int×Int×List Int)×(Nat×((Int×Int×Unit)×List Int)))×Int×Int×Bool×Unit))).bind fun j23 =>
 bif j23.2.2.2.2.1 then
 bif Nat.beq j23.1 j23.2.1.2.1 then
 bif Nat.beq j23.1 j23.2.1.2.1 then
 some (Sum.inl (j23.1,(j23.2.1.1,(j23.2.1.2.1,((j23.2.1.2.2.1.1,(IntKind.i64.wrap (j23.2.1.2.2.1.2.1+1)),()),j23.2.1.2.2.2))),j23.2.2.1,(IntKind.i64.wrap (j23.2.2.2.1+1)),()))
 else none
 else none
 else
 some (Sum.inr (j23.1,(j23.2.1.1,(j23.2.1.2.1,((j23.2.1.2.2.1.1,j23.2.1.2.2.1.2.1,()),j23.2.1.2.2.2))),j23.2.2.1,j23.2.2.2.1,()))
noncomputable def v3B (g:Nat) (a0:Int×List (Int×(Int×Int×Int×Int×Int×Int×Int×Int×ByteArray×List Int)×Int×Int)×List (Int×Int×List Int)) (a1:Int) (a2:Int):Option ((Int×List (Int×(Int×Int×Int×Int×Int×Int×Int×Int×ByteArray×List Int)×Int×Int)×List (Int×Int×List Int))×Bool×Int):=
 (v6A a0).bind fun y1 =>
 bif (y1 != 0) then
 some ((0,([],[])),(false,1))
 else
 (m3A a1 0 1073741824).bind fun y2 =>
 bif (!y2) then
 some ((0,([],[])),(false,1))
 else
 (m3A a2 0 1073741824).bind fun y3 =>
 bif (!y3) then
 some ((0,([],[])),(false,1))
 else
 (u6B a0.2.1).bind fun y4 =>
 (u7B a0.2.2).bind fun y5 =>
 (iter (i7D) ((y4.length:Int),0,(a0.1,(y4,y5)),(0,([],[])),())).bind fun j8 =>
 (iter (f9C g) ((j8.1.2.2.length:Int),0,j8.1,j8.2.1,())).bind fun r11 =>
 (match r11 with
 | .inl q12 =>
 (bif (decide (q12.2.1<q12.1)) then
 bif (Nat.blt q12.2.1.toNat q12.2.2.1.2.2.length)&&true then
 bif (a7A q12.2.1 q12.2.2.1.2.2.length) then
 bif Nat.beq q12.2.1.toNat q12.2.1.toNat then
 (s2A ((((q12.2.2.1.2.2.getD q12.2.1.toNat (0,(0,[])))).2).2)).bind fun y13 =>
 bif (a7A q12.2.1 q12.2.2.1.2.2.length) then
 bif Nat.beq q12.2.1.toNat q12.2.1.toNat then
 (iter (g0C) (q12.1,(IntKind.i64.wrap (q12.2.1+1)),(q12.2.2.1.1,()),q12.2.2.1.2.1,(q12.2.2.1.2.2,(q12.2.1.toNat,((((q12.2.2.1.2.2.getD q12.2.1.toNat (0,(0,[])))).1,(((q12.2.2.1.2.2.getD q12.2.1.toNat (0,(0,[])))).2).1,()),y13))),q12.2.2.2.1,())).bind fun j16 =>
 (z3A (j16.2.2.1.1.set j16.2.2.1.2.1 (j16.2.2.1.2.2.1.1,(j16.2.2.1.2.2.1.2.1,j16.2.2.1.2.2.2))) a1).bind fun y17 =>
 bif (!y17.2) then
 bif (decide ((j16.2.2.1.1.length:Int)≥64)) then
 some ((0,([],[])),(false,2))
 else
 none
 else
 bif (a7A y17.1 j16.2.2.1.1.length) then
 bif Nat.beq y17.1.toNat j16.2.2.1.2.1 then
 (z0A j16.2.2.1.2.2.2 a2).bind fun y18 =>
 (bif y18.2 then
 some (y17.1.toNat,(j16.2.2.1.1,(j16.2.2.1.2.1,((j16.2.2.1.2.2.1.1,j16.2.2.1.2.2.1.2.1,()),j16.2.2.1.2.2.2))),a2,y18.1,true,())
 else
 bif Nat.beq y17.1.toNat j16.2.2.1.2.1 then
 some (y17.1.toNat,(j16.2.2.1.1,(j16.2.2.1.2.1,((j16.2.2.1.2.2.1.1,j16.2.2.1.2.2.1.2.1,()),j16.2.2.1.2.2.2))),a2,y18.1,(decide (a2<j16.2.2.1.2.2.1.2.1)),())
 else none:Option ((Nat×(List (Int×Int×List Int)×(Nat×((Int×Int×Unit)×List Int)))×Int×Int×Bool×Unit))).bind fun j19 =>
 bif j19.2.2.2.2.1 then
 some ((j16.1.1,(j16.2.1,(j19.2.1.1.set j19.2.1.2.1 (j19.2.1.2.2.1.1,(j19.2.1.2.2.1.2.1,j19.2.1.2.2.2))))),(false,0))
 else
 bif Nat.beq j19.1 j19.2.1.2.1 then
 (o8B j19.2.1.2.2.2 j19.2.2.2.1 [j19.2.2.1]).bind fun y20 =>
 bif Nat.beq j19.1 j19.2.1.2.1 then
 (bif Nat.beq j19.1 j19.2.1.2.1 then
 bif (decide ((y20.length:Int)>16)) then
 bif Nat.beq j19.1 j19.2.1.2.1 then
 bif (a7A 0 y20.length) then
 bif Nat.beq j19.1 j19.2.1.2.1 then
 some (j19.1,(j19.2.1.1,(j19.2.1.2.1,((j19.2.1.2.2.1.1,(y20.getD 0 0),()),y20))),j19.2.2.1,())
 else none
 else none
 else none
 else
 some (j19.1,(j19.2.1.1,(j19.2.1.2.1,((j19.2.1.2.2.1.1,j19.2.1.2.2.1.2.1,()),y20))),j19.2.2.1,())
 else none:Option ((Nat×(List (Int×Int×List Int)×(Nat×((Int×Int×Unit)×List Int)))×Int×Unit))).bind fun j21 =>
 (iter (j5B) (j21.1,(j21.2.1.1,(j21.2.1.2.1,((j21.2.1.2.2.1.1,j21.2.1.2.2.1.2.1,()),j21.2.1.2.2.2))),j21.2.2.1,0,())).bind fun j24 =>
 bif Nat.beq j24.1 j24.2.1.2.1 then
 bif (f3A j24.2.2.2.1 (j24.2.1.2.2.2.length:Int) j24.2.1.2.2.2.length) then
 (s2A ((j24.2.1.2.2.2.drop j24.2.2.2.1.toNat).take ((j24.2.1.2.2.2.length:Int).toNat - j24.2.2.2.1.toNat))).bind fun y25 =>
 bif Nat.beq j24.1 j24.2.1.2.1 then
 some ((j16.1.1,(j16.2.1,(j24.2.1.1.set j24.2.1.2.1 (j24.2.1.2.2.1.1,(j24.2.1.2.2.1.2.1,y25))))),(true,0))
 else none
 else none
 else none
 else none
 else none
 else none
 else none
 else none
 else none
 else none
 else none
 else none
 else
 none)
 | .inr j26 =>
 (
 none))
noncomputable def i8D (p9:Nat×(List (Int×Int×List Int)×(Nat×((Int×Int×Unit)×List Int)))×Int×Int×Unit):Option ((Nat×(List (Int×Int×List Int)×(Nat×((Int×Int×Unit)×List Int)))×Int×Int×Unit)⊕((Nat×(List (Int×Int×List Int)×(Nat×((Int×Int×Unit)×List Int)))×Int×Int×Unit))):=
 (bif Nat.beq p9.1 p9.2.1.2.1 then
 bif (decide (p9.2.2.2.1<(p9.2.1.2.2.2.length:Int))) then
 bif Nat.beq p9.1 p9.2.1.2.1 then
 bif (a7A p9.2.2.2.1 p9.2.1.2.2.2.length) then
 bif Nat.beq p9.1 p9.2.1.2.1 then
 some (p9.1,(p9.2.1.1,(p9.2.1.2.1,((p9.2.1.2.2.1.1,p9.2.1.2.2.1.2.1,()),p9.2.1.2.2.2))),p9.2.2.1,p9.2.2.2.1,((p9.2.1.2.2.2.getD p9.2.2.2.1.toNat 0)==p9.2.1.2.2.1.2.1),())
 else none
 else none
 else none
 else
 some (p9.1,(p9.2.1.1,(p9.2.1.2.1,((p9.2.1.2.2.1.1,p9.2.1.2.2.1.2.1,()),p9.2.1.2.2.2))),p9.2.2.1,p9.2.2.2.1,false,())
 else none:Option ((Nat×(List (Int×Int×List Int)×(Nat×((Int×Int×Unit)×List Int)))×Int×Int×Bool×Unit))).bind fun j10 =>
 bif j10.2.2.2.2.1 then
 bif Nat.beq j10.1 j10.2.1.2.1 then
 bif Nat.beq j10.1 j10.2.1.2.1 then
 some (Sum.inl (j10.1,(j10.2.1.1,(j10.2.1.2.1,((j10.2.1.2.2.1.1,(IntKind.i64.wrap (j10.2.1.2.2.1.2.1+1)),()),j10.2.1.2.2.2))),j10.2.2.1,(IntKind.i64.wrap (j10.2.2.2.1+1)),()))
 else none
 else none
 else
 some (Sum.inr (j10.1,(j10.2.1.1,(j10.2.1.2.1,((j10.2.1.2.2.1.1,j10.2.1.2.2.1.2.1,()),j10.2.1.2.2.2))),j10.2.2.1,j10.2.2.2.1,()))
noncomputable def v4B (a0:Int×List (Int×(Int×Int×Int×Int×Int×Int×Int×Int×ByteArray×List Int)×Int×Int)×List (Int×Int×List Int)) (a1:Int) (a2:Int):Option ((Int×List (Int×(Int×Int×Int×Int×Int×Int×Int×Int×ByteArray×List Int)×Int×Int)×List (Int×Int×List Int))×Bool×Int):=
 (v6A a0).bind fun y1 =>
 bif (y1 != 0) then
 some ((0,([],[])),(false,1))
 else
 (m3A a1 0 1073741824).bind fun y2 =>
 bif (!y2) then
 some ((0,([],[])),(false,1))
 else
 (m3A a2 0 1073741824).bind fun y3 =>
 bif (!y3) then
 some ((0,([],[])),(false,1))
 else
 (i5B a0).bind fun y4 =>
 (z3A y4.2.2 a1).bind fun y5 =>
 bif (!y5.2) then
 bif (decide ((y4.2.2.length:Int)≥64)) then
 some ((0,([],[])),(false,2))
 else
 bif (decide (0≤y5.1)&&decide (y5.1≤(y4.2.2.length:Int)))&&c6A 40 (y4.2.2.length+1) then
 bif (a7A y5.1 ((y4.2.2.take y5.1.toNat++((0,(0,[]))::y4.2.2.drop y5.1.toNat)).length)) then
 bif Nat.beq y5.1.toNat y5.1.toNat then
 (z0A [] a2).bind fun y6 =>
 bif y6.2 then
 some ((y4.1,(y4.2.1,((y4.2.2.take y5.1.toNat++((0,(0,[]))::y4.2.2.drop y5.1.toNat)).set y5.1.toNat (a1,(0,[]))))),(false,0))
 else
 bif Nat.beq y5.1.toNat y5.1.toNat then
 bif (decide (a2<0)) then
 some ((y4.1,(y4.2.1,((y4.2.2.take y5.1.toNat++((0,(0,[]))::y4.2.2.drop y5.1.toNat)).set y5.1.toNat (a1,(0,[]))))),(false,0))
 else
 bif Nat.beq y5.1.toNat y5.1.toNat then
 (o8B [] y6.1 [a2]).bind fun y7 =>
 bif Nat.beq y5.1.toNat y5.1.toNat then
 (bif Nat.beq y5.1.toNat y5.1.toNat then
 bif (decide ((y7.length:Int)>16)) then
 bif Nat.beq y5.1.toNat y5.1.toNat then
 bif (a7A 0 y7.length) then
 bif Nat.beq y5.1.toNat y5.1.toNat then
 some (y5.1.toNat,((y4.2.2.take y5.1.toNat++((0,(0,[]))::y4.2.2.drop y5.1.toNat)),(y5.1.toNat,((a1,(y7.getD 0 0),()),y7))),a2,())
 else none
 else none
 else none
 else
 some (y5.1.toNat,((y4.2.2.take y5.1.toNat++((0,(0,[]))::y4.2.2.drop y5.1.toNat)),(y5.1.toNat,((a1,0,()),y7))),a2,())
 else none:Option ((Nat×(List (Int×Int×List Int)×(Nat×((Int×Int×Unit)×List Int)))×Int×Unit))).bind fun j8 =>
 (iter (i8D) (j8.1,(j8.2.1.1,(j8.2.1.2.1,((j8.2.1.2.2.1.1,j8.2.1.2.2.1.2.1,()),j8.2.1.2.2.2))),j8.2.2.1,0,())).bind fun j11 =>
 bif Nat.beq j11.1 j11.2.1.2.1 then
 bif (f3A j11.2.2.2.1 (j11.2.1.2.2.2.length:Int) j11.2.1.2.2.2.length) then
 (s2A ((j11.2.1.2.2.2.drop j11.2.2.2.1.toNat).take ((j11.2.1.2.2.2.length:Int).toNat - j11.2.2.2.1.toNat))).bind fun y12 =>
 bif Nat.beq j11.1 j11.2.1.2.1 then
 some ((y4.1,(y4.2.1,(j11.2.1.1.set j11.2.1.2.1 (j11.2.1.2.2.1.1,(j11.2.1.2.2.1.2.1,y12))))),(true,0))
 else none
 else none
 else none
 else none
 else none
 else none
 else none
 else none
 else none
 else
 none
noncomputable def i6B (a0:Int×List (Int×(Int×Int×Int×Int×Int×Int×Int×Int×ByteArray×List Int)×Int×Int)×List (Int×Int×List Int)) (a1:Int) (a2:Int):Option Nat:=
 match z3A a0.2.2 a1 with
 | some (i,true)=>some i.toNat
 | _=>none
noncomputable def v5B:Option Nat→(Int×List (Int×(Int×Int×Int×Int×Int×Int×Int×Int×ByteArray×List Int)×Int×Int)×List (Int×Int×List Int))×Int×Int→Option ((Int×List (Int×(Int×Int×Int×Int×Int×Int×Int×Int×ByteArray×List Int)×Int×Int)×List (Int×Int×List Int))×Bool×Int)
 | some g=>fun x=>v3B g x.1 x.2.1 x.2.2
 | none=>fun x=>v4B x.1 x.2.1 x.2.2
noncomputable def p0B (a0:Int×List (Int×(Int×Int×Int×Int×Int×Int×Int×Int×ByteArray×List Int)×Int×Int)×List (Int×Int×List Int)) (a1:Int) (a2:Int):Option ((Int×List (Int×(Int×Int×Int×Int×Int×Int×Int×Int×ByteArray×List Int)×Int×Int)×List (Int×Int×List Int))×Bool×Int):=
 v5B (i6B a0 a1 a2) (a0,a1,a2)
end Go.Sq
set_option linter.unusedVariables false
set_option maxRecDepth 100000
namespace Go.Sq
open Go.Rx
abbrev Yz2:=Int×Int×Int×Int×Int×Int×Int×Int×List (Int×Int)×List Int
abbrev Yz1:=Int×Int×Int×Int×Int×Int×Int×Int×ByteArray×List Int
abbrev Yz0:=Int×List Yz2×List (Int×ByteArray×Int×List (Int×Yz1×Int×Int)×List (Int×Int×List Int))
abbrev Yz3:=Int×Int×Int×Int×Int×Int×Int×List (Int×Int)×List Int
abbrev Yz4:=List (Nat×(List Int×Bool))×Nat
noncomputable def u1B:Option Yz0:=
 some (0,([],[]))
noncomputable def w3B (p2:Bool×Int×(List Yz2)×Int×Int×Yz0×Unit):Option ((Bool×Int×(List Yz2)×Int×Int×Yz0×Unit)⊕((Bool×Yz0×Unit))):=
 bif (decide (p2.2.2.2.2.1<p2.2.2.2.1)) then
 bif (a7A p2.2.2.2.2.1 p2.2.2.1.length) then
 (bif p2.1 then
 bif (decide (((p2.2.2.1.getD p2.2.2.2.2.1.toNat (0,(0,(0,(0,(0,(0,(0,(0,([],[]))))))))))).1>p2.2.1)) then
 bif (decide (((p2.2.2.1.getD p2.2.2.2.2.1.toNat (0,(0,(0,(0,(0,(0,(0,(0,([],[]))))))))))).1≤1073741824)) then
 bif (((((((((((p2.2.2.1.getD p2.2.2.2.2.1.toNat (0,(0,(0,(0,(0,(0,(0,(0,([],[]))))))))))).2).2).2).2).2).2).2).1)==p2.2.2.2.2.2.1.1) then
 (v5A (((p2.2.2.1.getD p2.2.2.2.2.1.toNat (0,(0,(0,(0,(0,(0,(0,(0,([],[]))))))))))).2)).bind fun y3 =>
 some ((y3==0),p2.2.2.1,p2.2.2.2.1,p2.2.2.2.2.1,p2.2.2.2.2.2.1,(p2.2.2.1.getD p2.2.2.2.2.1.toNat (0,(0,(0,(0,(0,(0,(0,(0,([],[])))))))))),())
 else
 some (false,p2.2.2.1,p2.2.2.2.1,p2.2.2.2.2.1,p2.2.2.2.2.2.1,(p2.2.2.1.getD p2.2.2.2.2.1.toNat (0,(0,(0,(0,(0,(0,(0,(0,([],[])))))))))),())
 else
 some (false,p2.2.2.1,p2.2.2.2.1,p2.2.2.2.2.1,p2.2.2.2.2.2.1,(p2.2.2.1.getD p2.2.2.2.2.1.toNat (0,(0,(0,(0,(0,(0,(0,(0,([],[])))))))))),())
 else
 some (false,p2.2.2.1,p2.2.2.2.1,p2.2.2.2.2.1,p2.2.2.2.2.2.1,(p2.2.2.1.getD p2.2.2.2.2.1.toNat (0,(0,(0,(0,(0,(0,(0,(0,([],[])))))))))),())
 else
 some (false,p2.2.2.1,p2.2.2.2.1,p2.2.2.2.2.1,p2.2.2.2.2.2.1,(p2.2.2.1.getD p2.2.2.2.2.1.toNat (0,(0,(0,(0,(0,(0,(0,(0,([],[])))))))))),()):Option ((Bool×(List Yz2)×Int×Int×Yz0×Yz2×Unit))).bind fun j4 =>
 some (Sum.inl (j4.1,j4.2.2.2.2.2.1.1,j4.2.1,j4.2.2.1,(IntKind.i64.wrap (j4.2.2.2.1+1)),j4.2.2.2.2.1,()))
 else none
 else
 some (Sum.inr (p2.1,p2.2.2.2.2.2.1,()))
noncomputable def w4B (p6:Bool×Int×(List (Int×ByteArray×Int×List (Int×Yz1×Int×Int)×List (Int×Int×List Int)))×Int×Int×Unit):Option ((Bool×Int×(List (Int×ByteArray×Int×List (Int×Yz1×Int×Int)×List (Int×Int×List Int)))×Int×Int×Unit)⊕((Bool×Unit))):=
 bif (decide (p6.2.2.2.2.1<p6.2.2.2.1)) then
 bif (a7A p6.2.2.2.2.1 p6.2.2.1.length) then
 (bif p6.1 then
 bif (decide (((p6.2.2.1.getD p6.2.2.2.2.1.toNat (0,(ByteArray.empty,(0,([],[])))))).1>p6.2.1)) then
 bif (decide (((p6.2.2.1.getD p6.2.2.2.2.1.toNat (0,(ByteArray.empty,(0,([],[])))))).1≤1073741824)) then
 (u4B ((((p6.2.2.1.getD p6.2.2.2.2.1.toNat (0,(ByteArray.empty,(0,([],[])))))).2).1)).bind fun y7 =>
 bif y7 then
 (v6A ((((p6.2.2.1.getD p6.2.2.2.2.1.toNat (0,(ByteArray.empty,(0,([],[])))))).2).2)).bind fun y8 =>
 some ((y8==0),p6.2.2.1,p6.2.2.2.1,p6.2.2.2.2.1,(p6.2.2.1.getD p6.2.2.2.2.1.toNat (0,(ByteArray.empty,(0,([],[]))))),())
 else
 some (false,p6.2.2.1,p6.2.2.2.1,p6.2.2.2.2.1,(p6.2.2.1.getD p6.2.2.2.2.1.toNat (0,(ByteArray.empty,(0,([],[]))))),())
 else
 some (false,p6.2.2.1,p6.2.2.2.1,p6.2.2.2.2.1,(p6.2.2.1.getD p6.2.2.2.2.1.toNat (0,(ByteArray.empty,(0,([],[]))))),())
 else
 some (false,p6.2.2.1,p6.2.2.2.1,p6.2.2.2.2.1,(p6.2.2.1.getD p6.2.2.2.2.1.toNat (0,(ByteArray.empty,(0,([],[]))))),())
 else
 some (false,p6.2.2.1,p6.2.2.2.1,p6.2.2.2.2.1,(p6.2.2.1.getD p6.2.2.2.2.1.toNat (0,(ByteArray.empty,(0,([],[]))))),()):Option ((Bool×(List (Int×ByteArray×Int×List (Int×Yz1×Int×Int)×List (Int×Int×List Int)))×Int×Int×(Int×ByteArray×Int×List (Int×Yz1×Int×Int)×List (Int×Int×List Int))×Unit))).bind fun j9 =>
 some (Sum.inl (j9.1,j9.2.2.2.2.1.1,j9.2.1,j9.2.2.1,(IntKind.i64.wrap (j9.2.2.2.1+1)),()))
 else none
 else
 some (Sum.inr (p6.1,()))
noncomputable def e4B (a0:Int×List Yz2×List (Int×ByteArray×Int×List (Int×Yz1×Int×Int)×List (Int×Int×List Int))):Option (Int):=
 (bif (decide (a0.1≥0)) then
 bif (decide (a0.1≤1099511627776)) then
 bif (decide ((a0.2.1.length:Int)≤4)) then
 some ((decide ((a0.2.2.length:Int)≤16)),a0,())
 else
 some (false,a0,())
 else
 some (false,a0,())
 else
 some (false,a0,()):Option ((Bool×Yz0×Unit))).bind fun j1 =>
 (iter (w3B) (j1.1,(-1),j1.2.1.2.1,(j1.2.1.2.1.length:Int),0,j1.2.1,())).bind fun j5 =>
 (iter (w4B) (j5.1,0,j5.2.1.2.2,(j5.2.1.2.2.length:Int),0,())).bind fun j10 =>
 bif (!j10.1) then
 some 1
 else
 some 0
noncomputable def o3B (a0:List Yz2):Option (List Yz2):=
 bif c6A 112 ([]++a0).length then some ([]++a0) else none
noncomputable def o4B (a0:List (Int×ByteArray×Int×List (Int×Yz1×Int×Int)×List (Int×Int×List Int))):Option (List (Int×ByteArray×Int×List (Int×Yz1×Int×Int)×List (Int×Int×List Int))):=
 bif c6A 80 ([]++a0).length then some ([]++a0) else none
noncomputable def u9B (a0:Int×ByteArray×Int×List (Int×Yz1×Int×Int)×List (Int×Int×List Int)) (a1:Int):Option (Int):=
 (e6B a0.1 a1).bind fun y1 =>
 some y1
noncomputable def g1C (p1:(List (Int×ByteArray×Int×List (Int×Yz1×Int×Int)×List (Int×Int×List Int)))×Int×Int×Int×Int×Unit):Option (((List (Int×ByteArray×Int×List (Int×Yz1×Int×Int)×List (Int×Int×List Int)))×Int×Int×Int×Int×Unit)⊕(((List (Int×ByteArray×Int×List (Int×Yz1×Int×Int)×List (Int×Int×List Int)))×Int×Int×Int×Unit))):=
 bif (decide (p1.2.2.2.1<p1.2.2.2.2.1)) then
 bif (a7A (IntKind.i64.wrap (g4A .u64 (IntKind.u64.wrap (IntKind.i64.wrap (p1.2.2.2.1+p1.2.2.2.2.1))) 1)) p1.1.length) then
 (u9B (p1.1.getD ((IntKind.i64.wrap (g4A .u64 (IntKind.u64.wrap (IntKind.i64.wrap (p1.2.2.2.1+p1.2.2.2.2.1))) 1)).toNat) (0,(ByteArray.empty,(0,([],[]))))) p1.2.1).bind fun y2 =>
 bif (decide (y2<0)) then
 some (Sum.inl (p1.1,p1.2.1,p1.2.2.1,(IntKind.i64.wrap ((IntKind.i64.wrap (g4A .u64 (IntKind.u64.wrap (IntKind.i64.wrap (p1.2.2.2.1+p1.2.2.2.2.1))) 1))+1)),p1.2.2.2.2.1,()))
 else
 some (Sum.inl (p1.1,p1.2.1,p1.2.2.1,p1.2.2.2.1,(IntKind.i64.wrap (g4A .u64 (IntKind.u64.wrap (IntKind.i64.wrap (p1.2.2.2.1+p1.2.2.2.2.1))) 1)),()))
 else none
 else
 some (Sum.inr (p1.1,p1.2.1,p1.2.2.1,p1.2.2.2.1,()))
noncomputable def k5A (a0:List (Int×ByteArray×Int×List (Int×Yz1×Int×Int)×List (Int×Int×List Int))) (a1:Int):Option (Int×Bool):=
 (iter (g1C) (a0,a1,(a0.length:Int),0,(a0.length:Int),())).bind fun j3 =>
 bif (decide (j3.2.2.2.1<j3.2.2.1)) then
 bif (a7A j3.2.2.2.1 j3.1.length) then
 (u9B (j3.1.getD j3.2.2.2.1.toNat (0,(ByteArray.empty,(0,([],[]))))) j3.2.1).bind fun y4 =>
 some (j3.2.2.2.1,(y4==0))
 else none
 else
 some (j3.2.2.2.1,false)
noncomputable def o6B (a0:Int×Int×Int×Int×Int×Int×Int×Int×List (Int×Int)×List Int) (a1:Int):Option (Int):=
 (e6B a0.1 a1).bind fun y1 =>
 some y1
noncomputable def g2C (p1:(List Yz2)×Int×Int×Int×Int×Unit):Option (((List Yz2)×Int×Int×Int×Int×Unit)⊕(((List Yz2)×Int×Int×Int×Unit))):=
 bif (decide (p1.2.2.2.1<p1.2.2.2.2.1)) then
 bif (a7A (IntKind.i64.wrap (g4A .u64 (IntKind.u64.wrap (IntKind.i64.wrap (p1.2.2.2.1+p1.2.2.2.2.1))) 1)) p1.1.length) then
 (o6B (p1.1.getD ((IntKind.i64.wrap (g4A .u64 (IntKind.u64.wrap (IntKind.i64.wrap (p1.2.2.2.1+p1.2.2.2.2.1))) 1)).toNat) (0,(0,(0,(0,(0,(0,(0,(0,([],[])))))))))) p1.2.1).bind fun y2 =>
 bif (decide (y2<0)) then
 some (Sum.inl (p1.1,p1.2.1,p1.2.2.1,(IntKind.i64.wrap ((IntKind.i64.wrap (g4A .u64 (IntKind.u64.wrap (IntKind.i64.wrap (p1.2.2.2.1+p1.2.2.2.2.1))) 1))+1)),p1.2.2.2.2.1,()))
 else
 some (Sum.inl (p1.1,p1.2.1,p1.2.2.1,p1.2.2.2.1,(IntKind.i64.wrap (g4A .u64 (IntKind.u64.wrap (IntKind.i64.wrap (p1.2.2.2.1+p1.2.2.2.2.1))) 1)),()))
 else none
 else
 some (Sum.inr (p1.1,p1.2.1,p1.2.2.1,p1.2.2.2.1,()))
noncomputable def k6A (a0:List Yz2) (a1:Int):Option (Int×Bool):=
 (iter (g2C) (a0,a1,(a0.length:Int),0,(a0.length:Int),())).bind fun j3 =>
 bif (decide (j3.2.2.2.1<j3.2.2.1)) then
 bif (a7A j3.2.2.2.1 j3.1.length) then
 (o6B (j3.1.getD j3.2.2.2.1.toNat (0,(0,(0,(0,(0,(0,(0,(0,([],[])))))))))) j3.2.1).bind fun y4 =>
 some (j3.2.2.2.1,(y4==0))
 else none
 else
 some (j3.2.2.2.1,false)
noncomputable def e4C (a0:List (Int×ByteArray×Int×List (Int×Yz1×Int×Int)×List (Int×Int×List Int))) (a1:Int) (a2:List (Int×ByteArray×Int×List (Int×Yz1×Int×Int)×List (Int×Int×List Int))):Option (List (Int×ByteArray×Int×List (Int×Yz1×Int×Int)×List (Int×Int×List Int))):=
 s4A 80 a0 a1 a2
noncomputable def r6C (a0:List Yz2) (a1:Int) (a2:List Yz2):Option (List Yz2):=
 s4A 112 a0 a1 a2
noncomputable def v8A (p:Yz0×Yz1×List Yz1×Int):Option ((Yz0×Yz1×List Yz1×Int)×Bool):=
 (k5A p.1.2.2 p.2.1.2.2.1).bind fun y1 =>
 (k6A p.1.2.1 p.2.1.2.1).bind fun y2 =>
 (bif (!y1.2) then
 bif (!(p.2.1.1==1)) then
 some (y1.1,y1.2,y2.1,y2.2,true,p,())
 else
 bif (decide ((p.1.2.2.length:Int)≥16)) then
 some (y1.1,y1.2,y2.1,y2.2,true,p,())
 else
 bif (!y2.2) then
 bif (!(p.2.1.1==1)) then
 some (y1.1,y1.2,y2.1,y2.2,true,p,())
 else
 some (y1.1,y1.2,y2.1,y2.2,(decide ((p.1.2.1.length:Int)≥4)),p,())
 else
 some (y1.1,y1.2,y2.1,y2.2,false,p,())
 else
 bif (!y2.2) then
 bif (!(p.2.1.1==1)) then
 some (y1.1,y1.2,y2.1,y2.2,true,p,())
 else
 some (y1.1,y1.2,y2.1,y2.2,(decide ((p.1.2.1.length:Int)≥4)),p,())
 else
 some (y1.1,y1.2,y2.1,y2.2,false,p,()):Option ((Int×Bool×Int×Bool×Bool×(Yz0×Yz1×List Yz1×Int)×Unit))).bind fun j3 =>
 bif j3.2.2.2.2.1 then
 some (j3.2.2.2.2.2.1,false)
 else
 (bif (!j3.2.1) then
 (e3C).bind fun y4 =>
 (e4C j3.2.2.2.2.2.1.1.2.2 j3.1 [(j3.2.2.2.2.2.1.2.1.2.2.1,(j3.2.2.2.2.2.1.2.1.2.2.2.2.2.2.2.2.1,y4))]).bind fun y5 =>
 some (j3.2.2.1,j3.2.2.2.1,((j3.2.2.2.2.2.1.1.1,(j3.2.2.2.2.2.1.1.2.1,y5)),j3.2.2.2.2.2.1.2),())
 else
 some (j3.2.2.1,j3.2.2.2.1,j3.2.2.2.2.2.1,()):Option ((Int×Bool×(Yz0×Yz1×List Yz1×Int)×Unit))).bind fun j6 =>
 (bif (!j6.2.1) then
 (r5C).bind fun y7 =>
 (r6C j6.2.2.1.1.2.1 j6.1 [(j6.2.2.1.2.1.2.1,(y7.1,(y7.2.1,(y7.2.2.1,(y7.2.2.2.1,(y7.2.2.2.2.1,(y7.2.2.2.2.2.1,(j6.2.2.1.1.1,y7.2.2.2.2.2.2.2))))))))]).bind fun y8 =>
 some (((j6.2.2.1.1.1,(y8,j6.2.2.1.1.2.2)),j6.2.2.1.2),())
 else
 some (j6.2.2.1,()):Option (((Yz0×Yz1×List Yz1×Int)×Unit))).bind fun j9 =>
 some (j9.1,true)
noncomputable def p4A (p:Yz0×Yz1×List Yz1×Int):Option ((Yz0×Yz1×List Yz1×Int)×Bool):=
 (k5A p.1.2.2 p.2.1.2.2.1).bind fun y1 =>
 (k6A p.1.2.1 p.2.1.2.1).bind fun y2 =>
 bif (a7A y1.1 p.1.2.2.length) then
 (p0B ((((p.1.2.2.getD y1.1.toNat (0,(ByteArray.empty,(0,([],[])))))).2).2) p.2.1.2.2.1 p.2.1.2.2.2.2.1).bind fun y3 =>
 (bif (y3.2.2==0) then
 bif (a7A y1.1 p.1.2.2.length) then
 some (y3.2.1,y3.2.2,((p.1.1,(p.1.2.1,(p.1.2.2.set y1.1.toNat (((p.1.2.2.getD y1.1.toNat (0,(ByteArray.empty,(0,([],[])))))).1,((((p.1.2.2.getD y1.1.toNat (0,(ByteArray.empty,(0,([],[])))))).2).1,y3.1))))),(p.2.1,(p.2.2.1,y3.2.2))),())
 else none
 else
 some (y3.2.1,y3.2.2,(p.1,(p.2.1,(p.2.2.1,y3.2.2))),()):Option ((Bool×Int×(Yz0×Yz1×List Yz1×Int)×Unit))).bind fun j4 =>
 bif j4.1 then
 some (j4.2.2.1,(j4.2.1==0))
 else
 some (j4.2.2.1,false)
 else none
noncomputable def j6B (p1:Int×List Int×Int×Int×(Yz0×Yz1×List Yz1×Int)×Yz2×Yz1×Unit):Option ((Int×List Int×Int×Int×(Yz0×Yz1×List Yz1×Int)×Yz2×Yz1×Unit)⊕(((Yz0×Yz1×List Yz1×Int)×Unit))):=
 bif (decide (p1.2.2.2.1<p1.2.2.1)) then
 (bif (a7A p1.2.2.2.1 p1.2.1.length) then
 bif ((p1.2.1.getD p1.2.2.2.1.toNat 0)==p1.1) then
 some (p1.1,p1.2.1,p1.2.2.1,p1.2.2.2.1,p1.2.2.2.2.1,p1.2.2.2.2.2.1,p1.2.2.2.2.2.2.1,())
 else
 (u8B p1.2.2.2.2.2.2.1.2.2.2.2.2.2.2.2.2).bind fun y2 =>
 bif (c6A 104 (p1.2.2.2.2.1.2.2.1++[(p1.2.2.2.2.2.2.1.1,(p1.2.2.2.2.2.1.1,(p1.2.2.2.2.2.2.1.2.2.1,((p1.2.1.getD p1.2.2.2.1.toNat 0),(p1.2.2.2.2.2.2.1.2.2.2.2.1,(p1.2.2.2.2.2.2.1.2.2.2.2.2.1,(p1.2.2.2.2.2.2.1.2.2.2.2.2.2.1,(p1.2.2.2.2.2.2.1.2.2.2.2.2.2.2.1,(p1.2.2.2.2.2.2.1.2.2.2.2.2.2.2.2.1,y2)))))))))]).length) then
 some (p1.1,p1.2.1,p1.2.2.1,p1.2.2.2.1,(p1.2.2.2.2.1.1,(p1.2.2.2.2.1.2.1,((p1.2.2.2.2.1.2.2.1++[(p1.2.2.2.2.2.2.1.1,(p1.2.2.2.2.2.1.1,(p1.2.2.2.2.2.2.1.2.2.1,((p1.2.1.getD p1.2.2.2.1.toNat 0),(p1.2.2.2.2.2.2.1.2.2.2.2.1,(p1.2.2.2.2.2.2.1.2.2.2.2.2.1,(p1.2.2.2.2.2.2.1.2.2.2.2.2.2.1,(p1.2.2.2.2.2.2.1.2.2.2.2.2.2.2.1,(p1.2.2.2.2.2.2.1.2.2.2.2.2.2.2.2.1,y2)))))))))]),p1.2.2.2.2.1.2.2.2))),p1.2.2.2.2.2.1,(p1.2.2.2.2.2.2.1.1,(p1.2.2.2.2.2.1.1,(p1.2.2.2.2.2.2.1.2.2.1,((p1.2.1.getD p1.2.2.2.1.toNat 0),(p1.2.2.2.2.2.2.1.2.2.2.2.1,(p1.2.2.2.2.2.2.1.2.2.2.2.2.1,(p1.2.2.2.2.2.2.1.2.2.2.2.2.2.1,(p1.2.2.2.2.2.2.1.2.2.2.2.2.2.2.1,(p1.2.2.2.2.2.2.1.2.2.2.2.2.2.2.2.1,y2))))))))),())
 else none
 else none:Option ((Int×List Int×Int×Int×(Yz0×Yz1×List Yz1×Int)×Yz2×Yz1×Unit))).bind fun j3 =>
 some (Sum.inl (j3.1,j3.2.1,j3.2.2.1,(IntKind.i64.wrap (j3.2.2.2.1+1)),j3.2.2.2.2.1,j3.2.2.2.2.2.1,j3.2.2.2.2.2.2.1,()))
 else
 some (Sum.inr (p1.2.2.2.2.1,()))
noncomputable def e7B (p:Yz0×Yz1×List Yz1×Int) (a0:Int×Int×Int×Int×Int×Int×Int×Int×List (Int×Int)×List Int) (a1:Int) (a2:Int×Int×Int×Int×Int×Int×Int×Int×ByteArray×List Int):Option ((Yz0×Yz1×List Yz1×Int)×Unit):=
 (iter (j6B) (a1,a0.2.2.2.2.2.2.2.2.2,(a0.2.2.2.2.2.2.2.2.2.length:Int),0,p,a0,a2,())).bind fun j4 =>
 some (j4.1,())
noncomputable def e9C (p:Yz0×Yz1×List Yz1×Int) (a0:Int×Int×Int×Int×Int×Int×Int×Int×List (Int×Int)×List Int) (a1:Int) (a2:Int×Int×Int×Int):Option ((Yz0×Yz1×List Yz1×Int)×Unit):=
 bif (a2.1==10) then
 (e7B p a0 0 (10,(0,(0,(0,(0,(a2.2.2.1,(0,(0,(ByteArray.empty,[])))))))))).bind fun y1 =>
 some (y1.1,())
 else
 ((k5A p.1.2.2 a2.2.1).bind fun y2 =>
 bif y2.2 then
 bif (a7A y2.1 p.1.2.2.length) then
 (bif (a2.1==5) then
 some (a1,(((p.1.2.2.getD y2.1.toNat (0,(ByteArray.empty,(0,([],[])))))).2).1,y2.1,p,a0,a2,(a2.1,(a0.1,(0,(a2.2.1,(0,(a2.2.2.1,(a0.2.2.2.2.2.2.1,(0,((((p.1.2.2.getD y2.1.toNat (0,(ByteArray.empty,(0,([],[])))))).2).1,[]))))))))),())
 else
 some (a1,(((p.1.2.2.getD y2.1.toNat (0,(ByteArray.empty,(0,([],[])))))).2).1,y2.1,p,a0,a2,(a2.1,(a0.1,(0,(a2.2.1,(0,(a2.2.2.1,(a2.2.2.2,(0,(ByteArray.empty,[]))))))))),()):Option ((Int×ByteArray×Int×(Yz0×Yz1×List Yz1×Int)×Yz2×(Int×Int×Int×Int)×Yz1×Unit))).bind fun j3 =>
 bif (a7A j3.2.2.1 j3.2.2.2.1.1.2.2.length) then
 (e8C ((((j3.2.2.2.1.1.2.2.getD j3.2.2.1.toNat (0,(ByteArray.empty,(0,([],[])))))).2).2) j3.2.2.2.2.2.2.1 j3.2.2.2.1.1.1).bind fun y4 =>
 bif (y4.2.2==0) then
 bif (a7A j3.2.2.1 j3.2.2.2.1.1.2.2.length) then
 bif (c6A 104 (j3.2.2.2.1.2.2.1++[y4.2.1]).length) then
 some (j3.1,j3.2.1,((j3.2.2.2.1.1.1,(j3.2.2.2.1.1.2.1,(j3.2.2.2.1.1.2.2.set j3.2.2.1.toNat (((j3.2.2.2.1.1.2.2.getD j3.2.2.1.toNat (0,(ByteArray.empty,(0,([],[])))))).1,((((j3.2.2.2.1.1.2.2.getD j3.2.2.1.toNat (0,(ByteArray.empty,(0,([],[])))))).2).1,y4.1))))),(j3.2.2.2.1.2.1,((j3.2.2.2.1.2.2.1++[y4.2.1]),j3.2.2.2.1.2.2.2))),j3.2.2.2.2.1,j3.2.2.2.2.2.1,())
 else none
 else none
 else
 some (j3.1,j3.2.1,j3.2.2.2.1,j3.2.2.2.2.1,j3.2.2.2.2.2.1,())
 else none
 else none
 else
 some (a1,(ByteArray.mk #[]),p,a0,a2,()):Option ((Int×ByteArray×(Yz0×Yz1×List Yz1×Int)×Yz2×(Int×Int×Int×Int)×Unit))).bind fun j5 =>
 (bif (j5.2.2.2.2.1.1==5) then
 some (j5.2.1,(decide (j5.2.2.2.2.1.2.2.1>j5.1)),j5.2.2.1,j5.2.2.2.1,j5.2.2.2.2.1,())
 else
 some (j5.2.1,false,j5.2.2.1,j5.2.2.2.1,j5.2.2.2.2.1,()):Option ((ByteArray×Bool×(Yz0×Yz1×List Yz1×Int)×Yz2×(Int×Int×Int×Int)×Unit))).bind fun j6 =>
 bif j6.2.1 then
 (e7B j6.2.2.1 j6.2.2.2.1 j6.2.2.2.2.1.2.1 (9,(0,(0,(0,(0,(j6.2.2.2.2.1.2.2.1,(j6.2.2.2.2.1.2.1,(0,(j6.1,[])))))))))).bind fun y7 =>
 some (y7.1,())
 else
 some (j6.2.2.1,())
noncomputable def w5B (p2:Int×Int×(List (Int×Int×Int×Int))×Int×Int×(Yz0×Yz1×List Yz1×Int)×Unit):Option ((Int×Int×(List (Int×Int×Int×Int))×Int×Int×(Yz0×Yz1×List Yz1×Int)×Unit)⊕(((Yz0×Yz1×List Yz1×Int)×Unit))):=
 bif (decide (p2.2.2.2.2.1<p2.2.2.2.1)) then
 bif (a7A p2.2.2.2.2.1 p2.2.2.1.length) then
 bif (a7A p2.1 p2.2.2.2.2.2.1.1.2.1.length) then
 (e9C p2.2.2.2.2.2.1 (p2.2.2.2.2.2.1.1.2.1.getD p2.1.toNat (0,(0,(0,(0,(0,(0,(0,(0,([],[])))))))))) p2.2.1 (p2.2.2.1.getD p2.2.2.2.2.1.toNat (0,(0,(0,0))))).bind fun y3 =>
 some (Sum.inl (p2.1,p2.2.1,p2.2.2.1,p2.2.2.2.1,(IntKind.i64.wrap (p2.2.2.2.2.1+1)),y3.1,()))
 else none
 else none
 else
 some (Sum.inr (p2.2.2.2.2.2.1,()))
noncomputable def t5A (p:Yz0×Yz1×List Yz1×Int) (a0:Int) (a1:Int×Int×Int×Int×Int):Option ((Yz0×Yz1×List Yz1×Int)×Unit):=
 bif (a7A a0 p.1.2.1.length) then
 bif (a7A a0 p.1.2.1.length) then
 (n3A (((p.1.2.1.getD a0.toNat (0,(0,(0,(0,(0,(0,(0,(0,([],[]))))))))))).2) a1).bind fun y1 =>
 bif (y1.2.2 != 0) then
 some ((p.1,(p.2.1,(p.2.2.1,y1.2.2))),())
 else
 bif (a7A a0 p.1.2.1.length) then
 (iter (w5B) (a0,((((p.1.2.1.getD a0.toNat (0,(0,(0,(0,(0,(0,(0,(0,([],[]))))))))))).2).2).1,y1.2.1,(y1.2.1.length:Int),0,((p.1.1,((p.1.2.1.set a0.toNat (((p.1.2.1.getD a0.toNat (0,(0,(0,(0,(0,(0,(0,(0,([],[]))))))))))).1,y1.1)),p.1.2.2)),(p.2.1,(p.2.2.1,y1.2.2))),())).bind fun j4 =>
 some (j4.1,())
 else none
 else none
 else none
noncomputable def i8B (a0:Int×Int×Int×Int×Int×Int×Int×List (Int×Int)×List Int) (a1:Int) (a2:Int):Option (Bool):=
 bif (a0.1 != 0) then
 bif (a0.2.2.1==a1) then
 bif (a0.2.1==a2) then
 (v5A a0).bind fun y1 =>
 some (y1==0)
 else
 some false
 else
 some false
 else
 some false
noncomputable def v9A (p:Yz0×Yz1×List Yz1×Int):Option ((Yz0×Yz1×List Yz1×Int)×Unit):=
 (k5A p.1.2.2 p.2.1.2.2.1).bind fun y1 =>
 (k6A p.1.2.1 p.2.1.2.1).bind fun y2 =>
 bif (a7A y2.1 p.1.2.1.length) then
 ((bif (((((p.1.2.1.getD y2.1.toNat (0,(0,(0,(0,(0,(0,(0,(0,([],[]))))))))))).2).1)==1) then
 (i8B (((p.1.2.1.getD y2.1.toNat (0,(0,(0,(0,(0,(0,(0,(0,([],[]))))))))))).2) p.2.1.2.2.1 p.2.1.2.2.2.2.2.1).bind fun y3 =>
 some (y3,p,(((p.1.2.1.getD y2.1.toNat (0,(0,(0,(0,(0,(0,(0,(0,([],[]))))))))))).2),(11,(p.2.1.2.1,(0,(p.2.1.2.2.1,(p.2.1.2.2.2.2.1,(p.2.1.2.2.2.2.2.1,(0,(0,(ByteArray.empty,[]))))))))),())
 else
 some (false,p,(((p.1.2.1.getD y2.1.toNat (0,(0,(0,(0,(0,(0,(0,(0,([],[]))))))))))).2),(11,(p.2.1.2.1,(0,(p.2.1.2.2.1,(p.2.1.2.2.2.2.1,(p.2.1.2.2.2.2.2.1,(0,(0,(ByteArray.empty,[]))))))))),()):Option ((Bool×(Yz0×Yz1×List Yz1×Int)×Yz3×Yz1×Unit))).bind fun j4 =>
 bif j4.1 then
 some (j4.2.1,(j4.2.2.2.1.1,(j4.2.2.2.1.2.1,(j4.2.2.2.1.2.2.1,(j4.2.2.2.1.2.2.2.1,(j4.2.2.2.1.2.2.2.2.1,(j4.2.2.2.1.2.2.2.2.2.1,(j4.2.2.1.2.2.2.2.2.1,j4.2.2.2.1.2.2.2.2.2.2.2))))))),())
 else
 some (j4.2.1,j4.2.2.2.1,()):Option (((Yz0×Yz1×List Yz1×Int)×Yz1×Unit))).bind fun j5 =>
 bif (c6A 104 (j5.1.2.2.1++[j5.2.1]).length) then
 some ((j5.1.1,(j5.1.2.1,((j5.1.2.2.1++[j5.2.1]),j5.1.2.2.2))),())
 else none
 else none
noncomputable def f1B (p6:Yz0×Int×Int×(Yz0×Yz1×List Yz1×Int)×Unit):Option ((Yz0×Int×Int×(Yz0×Yz1×List Yz1×Int)×Unit)⊕((Yz0×(Yz0×Yz1×List Yz1×Int)×Unit))):=
 bif (decide (p6.2.2.1<p6.2.1)) then
 bif (a7A p6.2.2.1 p6.2.2.2.1.1.2.1.length) then
 (u5B (((((((((((p6.2.2.2.1.1.2.1.getD p6.2.2.1.toNat (0,(0,(0,(0,(0,(0,(0,(0,([],[]))))))))))).2).2).2).2).2).2).2).2).1)).bind fun y7 =>
 bif (a7A p6.2.2.1 p6.2.2.2.1.1.2.1.length) then
 bif (a7A p6.2.2.1 ((p6.2.2.2.1.1.2.1.set p6.2.2.1.toNat (((p6.2.2.2.1.1.2.1.getD p6.2.2.1.toNat (0,(0,(0,(0,(0,(0,(0,(0,([],[]))))))))))).1,((((p6.2.2.2.1.1.2.1.getD p6.2.2.1.toNat (0,(0,(0,(0,(0,(0,(0,(0,([],[]))))))))))).2).1,(((((p6.2.2.2.1.1.2.1.getD p6.2.2.1.toNat (0,(0,(0,(0,(0,(0,(0,(0,([],[]))))))))))).2).2).1,((((((p6.2.2.2.1.1.2.1.getD p6.2.2.1.toNat (0,(0,(0,(0,(0,(0,(0,(0,([],[]))))))))))).2).2).2).1,(((((((p6.2.2.2.1.1.2.1.getD p6.2.2.1.toNat (0,(0,(0,(0,(0,(0,(0,(0,([],[]))))))))))).2).2).2).2).1,((((((((p6.2.2.2.1.1.2.1.getD p6.2.2.1.toNat (0,(0,(0,(0,(0,(0,(0,(0,([],[]))))))))))).2).2).2).2).2).1,(((((((((p6.2.2.2.1.1.2.1.getD p6.2.2.1.toNat (0,(0,(0,(0,(0,(0,(0,(0,([],[]))))))))))).2).2).2).2).2).2).1,((((((((((p6.2.2.2.1.1.2.1.getD p6.2.2.1.toNat (0,(0,(0,(0,(0,(0,(0,(0,([],[]))))))))))).2).2).2).2).2).2).2).1,(y7,((((((((((p6.2.2.2.1.1.2.1.getD p6.2.2.1.toNat (0,(0,(0,(0,(0,(0,(0,(0,([],[]))))))))))).2).2).2).2).2).2).2).2).2)))))))))).length)) then
 (s2A ((((((((((((p6.2.2.2.1.1.2.1.set p6.2.2.1.toNat (((p6.2.2.2.1.1.2.1.getD p6.2.2.1.toNat (0,(0,(0,(0,(0,(0,(0,(0,([],[]))))))))))).1,((((p6.2.2.2.1.1.2.1.getD p6.2.2.1.toNat (0,(0,(0,(0,(0,(0,(0,(0,([],[]))))))))))).2).1,(((((p6.2.2.2.1.1.2.1.getD p6.2.2.1.toNat (0,(0,(0,(0,(0,(0,(0,(0,([],[]))))))))))).2).2).1,((((((p6.2.2.2.1.1.2.1.getD p6.2.2.1.toNat (0,(0,(0,(0,(0,(0,(0,(0,([],[]))))))))))).2).2).2).1,(((((((p6.2.2.2.1.1.2.1.getD p6.2.2.1.toNat (0,(0,(0,(0,(0,(0,(0,(0,([],[]))))))))))).2).2).2).2).1,((((((((p6.2.2.2.1.1.2.1.getD p6.2.2.1.toNat (0,(0,(0,(0,(0,(0,(0,(0,([],[]))))))))))).2).2).2).2).2).1,(((((((((p6.2.2.2.1.1.2.1.getD p6.2.2.1.toNat (0,(0,(0,(0,(0,(0,(0,(0,([],[]))))))))))).2).2).2).2).2).2).1,((((((((((p6.2.2.2.1.1.2.1.getD p6.2.2.1.toNat (0,(0,(0,(0,(0,(0,(0,(0,([],[]))))))))))).2).2).2).2).2).2).2).1,(y7,((((((((((p6.2.2.2.1.1.2.1.getD p6.2.2.1.toNat (0,(0,(0,(0,(0,(0,(0,(0,([],[]))))))))))).2).2).2).2).2).2).2).2).2)))))))))).getD p6.2.2.1.toNat (0,(0,(0,(0,(0,(0,(0,(0,([],[]))))))))))).2).2).2).2).2).2).2).2).2)).bind fun y8 =>
 bif (a7A p6.2.2.1 ((p6.2.2.2.1.1.2.1.set p6.2.2.1.toNat (((p6.2.2.2.1.1.2.1.getD p6.2.2.1.toNat (0,(0,(0,(0,(0,(0,(0,(0,([],[]))))))))))).1,((((p6.2.2.2.1.1.2.1.getD p6.2.2.1.toNat (0,(0,(0,(0,(0,(0,(0,(0,([],[]))))))))))).2).1,(((((p6.2.2.2.1.1.2.1.getD p6.2.2.1.toNat (0,(0,(0,(0,(0,(0,(0,(0,([],[]))))))))))).2).2).1,((((((p6.2.2.2.1.1.2.1.getD p6.2.2.1.toNat (0,(0,(0,(0,(0,(0,(0,(0,([],[]))))))))))).2).2).2).1,(((((((p6.2.2.2.1.1.2.1.getD p6.2.2.1.toNat (0,(0,(0,(0,(0,(0,(0,(0,([],[]))))))))))).2).2).2).2).1,((((((((p6.2.2.2.1.1.2.1.getD p6.2.2.1.toNat (0,(0,(0,(0,(0,(0,(0,(0,([],[]))))))))))).2).2).2).2).2).1,(((((((((p6.2.2.2.1.1.2.1.getD p6.2.2.1.toNat (0,(0,(0,(0,(0,(0,(0,(0,([],[]))))))))))).2).2).2).2).2).2).1,((((((((((p6.2.2.2.1.1.2.1.getD p6.2.2.1.toNat (0,(0,(0,(0,(0,(0,(0,(0,([],[]))))))))))).2).2).2).2).2).2).2).1,(y7,((((((((((p6.2.2.2.1.1.2.1.getD p6.2.2.1.toNat (0,(0,(0,(0,(0,(0,(0,(0,([],[]))))))))))).2).2).2).2).2).2).2).2).2)))))))))).length)) then
 some (Sum.inl (p6.1,p6.2.1,(IntKind.i64.wrap (p6.2.2.1+1)),((p6.2.2.2.1.1.1,(((p6.2.2.2.1.1.2.1.set p6.2.2.1.toNat (((p6.2.2.2.1.1.2.1.getD p6.2.2.1.toNat (0,(0,(0,(0,(0,(0,(0,(0,([],[]))))))))))).1,((((p6.2.2.2.1.1.2.1.getD p6.2.2.1.toNat (0,(0,(0,(0,(0,(0,(0,(0,([],[]))))))))))).2).1,(((((p6.2.2.2.1.1.2.1.getD p6.2.2.1.toNat (0,(0,(0,(0,(0,(0,(0,(0,([],[]))))))))))).2).2).1,((((((p6.2.2.2.1.1.2.1.getD p6.2.2.1.toNat (0,(0,(0,(0,(0,(0,(0,(0,([],[]))))))))))).2).2).2).1,(((((((p6.2.2.2.1.1.2.1.getD p6.2.2.1.toNat (0,(0,(0,(0,(0,(0,(0,(0,([],[]))))))))))).2).2).2).2).1,((((((((p6.2.2.2.1.1.2.1.getD p6.2.2.1.toNat (0,(0,(0,(0,(0,(0,(0,(0,([],[]))))))))))).2).2).2).2).2).1,(((((((((p6.2.2.2.1.1.2.1.getD p6.2.2.1.toNat (0,(0,(0,(0,(0,(0,(0,(0,([],[]))))))))))).2).2).2).2).2).2).1,((((((((((p6.2.2.2.1.1.2.1.getD p6.2.2.1.toNat (0,(0,(0,(0,(0,(0,(0,(0,([],[]))))))))))).2).2).2).2).2).2).2).1,(y7,((((((((((p6.2.2.2.1.1.2.1.getD p6.2.2.1.toNat (0,(0,(0,(0,(0,(0,(0,(0,([],[]))))))))))).2).2).2).2).2).2).2).2).2)))))))))).set p6.2.2.1.toNat ((((p6.2.2.2.1.1.2.1.set p6.2.2.1.toNat (((p6.2.2.2.1.1.2.1.getD p6.2.2.1.toNat (0,(0,(0,(0,(0,(0,(0,(0,([],[]))))))))))).1,((((p6.2.2.2.1.1.2.1.getD p6.2.2.1.toNat (0,(0,(0,(0,(0,(0,(0,(0,([],[]))))))))))).2).1,(((((p6.2.2.2.1.1.2.1.getD p6.2.2.1.toNat (0,(0,(0,(0,(0,(0,(0,(0,([],[]))))))))))).2).2).1,((((((p6.2.2.2.1.1.2.1.getD p6.2.2.1.toNat (0,(0,(0,(0,(0,(0,(0,(0,([],[]))))))))))).2).2).2).1,(((((((p6.2.2.2.1.1.2.1.getD p6.2.2.1.toNat (0,(0,(0,(0,(0,(0,(0,(0,([],[]))))))))))).2).2).2).2).1,((((((((p6.2.2.2.1.1.2.1.getD p6.2.2.1.toNat (0,(0,(0,(0,(0,(0,(0,(0,([],[]))))))))))).2).2).2).2).2).1,(((((((((p6.2.2.2.1.1.2.1.getD p6.2.2.1.toNat (0,(0,(0,(0,(0,(0,(0,(0,([],[]))))))))))).2).2).2).2).2).2).1,((((((((((p6.2.2.2.1.1.2.1.getD p6.2.2.1.toNat (0,(0,(0,(0,(0,(0,(0,(0,([],[]))))))))))).2).2).2).2).2).2).2).1,(y7,((((((((((p6.2.2.2.1.1.2.1.getD p6.2.2.1.toNat (0,(0,(0,(0,(0,(0,(0,(0,([],[]))))))))))).2).2).2).2).2).2).2).2).2)))))))))).getD p6.2.2.1.toNat (0,(0,(0,(0,(0,(0,(0,(0,([],[]))))))))))).1,(((((p6.2.2.2.1.1.2.1.set p6.2.2.1.toNat (((p6.2.2.2.1.1.2.1.getD p6.2.2.1.toNat (0,(0,(0,(0,(0,(0,(0,(0,([],[]))))))))))).1,((((p6.2.2.2.1.1.2.1.getD p6.2.2.1.toNat (0,(0,(0,(0,(0,(0,(0,(0,([],[]))))))))))).2).1,(((((p6.2.2.2.1.1.2.1.getD p6.2.2.1.toNat (0,(0,(0,(0,(0,(0,(0,(0,([],[]))))))))))).2).2).1,((((((p6.2.2.2.1.1.2.1.getD p6.2.2.1.toNat (0,(0,(0,(0,(0,(0,(0,(0,([],[]))))))))))).2).2).2).1,(((((((p6.2.2.2.1.1.2.1.getD p6.2.2.1.toNat (0,(0,(0,(0,(0,(0,(0,(0,([],[]))))))))))).2).2).2).2).1,((((((((p6.2.2.2.1.1.2.1.getD p6.2.2.1.toNat (0,(0,(0,(0,(0,(0,(0,(0,([],[]))))))))))).2).2).2).2).2).1,(((((((((p6.2.2.2.1.1.2.1.getD p6.2.2.1.toNat (0,(0,(0,(0,(0,(0,(0,(0,([],[]))))))))))).2).2).2).2).2).2).1,((((((((((p6.2.2.2.1.1.2.1.getD p6.2.2.1.toNat (0,(0,(0,(0,(0,(0,(0,(0,([],[]))))))))))).2).2).2).2).2).2).2).1,(y7,((((((((((p6.2.2.2.1.1.2.1.getD p6.2.2.1.toNat (0,(0,(0,(0,(0,(0,(0,(0,([],[]))))))))))).2).2).2).2).2).2).2).2).2)))))))))).getD p6.2.2.1.toNat (0,(0,(0,(0,(0,(0,(0,(0,([],[]))))))))))).2).1,((((((p6.2.2.2.1.1.2.1.set p6.2.2.1.toNat (((p6.2.2.2.1.1.2.1.getD p6.2.2.1.toNat (0,(0,(0,(0,(0,(0,(0,(0,([],[]))))))))))).1,((((p6.2.2.2.1.1.2.1.getD p6.2.2.1.toNat (0,(0,(0,(0,(0,(0,(0,(0,([],[]))))))))))).2).1,(((((p6.2.2.2.1.1.2.1.getD p6.2.2.1.toNat (0,(0,(0,(0,(0,(0,(0,(0,([],[]))))))))))).2).2).1,((((((p6.2.2.2.1.1.2.1.getD p6.2.2.1.toNat (0,(0,(0,(0,(0,(0,(0,(0,([],[]))))))))))).2).2).2).1,(((((((p6.2.2.2.1.1.2.1.getD p6.2.2.1.toNat (0,(0,(0,(0,(0,(0,(0,(0,([],[]))))))))))).2).2).2).2).1,((((((((p6.2.2.2.1.1.2.1.getD p6.2.2.1.toNat (0,(0,(0,(0,(0,(0,(0,(0,([],[]))))))))))).2).2).2).2).2).1,(((((((((p6.2.2.2.1.1.2.1.getD p6.2.2.1.toNat (0,(0,(0,(0,(0,(0,(0,(0,([],[]))))))))))).2).2).2).2).2).2).1,((((((((((p6.2.2.2.1.1.2.1.getD p6.2.2.1.toNat (0,(0,(0,(0,(0,(0,(0,(0,([],[]))))))))))).2).2).2).2).2).2).2).1,(y7,((((((((((p6.2.2.2.1.1.2.1.getD p6.2.2.1.toNat (0,(0,(0,(0,(0,(0,(0,(0,([],[]))))))))))).2).2).2).2).2).2).2).2).2)))))))))).getD p6.2.2.1.toNat (0,(0,(0,(0,(0,(0,(0,(0,([],[]))))))))))).2).2).1,(((((((p6.2.2.2.1.1.2.1.set p6.2.2.1.toNat (((p6.2.2.2.1.1.2.1.getD p6.2.2.1.toNat (0,(0,(0,(0,(0,(0,(0,(0,([],[]))))))))))).1,((((p6.2.2.2.1.1.2.1.getD p6.2.2.1.toNat (0,(0,(0,(0,(0,(0,(0,(0,([],[]))))))))))).2).1,(((((p6.2.2.2.1.1.2.1.getD p6.2.2.1.toNat (0,(0,(0,(0,(0,(0,(0,(0,([],[]))))))))))).2).2).1,((((((p6.2.2.2.1.1.2.1.getD p6.2.2.1.toNat (0,(0,(0,(0,(0,(0,(0,(0,([],[]))))))))))).2).2).2).1,(((((((p6.2.2.2.1.1.2.1.getD p6.2.2.1.toNat (0,(0,(0,(0,(0,(0,(0,(0,([],[]))))))))))).2).2).2).2).1,((((((((p6.2.2.2.1.1.2.1.getD p6.2.2.1.toNat (0,(0,(0,(0,(0,(0,(0,(0,([],[]))))))))))).2).2).2).2).2).1,(((((((((p6.2.2.2.1.1.2.1.getD p6.2.2.1.toNat (0,(0,(0,(0,(0,(0,(0,(0,([],[]))))))))))).2).2).2).2).2).2).1,((((((((((p6.2.2.2.1.1.2.1.getD p6.2.2.1.toNat (0,(0,(0,(0,(0,(0,(0,(0,([],[]))))))))))).2).2).2).2).2).2).2).1,(y7,((((((((((p6.2.2.2.1.1.2.1.getD p6.2.2.1.toNat (0,(0,(0,(0,(0,(0,(0,(0,([],[]))))))))))).2).2).2).2).2).2).2).2).2)))))))))).getD p6.2.2.1.toNat (0,(0,(0,(0,(0,(0,(0,(0,([],[]))))))))))).2).2).2).1,((((((((p6.2.2.2.1.1.2.1.set p6.2.2.1.toNat (((p6.2.2.2.1.1.2.1.getD p6.2.2.1.toNat (0,(0,(0,(0,(0,(0,(0,(0,([],[]))))))))))).1,((((p6.2.2.2.1.1.2.1.getD p6.2.2.1.toNat (0,(0,(0,(0,(0,(0,(0,(0,([],[]))))))))))).2).1,(((((p6.2.2.2.1.1.2.1.getD p6.2.2.1.toNat (0,(0,(0,(0,(0,(0,(0,(0,([],[]))))))))))).2).2).1,((((((p6.2.2.2.1.1.2.1.getD p6.2.2.1.toNat (0,(0,(0,(0,(0,(0,(0,(0,([],[]))))))))))).2).2).2).1,(((((((p6.2.2.2.1.1.2.1.getD p6.2.2.1.toNat (0,(0,(0,(0,(0,(0,(0,(0,([],[]))))))))))).2).2).2).2).1,((((((((p6.2.2.2.1.1.2.1.getD p6.2.2.1.toNat (0,(0,(0,(0,(0,(0,(0,(0,([],[]))))))))))).2).2).2).2).2).1,(((((((((p6.2.2.2.1.1.2.1.getD p6.2.2.1.toNat (0,(0,(0,(0,(0,(0,(0,(0,([],[]))))))))))).2).2).2).2).2).2).1,((((((((((p6.2.2.2.1.1.2.1.getD p6.2.2.1.toNat (0,(0,(0,(0,(0,(0,(0,(0,([],[]))))))))))).2).2).2).2).2).2).2).1,(y7,((((((((((p6.2.2.2.1.1.2.1.getD p6.2.2.1.toNat (0,(0,(0,(0,(0,(0,(0,(0,([],[]))))))))))).2).2).2).2).2).2).2).2).2)))))))))).getD p6.2.2.1.toNat (0,(0,(0,(0,(0,(0,(0,(0,([],[]))))))))))).2).2).2).2).1,(((((((((p6.2.2.2.1.1.2.1.set p6.2.2.1.toNat (((p6.2.2.2.1.1.2.1.getD p6.2.2.1.toNat (0,(0,(0,(0,(0,(0,(0,(0,([],[]))))))))))).1,((((p6.2.2.2.1.1.2.1.getD p6.2.2.1.toNat (0,(0,(0,(0,(0,(0,(0,(0,([],[]))))))))))).2).1,(((((p6.2.2.2.1.1.2.1.getD p6.2.2.1.toNat (0,(0,(0,(0,(0,(0,(0,(0,([],[]))))))))))).2).2).1,((((((p6.2.2.2.1.1.2.1.getD p6.2.2.1.toNat (0,(0,(0,(0,(0,(0,(0,(0,([],[]))))))))))).2).2).2).1,(((((((p6.2.2.2.1.1.2.1.getD p6.2.2.1.toNat (0,(0,(0,(0,(0,(0,(0,(0,([],[]))))))))))).2).2).2).2).1,((((((((p6.2.2.2.1.1.2.1.getD p6.2.2.1.toNat (0,(0,(0,(0,(0,(0,(0,(0,([],[]))))))))))).2).2).2).2).2).1,(((((((((p6.2.2.2.1.1.2.1.getD p6.2.2.1.toNat (0,(0,(0,(0,(0,(0,(0,(0,([],[]))))))))))).2).2).2).2).2).2).1,((((((((((p6.2.2.2.1.1.2.1.getD p6.2.2.1.toNat (0,(0,(0,(0,(0,(0,(0,(0,([],[]))))))))))).2).2).2).2).2).2).2).1,(y7,((((((((((p6.2.2.2.1.1.2.1.getD p6.2.2.1.toNat (0,(0,(0,(0,(0,(0,(0,(0,([],[]))))))))))).2).2).2).2).2).2).2).2).2)))))))))).getD p6.2.2.1.toNat (0,(0,(0,(0,(0,(0,(0,(0,([],[]))))))))))).2).2).2).2).2).1,((((((((((p6.2.2.2.1.1.2.1.set p6.2.2.1.toNat (((p6.2.2.2.1.1.2.1.getD p6.2.2.1.toNat (0,(0,(0,(0,(0,(0,(0,(0,([],[]))))))))))).1,((((p6.2.2.2.1.1.2.1.getD p6.2.2.1.toNat (0,(0,(0,(0,(0,(0,(0,(0,([],[]))))))))))).2).1,(((((p6.2.2.2.1.1.2.1.getD p6.2.2.1.toNat (0,(0,(0,(0,(0,(0,(0,(0,([],[]))))))))))).2).2).1,((((((p6.2.2.2.1.1.2.1.getD p6.2.2.1.toNat (0,(0,(0,(0,(0,(0,(0,(0,([],[]))))))))))).2).2).2).1,(((((((p6.2.2.2.1.1.2.1.getD p6.2.2.1.toNat (0,(0,(0,(0,(0,(0,(0,(0,([],[]))))))))))).2).2).2).2).1,((((((((p6.2.2.2.1.1.2.1.getD p6.2.2.1.toNat (0,(0,(0,(0,(0,(0,(0,(0,([],[]))))))))))).2).2).2).2).2).1,(((((((((p6.2.2.2.1.1.2.1.getD p6.2.2.1.toNat (0,(0,(0,(0,(0,(0,(0,(0,([],[]))))))))))).2).2).2).2).2).2).1,((((((((((p6.2.2.2.1.1.2.1.getD p6.2.2.1.toNat (0,(0,(0,(0,(0,(0,(0,(0,([],[]))))))))))).2).2).2).2).2).2).2).1,(y7,((((((((((p6.2.2.2.1.1.2.1.getD p6.2.2.1.toNat (0,(0,(0,(0,(0,(0,(0,(0,([],[]))))))))))).2).2).2).2).2).2).2).2).2)))))))))).getD p6.2.2.1.toNat (0,(0,(0,(0,(0,(0,(0,(0,([],[]))))))))))).2).2).2).2).2).2).1,(((((((((((p6.2.2.2.1.1.2.1.set p6.2.2.1.toNat (((p6.2.2.2.1.1.2.1.getD p6.2.2.1.toNat (0,(0,(0,(0,(0,(0,(0,(0,([],[]))))))))))).1,((((p6.2.2.2.1.1.2.1.getD p6.2.2.1.toNat (0,(0,(0,(0,(0,(0,(0,(0,([],[]))))))))))).2).1,(((((p6.2.2.2.1.1.2.1.getD p6.2.2.1.toNat (0,(0,(0,(0,(0,(0,(0,(0,([],[]))))))))))).2).2).1,((((((p6.2.2.2.1.1.2.1.getD p6.2.2.1.toNat (0,(0,(0,(0,(0,(0,(0,(0,([],[]))))))))))).2).2).2).1,(((((((p6.2.2.2.1.1.2.1.getD p6.2.2.1.toNat (0,(0,(0,(0,(0,(0,(0,(0,([],[]))))))))))).2).2).2).2).1,((((((((p6.2.2.2.1.1.2.1.getD p6.2.2.1.toNat (0,(0,(0,(0,(0,(0,(0,(0,([],[]))))))))))).2).2).2).2).2).1,(((((((((p6.2.2.2.1.1.2.1.getD p6.2.2.1.toNat (0,(0,(0,(0,(0,(0,(0,(0,([],[]))))))))))).2).2).2).2).2).2).1,((((((((((p6.2.2.2.1.1.2.1.getD p6.2.2.1.toNat (0,(0,(0,(0,(0,(0,(0,(0,([],[]))))))))))).2).2).2).2).2).2).2).1,(y7,((((((((((p6.2.2.2.1.1.2.1.getD p6.2.2.1.toNat (0,(0,(0,(0,(0,(0,(0,(0,([],[]))))))))))).2).2).2).2).2).2).2).2).2)))))))))).getD p6.2.2.1.toNat (0,(0,(0,(0,(0,(0,(0,(0,([],[]))))))))))).2).2).2).2).2).2).2).1,((((((((((((p6.2.2.2.1.1.2.1.set p6.2.2.1.toNat (((p6.2.2.2.1.1.2.1.getD p6.2.2.1.toNat (0,(0,(0,(0,(0,(0,(0,(0,([],[]))))))))))).1,((((p6.2.2.2.1.1.2.1.getD p6.2.2.1.toNat (0,(0,(0,(0,(0,(0,(0,(0,([],[]))))))))))).2).1,(((((p6.2.2.2.1.1.2.1.getD p6.2.2.1.toNat (0,(0,(0,(0,(0,(0,(0,(0,([],[]))))))))))).2).2).1,((((((p6.2.2.2.1.1.2.1.getD p6.2.2.1.toNat (0,(0,(0,(0,(0,(0,(0,(0,([],[]))))))))))).2).2).2).1,(((((((p6.2.2.2.1.1.2.1.getD p6.2.2.1.toNat (0,(0,(0,(0,(0,(0,(0,(0,([],[]))))))))))).2).2).2).2).1,((((((((p6.2.2.2.1.1.2.1.getD p6.2.2.1.toNat (0,(0,(0,(0,(0,(0,(0,(0,([],[]))))))))))).2).2).2).2).2).1,(((((((((p6.2.2.2.1.1.2.1.getD p6.2.2.1.toNat (0,(0,(0,(0,(0,(0,(0,(0,([],[]))))))))))).2).2).2).2).2).2).1,((((((((((p6.2.2.2.1.1.2.1.getD p6.2.2.1.toNat (0,(0,(0,(0,(0,(0,(0,(0,([],[]))))))))))).2).2).2).2).2).2).2).1,(y7,((((((((((p6.2.2.2.1.1.2.1.getD p6.2.2.1.toNat (0,(0,(0,(0,(0,(0,(0,(0,([],[]))))))))))).2).2).2).2).2).2).2).2).2)))))))))).getD p6.2.2.1.toNat (0,(0,(0,(0,(0,(0,(0,(0,([],[]))))))))))).2).2).2).2).2).2).2).2).1,y8)))))))))),p6.2.2.2.1.1.2.2)),p6.2.2.2.1.2),()))
 else none
 else none
 else none
 else none
 else
 some (Sum.inr (p6.1,p6.2.2.2.1,()))
noncomputable def p8B (p10:Yz0×Int×Int×(Yz0×Yz1×List Yz1×Int)×Unit):Option ((Yz0×Int×Int×(Yz0×Yz1×List Yz1×Int)×Unit)⊕((Yz0×(Yz0×Yz1×List Yz1×Int)×Unit))):=
 bif (decide (p10.2.2.1<p10.2.1)) then
 bif (a7A p10.2.2.1 p10.2.2.2.1.1.2.2.length) then
 (e5B ((((p10.2.2.2.1.1.2.2.getD p10.2.2.1.toNat (0,(ByteArray.empty,(0,([],[])))))).2).2) 0).bind fun y11 =>
 bif (a7A p10.2.2.1 p10.2.2.2.1.1.2.2.length) then
 some (Sum.inl (p10.1,p10.2.1,(IntKind.i64.wrap (p10.2.2.1+1)),((p10.2.2.2.1.1.1,(p10.2.2.2.1.1.2.1,(p10.2.2.2.1.1.2.2.set p10.2.2.1.toNat (((p10.2.2.2.1.1.2.2.getD p10.2.2.1.toNat (0,(ByteArray.empty,(0,([],[])))))).1,((((p10.2.2.2.1.1.2.2.getD p10.2.2.1.toNat (0,(ByteArray.empty,(0,([],[])))))).2).1,y11.1))))),p10.2.2.2.1.2),()))
 else none
 else none
 else
 some (Sum.inr (p10.1,p10.2.2.2.1,()))
noncomputable def e8B (a0:Int×List Yz2×List (Int×ByteArray×Int×List (Int×Yz1×Int×Int)×List (Int×Int×List Int))) (a1:Int×Int×Int×Int×Int×Int×Int×Int×ByteArray×List Int):Option (Yz0×(List Yz1)×Int):=
 ((e4B a0).bind fun y1 =>
 bif (y1 != 0) then
 some (true,a0,a1,(0,([],[])),())
 else
 (b9B a1).bind fun y2 =>
 some ((y2 != 0),a0,a1,(0,([],[])),()):Option ((Bool×Yz0×Yz1×Yz0×Unit))).bind fun j3 =>
 bif j3.1 then
 some ((0,([],[])),([],1))
 else
 (o3B j3.2.1.2.1).bind fun y4 =>
 (o4B j3.2.1.2.2).bind fun y5 =>
 (iter (f1B) (j3.2.1,(y4.length:Int),0,((j3.2.1.1,(y4,y5)),((0,(0,(0,(0,(0,(0,(0,(0,(ByteArray.empty,[]))))))))),([],0))),())).bind fun j9 =>
 (iter (p8B) (j9.1,(j9.2.1.1.2.2.length:Int),0,j9.2.1,())).bind fun j12 =>
 (bif (decide (j3.2.2.1.1=1)) then
 bif (j3.2.2.1.2.2.2.1==0) then
 bif (decide (j3.2.2.1.2.2.1>0)) then
 (v8A (j12.2.1.1,(j3.2.2.1,j12.2.1.2.2))).bind fun y13 =>
 bif y13.2 then
 (p4A y13.1).bind fun y14 =>
 bif y14.2 then
 (k5A y14.1.1.2.2 y14.1.2.1.2.2.1).bind fun y15 =>
 (k6A y14.1.1.2.1 y14.1.2.1.2.1).bind fun y16 =>
 (t5A y14.1 y16.1 (1,(y13.1.2.1.2.2.1,(0,(0,0))))).bind fun y17 =>
 some (j3.2.2.2.1,y17.1,())
 else
 some (j3.2.2.2.1,y14.1,())
 else
 some (j3.2.2.2.1,y13.1,())
 else
 some (j3.2.2.2.1,(j12.2.1.1,(j3.2.2.1,j12.2.1.2.2)),())
 else
 some (j3.2.2.2.1,(j12.2.1.1,(j3.2.2.1,j12.2.1.2.2)),())
 else
 bif (decide (j3.2.2.1.1=2)) then
 bif (j3.2.2.1.2.2.2.1==0) then
 bif (decide (j3.2.2.1.2.2.1>0)) then
 (v8A (j12.2.1.1,(j3.2.2.1,j12.2.1.2.2))).bind fun y18 =>
 bif y18.2 then
 (k5A y18.1.1.2.2 y18.1.2.1.2.2.1).bind fun y19 =>
 (k6A y18.1.1.2.1 y18.1.2.1.2.1).bind fun y20 =>
 bif (a7A y20.1 y18.1.1.2.1.length) then
 ((bif (((((y18.1.1.2.1.getD y20.1.toNat (0,(0,(0,(0,(0,(0,(0,(0,([],[]))))))))))).2).1) != 0) then
 bif (((((((y18.1.1.2.1.getD y20.1.toNat (0,(0,(0,(0,(0,(0,(0,(0,([],[]))))))))))).2).2).2).1)==y18.1.2.1.2.2.1) then
 some (2,((((((y18.1.1.2.1.getD y20.1.toNat (0,(0,(0,(0,(0,(0,(0,(0,([],[]))))))))))).2).2).1) != y18.1.2.1.2.2.2.2.2.1),y18.1,())
 else
 some (2,false,y18.1,())
 else
 some (2,false,y18.1,()):Option ((Int×Bool×(Yz0×Yz1×List Yz1×Int)×Unit))).bind fun j21 =>
 bif j21.2.1 then
 (p4A j21.2.2.1).bind fun y22 =>
 some (j21.1,y22.1,())
 else
 (p4A j21.2.2.1).bind fun y23 =>
 bif y23.2 then
 (k5A y23.1.1.2.2 y23.1.2.1.2.2.1).bind fun y24 =>
 (k6A y23.1.1.2.1 y23.1.2.1.2.1).bind fun y25 =>
 (t5A y23.1 y25.1 (j21.1,(j21.2.2.1.2.1.2.2.1,(0,(0,0))))).bind fun y26 =>
 some (j21.1,y26.1,())
 else
 some (j21.1,y23.1,()):Option ((Int×(Yz0×Yz1×List Yz1×Int)×Unit))).bind fun j27 =>
 (v9A j27.2.1).bind fun y28 =>
 some (j3.2.2.2.1,y28.1,())
 else none
 else
 some (j3.2.2.2.1,y18.1,())
 else
 some (j3.2.2.2.1,(j12.2.1.1,(j3.2.2.1,j12.2.1.2.2)),())
 else
 some (j3.2.2.2.1,(j12.2.1.1,(j3.2.2.1,j12.2.1.2.2)),())
 else
 bif (decide (j3.2.2.1.1=3)) then
 bif (j3.2.2.1.2.2.2.1==0) then
 bif (decide (j3.2.2.1.2.2.1>0)) then
 (v8A (j12.2.1.1,(j3.2.2.1,j12.2.1.2.2))).bind fun y29 =>
 bif y29.2 then
 (p4A y29.1).bind fun y30 =>
 bif y30.2 then
 (k5A y30.1.1.2.2 y30.1.2.1.2.2.1).bind fun y31 =>
 (k6A y30.1.1.2.1 y30.1.2.1.2.1).bind fun y32 =>
 (t5A y30.1 y32.1 (3,(y29.1.2.1.2.2.1,((if 7<y29.1.2.1.2.2.2.2.2.2.1 then 7 else y29.1.2.1.2.2.2.2.2.2.1),(0,0))))).bind fun y33 =>
 some (j3.2.2.2.1,y33.1,())
 else
 some (j3.2.2.2.1,y30.1,())
 else
 some (j3.2.2.2.1,y29.1,())
 else
 some (j3.2.2.2.1,(j12.2.1.1,(j3.2.2.1,j12.2.1.2.2)),())
 else
 some (j3.2.2.2.1,(j12.2.1.1,(j3.2.2.1,j12.2.1.2.2)),())
 else
 bif (decide (j3.2.2.1.1=4)) then
 bif (j3.2.2.1.2.2.2.1==0) then
 bif (decide (j3.2.2.1.2.2.1>0)) then
 (v8A (j12.2.1.1,(j3.2.2.1,j12.2.1.2.2))).bind fun y34 =>
 bif y34.2 then
 (k5A y34.1.1.2.2 y34.1.2.1.2.2.1).bind fun y35 =>
 (k6A y34.1.1.2.1 y34.1.2.1.2.1).bind fun y36 =>
 bif (a7A y36.1 y34.1.1.2.1.length) then
 ((bif (((((y34.1.1.2.1.getD y36.1.toNat (0,(0,(0,(0,(0,(0,(0,(0,([],[]))))))))))).2).1) != 0) then
 bif (((((((y34.1.1.2.1.getD y36.1.toNat (0,(0,(0,(0,(0,(0,(0,(0,([],[]))))))))))).2).2).2).1)==y34.1.2.1.2.2.1) then
 some (4,((((((y34.1.1.2.1.getD y36.1.toNat (0,(0,(0,(0,(0,(0,(0,(0,([],[]))))))))))).2).2).1) != y34.1.2.1.2.2.2.2.2.1),y34.1,())
 else
 some (4,false,y34.1,())
 else
 some (4,false,y34.1,()):Option ((Int×Bool×(Yz0×Yz1×List Yz1×Int)×Unit))).bind fun j37 =>
 bif j37.2.1 then
 (p4A j37.2.2.1).bind fun y38 =>
 some (j37.1,y38.1,())
 else
 (p4A j37.2.2.1).bind fun y39 =>
 bif y39.2 then
 (k5A y39.1.1.2.2 y39.1.2.1.2.2.1).bind fun y40 =>
 (k6A y39.1.1.2.1 y39.1.2.1.2.1).bind fun y41 =>
 (t5A y39.1 y41.1 (j37.1,(j37.2.2.1.2.1.2.2.1,(0,(0,0))))).bind fun y42 =>
 some (j37.1,y42.1,())
 else
 some (j37.1,y39.1,()):Option ((Int×(Yz0×Yz1×List Yz1×Int)×Unit))).bind fun j43 =>
 (v9A j43.2.1).bind fun y44 =>
 some (j3.2.2.2.1,y44.1,())
 else none
 else
 some (j3.2.2.2.1,y34.1,())
 else
 some (j3.2.2.2.1,(j12.2.1.1,(j3.2.2.1,j12.2.1.2.2)),())
 else
 some (j3.2.2.2.1,(j12.2.1.1,(j3.2.2.1,j12.2.1.2.2)),())
 else
 bif (decide (j3.2.2.1.1=12)) then
 bif (j3.2.2.1.2.2.2.1==0) then
 bif (decide (j3.2.2.1.2.2.1>0)) then
 (v8A (j12.2.1.1,(j3.2.2.1,j12.2.1.2.2))).bind fun y45 =>
 bif y45.2 then
 ((p4A y45.1).bind fun y46 =>
 bif y46.2 then
 (k5A y46.1.1.2.2 y46.1.2.1.2.2.1).bind fun y47 =>
 (k6A y46.1.1.2.1 y46.1.2.1.2.1).bind fun y48 =>
 (t5A y46.1 y48.1 (5,(y45.1.2.1.2.2.1,(0,(y45.1.2.1.2.2.2.2.2.1,0))))).bind fun y49 =>
 some (y49.1,())
 else
 some (y46.1,()):Option (((Yz0×Yz1×List Yz1×Int)×Unit))).bind fun j50 =>
 (v9A j50.1).bind fun y51 =>
 some (j3.2.2.2.1,y51.1,())
 else
 some (j3.2.2.2.1,y45.1,())
 else
 some (j3.2.2.2.1,(j12.2.1.1,(j3.2.2.1,j12.2.1.2.2)),())
 else
 some (j3.2.2.2.1,(j12.2.1.1,(j3.2.2.1,j12.2.1.2.2)),())
 else
 bif (decide (j3.2.2.1.1=11)) then
 bif (j3.2.2.1.2.2.2.1==0) then
 bif (decide (j3.2.2.1.2.2.1>0)) then
 (v8A (j12.2.1.1,(j3.2.2.1,j12.2.1.2.2))).bind fun y52 =>
 bif y52.2 then
 (k5A y52.1.1.2.2 y52.1.2.1.2.2.1).bind fun y53 =>
 (k6A y52.1.1.2.1 y52.1.2.1.2.1).bind fun y54 =>
 bif (a7A y53.1 y52.1.1.2.2.length) then
 (e5B ((((y52.1.1.2.2.getD y53.1.toNat (0,(ByteArray.empty,(0,([],[])))))).2).2) y52.1.2.1.2.2.2.2.1).bind fun y55 =>
 bif (a7A y53.1 y52.1.1.2.2.length) then
 some (j3.2.2.2.1,((y52.1.1.1,(y52.1.1.2.1,(y52.1.1.2.2.set y53.1.toNat (((y52.1.1.2.2.getD y53.1.toNat (0,(ByteArray.empty,(0,([],[])))))).1,((((y52.1.1.2.2.getD y53.1.toNat (0,(ByteArray.empty,(0,([],[])))))).2).1,y55.1))))),y52.1.2),())
 else none
 else none
 else
 some (j3.2.2.2.1,y52.1,())
 else
 some (j3.2.2.2.1,(j12.2.1.1,(j3.2.2.1,j12.2.1.2.2)),())
 else
 some (j3.2.2.2.1,(j12.2.1.1,(j3.2.2.1,j12.2.1.2.2)),())
 else
 bif (decide (j3.2.2.1.1=13)) then
 bif (j3.2.2.1.2.2.2.1==0) then
 bif (decide (j3.2.2.1.2.2.1>0)) then
 (v8A (j12.2.1.1,(j3.2.2.1,j12.2.1.2.2))).bind fun y56 =>
 bif y56.2 then
 (k5A y56.1.1.2.2 y56.1.2.1.2.2.1).bind fun y57 =>
 (k6A y56.1.1.2.1 y56.1.2.1.2.1).bind fun y58 =>
 bif (a7A y58.1 y56.1.1.2.1.length) then
 (i8B (((y56.1.1.2.1.getD y58.1.toNat (0,(0,(0,(0,(0,(0,(0,(0,([],[]))))))))))).2) y56.1.2.1.2.2.1 y56.1.2.1.2.2.2.2.2.1).bind fun y59 =>
 bif y59 then
 (e7B y56.1 (y56.1.1.2.1.getD y58.1.toNat (0,(0,(0,(0,(0,(0,(0,(0,([],[])))))))))) y56.1.2.1.2.2.1 (13,(0,(0,(0,(0,(y56.1.2.1.2.2.2.2.2.1,(y56.1.2.1.2.2.1,(y56.1.2.1.2.2.2.2.2.2.2.1,(ByteArray.empty,y56.1.2.1.2.2.2.2.2.2.2.2.2)))))))))).bind fun y60 =>
 some (j3.2.2.2.1,y60.1,())
 else
 some (j3.2.2.2.1,y56.1,())
 else none
 else
 some (j3.2.2.2.1,y56.1,())
 else
 some (j3.2.2.2.1,(j12.2.1.1,(j3.2.2.1,j12.2.1.2.2)),())
 else
 some (j3.2.2.2.1,(j12.2.1.1,(j3.2.2.1,j12.2.1.2.2)),())
 else
 some (j3.2.2.2.1,(j12.2.1.1,(j3.2.2.1,j12.2.1.2.2)),()):Option ((Yz0×(Yz0×Yz1×List Yz1×Int)×Unit))).bind fun j61 =>
 bif (j61.2.1.2.2.2 != 0) then
 some ((0,([],[])),([],j61.2.1.2.2.2))
 else
 some (j61.2.1.1,(j61.2.1.2.2.1,0))
noncomputable def i9D (p4:Yz0×Int×Int×(Yz0×Yz1×List Yz1×Int)×Unit):Option ((Yz0×Int×Int×(Yz0×Yz1×List Yz1×Int)×Unit)⊕((Yz0×(Yz0×Yz1×List Yz1×Int)×Unit))):=
 f1B p4
noncomputable def j0D (p8:Yz0×Int×Int×(Yz0×Yz1×List Yz1×Int)×Unit):Option ((Yz0×Int×Int×(Yz0×Yz1×List Yz1×Int)×Unit)⊕((Yz0×(Yz0×Yz1×List Yz1×Int)×Unit))):=
 bif (decide (p8.2.2.1<p8.2.1)) then
 bif (a7A p8.2.2.1 p8.2.2.2.1.1.2.2.length) then
 (e5B ((((p8.2.2.2.1.1.2.2.getD p8.2.2.1.toNat (0,(ByteArray.empty,(0,([],[])))))).2).2) 0).bind fun y9 =>
 bif (a7A p8.2.2.1 p8.2.2.2.1.1.2.2.length) then
 some (Sum.inl (p8.1,p8.2.1,(IntKind.i64.wrap (p8.2.2.1+1)),((p8.2.2.2.1.1.1,(p8.2.2.2.1.1.2.1,(p8.2.2.2.1.1.2.2.set p8.2.2.1.toNat (((p8.2.2.2.1.1.2.2.getD p8.2.2.1.toNat (0,(ByteArray.empty,(0,([],[])))))).1,((((p8.2.2.2.1.1.2.2.getD p8.2.2.1.toNat (0,(ByteArray.empty,(0,([],[])))))).2).1,y9.1))))),p8.2.2.2.1.2),()))
 else none
 else none
 else
 some (Sum.inr (p8.1,p8.2.2.2.1,()))
noncomputable def p1B (a0:Int×List Yz2×List (Int×ByteArray×Int×List (Int×Yz1×Int×Int)×List (Int×Int×List Int))) (a1:Int):Option (Yz3×Bool):=
 (e4B a0).bind fun y1 =>
 bif (y1 != 0) then
 some ((0,(0,(0,(0,(0,(0,(0,([],[])))))))),false)
 else
 (o3B a0.2.1).bind fun y2 =>
 (o4B a0.2.2).bind fun y3 =>
 (iter (i9D) (a0,(y2.length:Int),0,((a0.1,(y2,y3)),((0,(0,(0,(0,(0,(0,(0,(0,(ByteArray.empty,[]))))))))),([],0))),())).bind fun j7 =>
 (iter (j0D) (j7.1,(j7.2.1.1.2.2.length:Int),0,j7.2.1,())).bind fun j10 =>
 (k6A j10.2.1.1.2.1 a1).bind fun y11 =>
 bif (!y11.2) then
 some ((0,(0,(0,(0,(0,(0,(0,([],[])))))))),false)
 else
 bif (a7A y11.1 j10.2.1.1.2.1.length) then
 some ((((j10.2.1.1.2.1.getD y11.1.toNat (0,(0,(0,(0,(0,(0,(0,(0,([],[]))))))))))).2),true)
 else none
noncomputable def f0C:Option (Bool):=
 (u1B).bind fun y1 =>
 (e8B y1 (1,(1,(3,(0,(1,(0,(0,(0,((ByteArray.mk #[97]),[])))))))))).bind fun y2 =>
 (e8B y2.1 (3,(1,(3,(0,(2,(0,(5,(0,(ByteArray.empty,[])))))))))).bind fun y3 =>
 (p1B y3.1 1).bind fun y4 =>
 bif (y2.2.2==0) then
 bif ((y2.2.1.length:Int)==1) then
 bif (a7A 0 y2.2.1.length) then
 bif ((((y2.2.1.getD 0 (0,(0,(0,(0,(0,(0,(0,(0,(ByteArray.empty,[]))))))))))).1)==15) then
 bif (a7A 0 y2.2.1.length) then
 bif (((((((y2.2.1.getD 0 (0,(0,(0,(0,(0,(0,(0,(0,(ByteArray.empty,[]))))))))))).2).2).2).1)==3) then
 bif (y3.2.2==0) then
 bif ((y3.2.1.length:Int)==1) then
 bif (a7A 0 y3.2.1.length) then
 bif ((((y3.2.1.getD 0 (0,(0,(0,(0,(0,(0,(0,(0,(ByteArray.empty,[]))))))))))).1)==5) then
 bif (a7A 0 y3.2.1.length) then
 bif ((((((((((y3.2.1.getD 0 (0,(0,(0,(0,(0,(0,(0,(0,(ByteArray.empty,[]))))))))))).2).2).2).2).2).2).1)==12) then
 bif y4.2 then
 bif (y4.1.2.2.1==3) then
 some (y4.1.2.2.2.1==5)
 else
 some false
 else
 some false
 else
 some false
 else none
 else
 some false
 else none
 else
 some false
 else
 some false
 else
 some false
 else none
 else
 some false
 else none
 else
 some false
 else
 some false
noncomputable def w6B (p1:(List Yz1)×(List Yz1)×Int×Int×Unit):Option (((List Yz1)×(List Yz1)×Int×Int×Unit)⊕(((List Yz1)×Unit)⊕(Bool×Unit))):=
 bif (decide (p1.2.2.2.1<p1.2.2.1)) then
 bif (a7A p1.2.2.2.1 p1.2.1.length) then
 (v6B (p1.2.1.getD p1.2.2.2.1.toNat (0,(0,(0,(0,(0,(0,(0,(0,(ByteArray.empty,[]))))))))))).bind fun y2 =>
 bif y2 then
 some (Sum.inr (Sum.inr (false,())))
 else
 some (Sum.inl (p1.1,p1.2.1,p1.2.2.1,(IntKind.i64.wrap (p1.2.2.2.1+1)),()))
 else none
 else
 some (Sum.inr (Sum.inl (p1.1,())))
noncomputable def f1C (a0:List Yz1):Option (Bool):=
 (iter (w6B) (a0,a0,(a0.length:Int),0,())).bind fun j3 =>
 (match j3 with
 | .inl j4 =>
 (some (decide ((j4.1.length:Int)≤60)))
 | .inr j5 =>
 (some j5.1))
noncomputable def r9C (a0:Int×Int×Int×Int×Int×Int×Int×Int×ByteArray×List Int):Option (Bool):=
 some (a0.1==0)
noncomputable def j1D (p5:Yz0×Int×Int×(Yz0×Yz1×List Yz1×Int)×Unit):Option ((Yz0×Int×Int×(Yz0×Yz1×List Yz1×Int)×Unit)⊕((Yz0×(Yz0×Yz1×List Yz1×Int)×Unit))):=
 f1B p5
noncomputable def j2D (p9:Yz0×Int×Int×(Yz0×Yz1×List Yz1×Int)×Unit):Option ((Yz0×Int×Int×(Yz0×Yz1×List Yz1×Int)×Unit)⊕((Yz0×(Yz0×Yz1×List Yz1×Int)×Unit))):=
 bif (decide (p9.2.2.1<p9.2.1)) then
 bif (a7A p9.2.2.1 p9.2.2.2.1.1.2.2.length) then
 (e5B ((((p9.2.2.2.1.1.2.2.getD p9.2.2.1.toNat (0,(ByteArray.empty,(0,([],[])))))).2).2) 0).bind fun y10 =>
 bif (a7A p9.2.2.1 p9.2.2.2.1.1.2.2.length) then
 some (Sum.inl (p9.1,p9.2.1,(IntKind.i64.wrap (p9.2.2.1+1)),((p9.2.2.2.1.1.1,(p9.2.2.2.1.1.2.1,(p9.2.2.2.1.1.2.2.set p9.2.2.1.toNat (((p9.2.2.2.1.1.2.2.getD p9.2.2.1.toNat (0,(ByteArray.empty,(0,([],[])))))).1,((((p9.2.2.2.1.1.2.2.getD p9.2.2.1.toNat (0,(ByteArray.empty,(0,([],[])))))).2).1,y10.1))))),p9.2.2.2.1.2),()))
 else none
 else none
 else
 some (Sum.inr (p9.1,p9.2.2.2.1,()))
noncomputable def w7B (p12:Int×Int×Yz0×(Yz0×Yz1×List Yz1×Int)×Unit):Option ((Int×Int×Yz0×(Yz0×Yz1×List Yz1×Int)×Unit)⊕((Yz0×(Yz0×Yz1×List Yz1×Int)×Unit))):=
 bif (decide (p12.2.1<p12.1)) then
 (t5A p12.2.2.2.1 p12.2.1 (6,(0,(0,(0,p12.2.2.2.1.1.1))))).bind fun y13 =>
 some (Sum.inl (p12.1,(IntKind.i64.wrap (p12.2.1+1)),p12.2.2.1,y13.1,()))
 else
 some (Sum.inr (p12.2.2.1,p12.2.2.2.1,()))
noncomputable def p9B (p15:Int×Int×Yz0×(Yz0×Yz1×List Yz1×Int)×Unit):Option ((Int×Int×Yz0×(Yz0×Yz1×List Yz1×Int)×Unit)⊕((Yz0×(Yz0×Yz1×List Yz1×Int)×Unit))):=
 bif (decide (p15.2.1<p15.1)) then
 bif (a7A p15.2.1 p15.2.2.2.1.1.2.2.length) then
 (f2C ((((p15.2.2.2.1.1.2.2.getD p15.2.1.toNat (0,(ByteArray.empty,(0,([],[])))))).2).2) p15.2.2.2.1.1.1).bind fun y16 =>
 bif (y16.2.2.2 != 0) then
 some (Sum.inr (p15.2.2.1,(p15.2.2.2.1.1,(p15.2.2.2.1.2.1,(p15.2.2.2.1.2.2.1,y16.2.2.2))),()))
 else
 bif (a7A p15.2.1 p15.2.2.2.1.1.2.2.length) then
 bif (c6A 104 (p15.2.2.2.1.2.2.1++y16.2.1).length) then
 some (Sum.inl (p15.1,(IntKind.i64.wrap (p15.2.1+1)),p15.2.2.1,((p15.2.2.2.1.1.1,(p15.2.2.2.1.1.2.1,(p15.2.2.2.1.1.2.2.set p15.2.1.toNat (((p15.2.2.2.1.1.2.2.getD p15.2.1.toNat (0,(ByteArray.empty,(0,([],[])))))).1,((((p15.2.2.2.1.1.2.2.getD p15.2.1.toNat (0,(ByteArray.empty,(0,([],[])))))).2).1,y16.1))))),(p15.2.2.2.1.2.1,((p15.2.2.2.1.2.2.1++y16.2.1),p15.2.2.2.1.2.2.2))),()))
 else none
 else none
 else none
 else
 some (Sum.inr (p15.2.2.1,p15.2.2.2.1,()))
noncomputable def f3C (a0:Int×List Yz2×List (Int×ByteArray×Int×List (Int×Yz1×Int×Int)×List (Int×Int×List Int))):Option (Yz0×(List Yz1)×Int):=
 ((e4B a0).bind fun y1 =>
 bif (y1 != 0) then
 some (true,a0,(0,([],[])),())
 else
 some ((a0.1==1099511627776),a0,(0,([],[])),()):Option ((Bool×Yz0×Yz0×Unit))).bind fun j2 =>
 bif j2.1 then
 some ((0,([],[])),([],1))
 else
 (o3B j2.2.1.2.1).bind fun y3 =>
 (o4B j2.2.1.2.2).bind fun y4 =>
 (iter (j1D) (j2.2.1,(y3.length:Int),0,((j2.2.1.1,(y3,y4)),((0,(0,(0,(0,(0,(0,(0,(0,(ByteArray.empty,[]))))))))),([],0))),())).bind fun j8 =>
 (iter (j2D) (j8.1,(j8.2.1.1.2.2.length:Int),0,j8.2.1,())).bind fun j11 =>
 (iter (w7B) ((j11.2.1.1.2.1.length:Int),0,j2.2.2.1,(((IntKind.i64.wrap (j11.2.1.1.1+1)),j11.2.1.1.2),j11.2.1.2),())).bind fun j14 =>
 (iter (p9B) ((j14.2.1.1.2.2.length:Int),0,j14.1,j14.2.1,())).bind fun j17 =>
 bif (j17.2.1.2.2.2 != 0) then
 some ((0,([],[])),([],j17.2.1.2.2.2))
 else
 some (j17.2.1.1,(j17.2.1.2.2.1,0))
noncomputable def f4C (a0:Int×List Yz2×List (Int×ByteArray×Int×List (Int×Yz1×Int×Int)×List (Int×Int×List Int))) (a1:Int×Int×Int×Int×Int×Int×Int×Int×ByteArray×List Int):Option (Yz0×(List Yz1)×Int):=
 (r9C a1).bind fun y1 =>
 bif y1 then
 (f3C a0).bind fun y2 =>
 some y2
 else
 (e8B a0 a1).bind fun y3 =>
 some y3
noncomputable def w8F (p1:Int×(List (Int×ByteArray×Int×List (Int×Yz1×Int×Int)×List (Int×Int×List Int)))×Int×Int×Unit):Option ((Int×(List (Int×ByteArray×Int×List (Int×Yz1×Int×Int)×List (Int×Int×List Int)))×Int×Int×Unit)⊕(Unit⊕(Bool×Unit))):=
 bif (decide (p1.2.2.2.1<p1.2.2.1)) then
 bif (a7A p1.2.2.2.1 p1.2.1.length) then
 bif ((((p1.2.1.getD p1.2.2.2.1.toNat (0,(ByteArray.empty,(0,([],[])))))).1)==p1.1) then
 some (Sum.inr (Sum.inr (true,())))
 else
 some (Sum.inl (p1.1,p1.2.1,p1.2.2.1,(IntKind.i64.wrap (p1.2.2.2.1+1)),()))
 else none
 else
 some (Sum.inr (Sum.inl ()))
noncomputable def v8F (a0:Int×List Yz2×List (Int×ByteArray×Int×List (Int×Yz1×Int×Int)×List (Int×Int×List Int))) (a1:Int):Option (Bool):=
 (iter (w8F) (a1,a0.2.2,(a0.2.2.length:Int),0,())).bind fun j2 =>
 (match j2 with
 | .inl j3 =>
 (some false)
 | .inr j4 =>
 (some j4.1))
noncomputable def v9F (a0:Int×Int×Int×Int×Int×Int×Int×List (Int×Int)×List Int) (a1:Int×Int×Int×Int×Int×Int×Int×Int×ByteArray×List Int):Option Yz3:=
 (bif (a1.1==1) then
 some (Sum.inl (a0,(0,(0,(0,(0,(0,(0,(0,([],[])))))))),(1,(a1.2.2.1,(0,(a1.2.2.2.2.2.1,0)))),()))
 else
 bif (a1.1==2) then
 (bif (a0.1 != 0) then
 bif (a0.2.2.1==a1.2.2.1) then
 some ((a0.2.1 != a1.2.2.2.2.2.1),a0,(0,(0,(0,(0,(0,(0,(0,([],[])))))))),(0,(a1.2.2.1,(0,(a1.2.2.2.2.2.1,0)))),())
 else
 some (false,a0,(0,(0,(0,(0,(0,(0,(0,([],[])))))))),(0,(a1.2.2.1,(0,(a1.2.2.2.2.2.1,0)))),())
 else
 some (false,a0,(0,(0,(0,(0,(0,(0,(0,([],[])))))))),(0,(a1.2.2.1,(0,(a1.2.2.2.2.2.1,0)))),()):Option ((Bool×Yz3×Yz3×(Int×Int×Int×Int×Int)×Unit))).bind fun j1 =>
 bif j1.1 then
 some (Sum.inr (j1.2.1,()))
 else
 some (Sum.inl (j1.2.1,j1.2.2.1,(2,j1.2.2.2.1.2),()))
 else
 bif (a1.1==3) then
 some (Sum.inl (a0,(0,(0,(0,(0,(0,(0,(0,([],[])))))))),(3,(a1.2.2.1,((if 7<a1.2.2.2.2.2.2.1 then 7 else a1.2.2.2.2.2.2.1),(a1.2.2.2.2.2.1,0)))),()))
 else
 bif (a1.1==12) then
 some (Sum.inl (a0,(0,(0,(0,(0,(0,(0,(0,([],[])))))))),(5,(a1.2.2.1,(0,(a1.2.2.2.2.2.1,0)))),()))
 else
 bif (a1.1==4) then
 (bif (a0.1 != 0) then
 bif (a0.2.2.1==a1.2.2.1) then
 some ((a0.2.1 != a1.2.2.2.2.2.1),a0,(0,(0,(0,(0,(0,(0,(0,([],[])))))))),(0,(a1.2.2.1,(0,(a1.2.2.2.2.2.1,0)))),())
 else
 some (false,a0,(0,(0,(0,(0,(0,(0,(0,([],[])))))))),(0,(a1.2.2.1,(0,(a1.2.2.2.2.2.1,0)))),())
 else
 some (false,a0,(0,(0,(0,(0,(0,(0,(0,([],[])))))))),(0,(a1.2.2.1,(0,(a1.2.2.2.2.2.1,0)))),()):Option ((Bool×Yz3×Yz3×(Int×Int×Int×Int×Int)×Unit))).bind fun j2 =>
 bif j2.1 then
 some (Sum.inr (j2.2.1,()))
 else
 some (Sum.inl (j2.2.1,j2.2.2.1,(4,j2.2.2.2.1.2),()))
 else
 some (Sum.inl (a0,(0,(0,(0,(0,(0,(0,(0,([],[])))))))),(0,(a1.2.2.1,(0,(a1.2.2.2.2.2.1,0)))),())):Option ((Yz3×Yz3×(Int×Int×Int×Int×Int)×Unit)⊕(Yz3×Unit))).bind fun j3 =>
 (match j3 with
 | .inl j4 =>
 ((n3A j4.1 j4.2.2.1).bind fun y6 =>
 bif (y6.2.2 != 0) then
 some j4.1
 else
 some y6.1)
 | .inr j5 =>
 (some j5.1))
noncomputable def j7F (p3:Int×Int×Yz3×Yz3×Unit):Option ((Int×Int×Yz3×Yz3×Unit)⊕(Unit⊕(Bool×Unit))):=
 bif (decide (p3.2.1<p3.1)) then
 bif (a7A p3.2.1 p3.2.2.1.2.2.2.2.2.2.2.1.length) then
 bif (a7A p3.2.1 p3.2.2.2.1.2.2.2.2.2.2.2.1.length) then
 bif (!(((((p3.2.2.1.2.2.2.2.2.2.2.1.getD p3.2.1.toNat (0,0))).1)==(((p3.2.2.2.1.2.2.2.2.2.2.2.1.getD p3.2.1.toNat (0,0))).1))&&(((((p3.2.2.1.2.2.2.2.2.2.2.1.getD p3.2.1.toNat (0,0))).2)==(((p3.2.2.2.1.2.2.2.2.2.2.2.1.getD p3.2.1.toNat (0,0))).2))&&true))) then
 some (Sum.inr (Sum.inr (false,())))
 else
 some (Sum.inl (p3.1,(IntKind.i64.wrap (p3.2.1+1)),p3.2.2.1,p3.2.2.2.1,()))
 else none
 else none
 else
 some (Sum.inr (Sum.inl ()))
noncomputable def j5F (a0:Int×Int×Int×Int×Int×Int×Int×List (Int×Int)×List Int) (a1:Int×Int×Int×Int×Int×Int×Int×List (Int×Int)×List Int):Option (Bool):=
 (bif (a0.1 != a1.1) then
 some (true,a0,a1,())
 else
 bif (a0.2.1 != a1.2.1) then
 some (true,a0,a1,())
 else
 bif (a0.2.2.1 != a1.2.2.1) then
 some (true,a0,a1,())
 else
 bif (a0.2.2.2.1 != a1.2.2.2.1) then
 some (true,a0,a1,())
 else
 bif (a0.2.2.2.2.1 != a1.2.2.2.2.1) then
 some (true,a0,a1,())
 else
 bif (a0.2.2.2.2.2.1 != a1.2.2.2.2.2.1) then
 some (true,a0,a1,())
 else
 bif (a0.2.2.2.2.2.2.1 != a1.2.2.2.2.2.2.1) then
 some (true,a0,a1,())
 else
 (i4F a0.2.2.2.2.2.2.2.2 a1.2.2.2.2.2.2.2.2).bind fun y1 =>
 bif (!y1) then
 some (true,a0,a1,())
 else
 some (((a0.2.2.2.2.2.2.2.1.length:Int) != (a1.2.2.2.2.2.2.2.1.length:Int)),a0,a1,()):Option ((Bool×Yz3×Yz3×Unit))).bind fun j2 =>
 bif j2.1 then
 some false
 else
 (iter (j7F) ((j2.2.1.2.2.2.2.2.2.2.1.length:Int),0,j2.2.1,j2.2.2.1,())).bind fun j4 =>
 (match j4 with
 | .inl j5 =>
 (some true)
 | .inr j6 =>
 (some j6.1))
noncomputable def w3F (c8:Option (Nat×Yz2)) (p7:Bool×Int×(List Yz1)×Int×Int×(List (Nat×Yz2)×Nat)×Yz4×Yz0×Yz1×Yz0×(Nat×List Nat×Nat)×Unit):Option ((Bool×Int×(List Yz1)×Int×Int×(List (Nat×Yz2)×Nat)×Yz4×Yz0×Yz1×Yz0×(Nat×List Nat×Nat)×Unit)⊕((Bool×Int×(List Yz1)×Int×Int×(List (Nat×Yz2)×Nat)×Yz4×Yz0×Yz1×Yz0×Unit)⊕(Bool×Unit))):=
 match c8 with
 | none =>
 (some (Sum.inr (Sum.inl (p7.1,p7.2.1,p7.2.2.1,p7.2.2.2.1,p7.2.2.2.2.1,(p7.2.2.2.2.2.1.1,p7.2.2.2.2.2.1.2),(p7.2.2.2.2.2.2.1.1,p7.2.2.2.2.2.2.1.2),p7.2.2.2.2.2.2.2.1,p7.2.2.2.2.2.2.2.2.1,p7.2.2.2.2.2.2.2.2.2.1,()))))
 | some e9 =>
 (bif (Nat.beq p7.2.2.2.2.2.1.2 p7.2.2.2.2.2.1.2&&(!(p7.2.2.2.2.2.2.2.2.2.2.1.2.1++[e9.1]).isEmpty&&(r4B ((p7.2.2.2.2.2.2.2.2.2.2.1.2.1++[e9.1]).getLastD 0) p7.2.2.2.2.2.1.1).isSome)) then
 (n3A (((r4B ((p7.2.2.2.2.2.2.2.2.2.2.1.2.1++[e9.1]).getLastD 0) p7.2.2.2.2.2.1.1).getD (0,(0,(0,(0,(0,(0,(0,(0,([],[])))))))))).2) (6,(0,(0,(0,p7.2.2.2.2.2.2.2.2.2.1.1))))).bind fun y10 =>
 bif (y10.2.2 != 0) then
 some (Sum.inr (Sum.inr (false,())))
 else
 some (Sum.inl (p7.1,p7.2.1,p7.2.2.1,p7.2.2.2.1,p7.2.2.2.2.1,((z1B (fun b:Int=>(((r4B ((p7.2.2.2.2.2.2.2.2.2.2.1.2.1++[e9.1]).getLastD 0) p7.2.2.2.2.2.1.1).getD (0,(0,(0,(0,(0,(0,(0,(0,([],[])))))))))).1)==b) (((r4B ((p7.2.2.2.2.2.2.2.2.2.2.1.2.1++[e9.1]).getLastD 0) p7.2.2.2.2.2.1.1).getD (0,(0,(0,(0,(0,(0,(0,(0,([],[])))))))))).1) y10.1 p7.2.2.2.2.2.1.2 p7.2.2.2.2.2.1.1),(ckE (fun b:Int=>(((r4B ((p7.2.2.2.2.2.2.2.2.2.2.1.2.1++[e9.1]).getLastD 0) p7.2.2.2.2.2.1.1).getD (0,(0,(0,(0,(0,(0,(0,(0,([],[])))))))))).1)==b) p7.2.2.2.2.2.1.2 p7.2.2.2.2.2.1.1)),(p7.2.2.2.2.2.2.1.1,p7.2.2.2.2.2.2.1.2),p7.2.2.2.2.2.2.2.1,p7.2.2.2.2.2.2.2.2.1,p7.2.2.2.2.2.2.2.2.2.1,(p7.2.2.2.2.2.2.2.2.2.2.1.1,(p7.2.2.2.2.2.2.2.2.2.2.1.2.1++[e9.1]),p7.2.2.2.2.2.1.2),()))
 else none)
noncomputable def v2F (c32:Option (Nat×(List Int×Bool))) (p31:Yz4×(Nat×List Nat×Nat)×Unit):Option ((Yz4×(Nat×List Nat×Nat)×Unit)⊕((Yz4×Unit)⊕(Bool×Yz4×Unit))):=
 match c32 with
 | none =>
 (some (Sum.inr (Sum.inl ((p31.1.1,p31.1.2),()))))
 | some e33 =>
 (bif (Nat.beq p31.1.2 p31.1.2&&(!(p31.2.1.2.1++[e33.1]).isEmpty&&(r4B ((p31.2.1.2.1++[e33.1]).getLastD 0) p31.1.1).isSome)) then
 bif (a7A 1 2) then
 bif (decide (((((r4B ((p31.2.1.2.1++[e33.1]).getLastD 0) p31.1.1).getD ((List.replicate 2 0),false)).1).getD 1 0)>15)) then
 some (Sum.inr (Sum.inr (true,(p31.1.1,p31.1.2),())))
 else
 some (Sum.inl ((p31.1.1,p31.1.2),(p31.2.1.1,(p31.2.1.2.1++[e33.1]),p31.1.2),()))
 else none
 else none)
noncomputable def v4F (c39:Option (Nat×Yz2)) (p38:Bool×(List Yz1)×Int×Int×(List (Nat×Yz2)×Nat)×Yz4×Yz0×(Nat×List Nat×Nat)×Unit):Option ((Bool×(List Yz1)×Int×Int×(List (Nat×Yz2)×Nat)×Yz4×Yz0×(Nat×List Nat×Nat)×Unit)⊕((Bool×(List Yz1)×Int×Int×(List (Nat×Yz2)×Nat)×Yz4×Yz0×Unit)⊕(Bool×Unit))):=
 match c39 with
 | none =>
 (some (Sum.inr (Sum.inl (p38.1,p38.2.1,p38.2.2.1,p38.2.2.2.1,(p38.2.2.2.2.1.1,p38.2.2.2.2.1.2),(p38.2.2.2.2.2.1.1,p38.2.2.2.2.2.1.2),p38.2.2.2.2.2.2.1,()))))
 | some e40 =>
 (bif (Nat.beq p38.2.2.2.2.1.2 p38.2.2.2.2.1.2&&(!(p38.2.2.2.2.2.2.2.1.2.1++[e40.1]).isEmpty&&(r4B ((p38.2.2.2.2.2.2.2.1.2.1++[e40.1]).getLastD 0) p38.2.2.2.2.1.1).isSome)) then
 (p1B p38.2.2.2.2.2.2.1 (((r4B ((p38.2.2.2.2.2.2.2.1.2.1++[e40.1]).getLastD 0) p38.2.2.2.2.1.1).getD (0,(0,(0,(0,(0,(0,(0,(0,([],[])))))))))).1)).bind fun y41 =>
 (bif (!y41.2) then
 some (p38.1,p38.2.1,p38.2.2.1,p38.2.2.2.1,true,(p38.2.2.2.2.1.1,p38.2.2.2.2.1.2),(p38.2.2.2.2.2.1.1,p38.2.2.2.2.2.1.2),p38.2.2.2.2.2.2.1,(p38.2.2.2.2.2.2.2.1.1,(p38.2.2.2.2.2.2.2.1.2.1++[e40.1]),p38.2.2.2.2.1.2),())
 else
 (j5F (((r4B ((p38.2.2.2.2.2.2.2.1.2.1++[e40.1]).getLastD 0) p38.2.2.2.2.1.1).getD (0,(0,(0,(0,(0,(0,(0,(0,([],[])))))))))).2) y41.1).bind fun y42 =>
 some (p38.1,p38.2.1,p38.2.2.1,p38.2.2.2.1,(!y42),(p38.2.2.2.2.1.1,p38.2.2.2.2.1.2),(p38.2.2.2.2.2.1.1,p38.2.2.2.2.2.1.2),p38.2.2.2.2.2.2.1,(p38.2.2.2.2.2.2.2.1.1,(p38.2.2.2.2.2.2.2.1.2.1++[e40.1]),p38.2.2.2.2.1.2),()):Option ((Bool×(List Yz1)×Int×Int×Bool×(List (Nat×Yz2)×Nat)×Yz4×Yz0×(Nat×List Nat×Nat)×Unit))).bind fun j43 =>
 bif j43.2.2.2.2.1 then
 some (Sum.inr (Sum.inr (false,())))
 else
 some (Sum.inl (j43.1,j43.2.1,j43.2.2.1,j43.2.2.2.1,(j43.2.2.2.2.2.1.1,j43.2.2.2.2.2.1.2),(j43.2.2.2.2.2.2.1.1,j43.2.2.2.2.2.2.1.2),j43.2.2.2.2.2.2.2.1,(j43.2.2.2.2.2.2.2.2.1.1,j43.2.2.2.2.2.2.2.2.1.2.1,j43.2.2.2.2.2.2.2.2.1.2.2),()))
 else none)
noncomputable def Zt (j14:(Bool×Int×(List Yz1)×Int×Int×(List (Nat×Yz2)×Nat)×Yz4×Yz0×Yz1×Yz0×Unit)⊕(Bool×Unit)):Option ((Bool×(List Yz1)×Int×Int×(List (Nat×Yz2)×Nat)×Yz4×Yz0×Unit)⊕((Bool×(List (Nat×Yz2)×Nat)×Yz0×Unit)⊕(Bool×Unit))):=
 (match j14 with
 | .inl j15 =>
 ((bif (decide (j15.2.2.2.2.2.2.2.2.1.1≥1)) then
 bif (decide (j15.2.2.2.2.2.2.2.2.1.1≤4)) then
 some (j15.1,j15.2.1,true,j15.2.2.1,j15.2.2.2.1,j15.2.2.2.2.1,(j15.2.2.2.2.2.1.1,j15.2.2.2.2.2.1.2),(j15.2.2.2.2.2.2.1.1,j15.2.2.2.2.2.2.1.2),j15.2.2.2.2.2.2.2.1,j15.2.2.2.2.2.2.2.2.1,j15.2.2.2.2.2.2.2.2.2.1,())
 else
 some (j15.1,j15.2.1,(j15.2.2.2.2.2.2.2.2.1.1==12),j15.2.2.1,j15.2.2.2.1,j15.2.2.2.2.1,(j15.2.2.2.2.2.1.1,j15.2.2.2.2.2.1.2),(j15.2.2.2.2.2.2.1.1,j15.2.2.2.2.2.2.1.2),j15.2.2.2.2.2.2.2.1,j15.2.2.2.2.2.2.2.2.1,j15.2.2.2.2.2.2.2.2.2.1,())
 else
 some (j15.1,j15.2.1,(j15.2.2.2.2.2.2.2.2.1.1==12),j15.2.2.1,j15.2.2.2.1,j15.2.2.2.2.1,(j15.2.2.2.2.2.1.1,j15.2.2.2.2.2.1.2),(j15.2.2.2.2.2.2.1.1,j15.2.2.2.2.2.2.1.2),j15.2.2.2.2.2.2.2.1,j15.2.2.2.2.2.2.2.2.1,j15.2.2.2.2.2.2.2.2.2.1,()):Option ((Bool×Int×Bool×(List Yz1)×Int×Int×(List (Nat×Yz2)×Nat)×Yz4×Yz0×Yz1×Yz0×Unit))).bind fun j17 =>
 (bif (j17.2.1 != 0) then
 bif j17.2.2.1 then
 (j4F j17.2.2.2.2.2.2.2.2.2.1).bind fun y18 =>
 some (j17.1,j17.2.1,j17.2.2.1,j17.2.2.2.1,j17.2.2.2.2.1,j17.2.2.2.2.2.1,(y18==0),(j17.2.2.2.2.2.2.1.1,j17.2.2.2.2.2.2.1.2),(j17.2.2.2.2.2.2.2.1.1,j17.2.2.2.2.2.2.2.1.2),j17.2.2.2.2.2.2.2.2.1,j17.2.2.2.2.2.2.2.2.2.1,j17.2.2.2.2.2.2.2.2.2.2.1,())
 else
 some (j17.1,j17.2.1,j17.2.2.1,j17.2.2.2.1,j17.2.2.2.2.1,j17.2.2.2.2.2.1,false,(j17.2.2.2.2.2.2.1.1,j17.2.2.2.2.2.2.1.2),(j17.2.2.2.2.2.2.2.1.1,j17.2.2.2.2.2.2.2.1.2),j17.2.2.2.2.2.2.2.2.1,j17.2.2.2.2.2.2.2.2.2.1,j17.2.2.2.2.2.2.2.2.2.2.1,())
 else
 some (j17.1,j17.2.1,j17.2.2.1,j17.2.2.2.1,j17.2.2.2.2.1,j17.2.2.2.2.2.1,false,(j17.2.2.2.2.2.2.1.1,j17.2.2.2.2.2.2.1.2),(j17.2.2.2.2.2.2.2.1.1,j17.2.2.2.2.2.2.2.1.2),j17.2.2.2.2.2.2.2.2.1,j17.2.2.2.2.2.2.2.2.2.1,j17.2.2.2.2.2.2.2.2.2.2.1,()):Option ((Bool×Int×Bool×(List Yz1)×Int×Int×Bool×(List (Nat×Yz2)×Nat)×Yz4×Yz0×Yz1×Yz0×Unit))).bind fun j19 =>
 bif j19.2.2.2.2.2.2.1 then
 some (Sum.inr (Sum.inr (j19.1,())))
 else
 ((bif (j19.2.1==0) then
 bif j19.2.2.1 then
 bif (j19.2.2.2.2.2.2.2.2.2.2.1.2.2.2.1==0) then
 bif (decide (j19.2.2.2.2.2.2.2.2.2.2.1.2.2.1>0)) then
 bif (decide ((j19.2.2.2.2.2.2.2.2.2.2.2.1.2.2.length:Int)≤15)) then
 some (j19.1,j19.2.1,j19.2.2.1,j19.2.2.2.1,j19.2.2.2.2.1,j19.2.2.2.2.2.1,(decide ((j19.2.2.2.2.2.2.2.2.2.2.2.1.2.1.length:Int)≤3)),(j19.2.2.2.2.2.2.2.1.1,j19.2.2.2.2.2.2.2.1.2),(j19.2.2.2.2.2.2.2.2.1.1,j19.2.2.2.2.2.2.2.2.1.2),j19.2.2.2.2.2.2.2.2.2.1,j19.2.2.2.2.2.2.2.2.2.2.1,j19.2.2.2.2.2.2.2.2.2.2.2.1,())
 else
 some (j19.1,j19.2.1,j19.2.2.1,j19.2.2.2.1,j19.2.2.2.2.1,j19.2.2.2.2.2.1,false,(j19.2.2.2.2.2.2.2.1.1,j19.2.2.2.2.2.2.2.1.2),(j19.2.2.2.2.2.2.2.2.1.1,j19.2.2.2.2.2.2.2.2.1.2),j19.2.2.2.2.2.2.2.2.2.1,j19.2.2.2.2.2.2.2.2.2.2.1,j19.2.2.2.2.2.2.2.2.2.2.2.1,())
 else
 some (j19.1,j19.2.1,j19.2.2.1,j19.2.2.2.1,j19.2.2.2.2.1,j19.2.2.2.2.2.1,false,(j19.2.2.2.2.2.2.2.1.1,j19.2.2.2.2.2.2.2.1.2),(j19.2.2.2.2.2.2.2.2.1.1,j19.2.2.2.2.2.2.2.2.1.2),j19.2.2.2.2.2.2.2.2.2.1,j19.2.2.2.2.2.2.2.2.2.2.1,j19.2.2.2.2.2.2.2.2.2.2.2.1,())
 else
 some (j19.1,j19.2.1,j19.2.2.1,j19.2.2.2.1,j19.2.2.2.2.1,j19.2.2.2.2.2.1,false,(j19.2.2.2.2.2.2.2.1.1,j19.2.2.2.2.2.2.2.1.2),(j19.2.2.2.2.2.2.2.2.1.1,j19.2.2.2.2.2.2.2.2.1.2),j19.2.2.2.2.2.2.2.2.2.1,j19.2.2.2.2.2.2.2.2.2.2.1,j19.2.2.2.2.2.2.2.2.2.2.2.1,())
 else
 some (j19.1,j19.2.1,j19.2.2.1,j19.2.2.2.1,j19.2.2.2.2.1,j19.2.2.2.2.2.1,false,(j19.2.2.2.2.2.2.2.1.1,j19.2.2.2.2.2.2.2.1.2),(j19.2.2.2.2.2.2.2.2.1.1,j19.2.2.2.2.2.2.2.2.1.2),j19.2.2.2.2.2.2.2.2.2.1,j19.2.2.2.2.2.2.2.2.2.2.1,j19.2.2.2.2.2.2.2.2.2.2.2.1,())
 else
 some (j19.1,j19.2.1,j19.2.2.1,j19.2.2.2.1,j19.2.2.2.2.1,j19.2.2.2.2.2.1,false,(j19.2.2.2.2.2.2.2.1.1,j19.2.2.2.2.2.2.2.1.2),(j19.2.2.2.2.2.2.2.2.1.1,j19.2.2.2.2.2.2.2.2.1.2),j19.2.2.2.2.2.2.2.2.2.1,j19.2.2.2.2.2.2.2.2.2.2.1,j19.2.2.2.2.2.2.2.2.2.2.2.1,()):Option ((Bool×Int×Bool×(List Yz1)×Int×Int×Bool×(List (Nat×Yz2)×Nat)×Yz4×Yz0×Yz1×Yz0×Unit))).bind fun j20 =>
 bif j20.2.2.2.2.2.2.1 then
 ((bif (!((l8A (fun b:Int=>j20.2.2.2.2.2.2.2.2.2.2.1.2.1==b) j20.2.2.2.2.2.2.2.1.1).isSome)) then
 some (j20.1,j20.2.1,j20.2.2.2.1,j20.2.2.2.2.1,j20.2.2.2.2.2.1,(j20.2.2.2.2.2.2.2.2.2.2.1.1==1),(j20.2.2.2.2.2.2.2.1.1,j20.2.2.2.2.2.2.2.1.2),(j20.2.2.2.2.2.2.2.2.1.1,j20.2.2.2.2.2.2.2.2.1.2),j20.2.2.2.2.2.2.2.2.2.1,j20.2.2.2.2.2.2.2.2.2.2.1,j20.2.2.2.2.2.2.2.2.2.2.2.1,())
 else
 some (j20.1,j20.2.1,j20.2.2.2.1,j20.2.2.2.2.1,j20.2.2.2.2.2.1,false,(j20.2.2.2.2.2.2.2.1.1,j20.2.2.2.2.2.2.2.1.2),(j20.2.2.2.2.2.2.2.2.1.1,j20.2.2.2.2.2.2.2.2.1.2),j20.2.2.2.2.2.2.2.2.2.1,j20.2.2.2.2.2.2.2.2.2.2.1,j20.2.2.2.2.2.2.2.2.2.2.2.1,()):Option ((Bool×Int×(List Yz1)×Int×Int×Bool×(List (Nat×Yz2)×Nat)×Yz4×Yz0×Yz1×Yz0×Unit))).bind fun j21 =>
 bif j21.2.2.2.2.2.1 then
 some (j21.1,j21.2.1,j21.2.2.1,j21.2.2.2.1,j21.2.2.2.2.1,((z1B (fun b:Int=>j21.2.2.2.2.2.2.2.2.2.1.2.1==b) j21.2.2.2.2.2.2.2.2.2.1.2.1 (0,(0,(0,(0,(0,(0,(j21.2.2.2.2.2.2.2.2.2.2.1.1,([],[])))))))) j21.2.2.2.2.2.2.1.2 j21.2.2.2.2.2.2.1.1),(ckE (fun b:Int=>j21.2.2.2.2.2.2.2.2.2.1.2.1==b) j21.2.2.2.2.2.2.1.2 j21.2.2.2.2.2.2.1.1)),(j21.2.2.2.2.2.2.2.1.1,j21.2.2.2.2.2.2.2.1.2),j21.2.2.2.2.2.2.2.2.1,j21.2.2.2.2.2.2.2.2.2.1,j21.2.2.2.2.2.2.2.2.2.2.1,())
 else
 some (j21.1,j21.2.1,j21.2.2.1,j21.2.2.2.1,j21.2.2.2.2.1,(j21.2.2.2.2.2.2.1.1,j21.2.2.2.2.2.2.1.2),(j21.2.2.2.2.2.2.2.1.1,j21.2.2.2.2.2.2.2.1.2),j21.2.2.2.2.2.2.2.2.1,j21.2.2.2.2.2.2.2.2.2.1,j21.2.2.2.2.2.2.2.2.2.2.1,()):Option ((Bool×Int×(List Yz1)×Int×Int×(List (Nat×Yz2)×Nat)×Yz4×Yz0×Yz1×Yz0×Unit))).bind fun j22 =>
 (bif (l8A (fun b:Int=>j22.2.2.2.2.2.2.2.2.1.2.1==b) j22.2.2.2.2.2.1.1).isSome then
 (v8F j22.2.2.2.2.2.2.2.2.2.1 j22.2.2.2.2.2.2.2.2.1.2.2.1).bind fun y23 =>
 some (j22.1,j22.2.1,j22.2.2.1,j22.2.2.2.1,j22.2.2.2.2.1,y23,(j22.2.2.2.2.2.1.1,j22.2.2.2.2.2.1.2),(j22.2.2.2.2.2.2.1.1,j22.2.2.2.2.2.2.1.2),j22.2.2.2.2.2.2.2.1,j22.2.2.2.2.2.2.2.2.1,j22.2.2.2.2.2.2.2.2.2.1,((l8A (fun b:Int=>j22.2.2.2.2.2.2.2.2.1.2.1==b) j22.2.2.2.2.2.1.1).getD (0,(0,(0,(0,(0,(0,(0,([],[]))))))))),())
 else
 some (j22.1,j22.2.1,j22.2.2.1,j22.2.2.2.1,j22.2.2.2.2.1,false,(j22.2.2.2.2.2.1.1,j22.2.2.2.2.2.1.2),(j22.2.2.2.2.2.2.1.1,j22.2.2.2.2.2.2.1.2),j22.2.2.2.2.2.2.2.1,j22.2.2.2.2.2.2.2.2.1,j22.2.2.2.2.2.2.2.2.2.1,((l8A (fun b:Int=>j22.2.2.2.2.2.2.2.2.1.2.1==b) j22.2.2.2.2.2.1.1).getD (0,(0,(0,(0,(0,(0,(0,([],[]))))))))),()):Option ((Bool×Int×(List Yz1)×Int×Int×Bool×(List (Nat×Yz2)×Nat)×Yz4×Yz0×Yz1×Yz0×Yz3×Unit))).bind fun j24 =>
 bif j24.2.2.2.2.2.1 then
 (bif (!((l8A (fun b:List Int=>[j24.2.2.2.2.2.2.2.2.2.1.2.2.1,j24.2.2.2.2.2.2.2.2.2.1.2.2.2.2.1]==b) j24.2.2.2.2.2.2.2.1.1).getD false)) then
 (v9F j24.2.2.2.2.2.2.2.2.2.2.2.1 j24.2.2.2.2.2.2.2.2.2.1).bind fun y25 =>
 some (j24.1,j24.2.1,j24.2.2.1,j24.2.2.2.1,j24.2.2.2.2.1,((z1B (fun b:Int=>j24.2.2.2.2.2.2.2.2.2.1.2.1==b) j24.2.2.2.2.2.2.2.2.2.1.2.1 y25 j24.2.2.2.2.2.2.1.2 j24.2.2.2.2.2.2.1.1),(ckE (fun b:Int=>j24.2.2.2.2.2.2.2.2.2.1.2.1==b) j24.2.2.2.2.2.2.1.2 j24.2.2.2.2.2.2.1.1)),(j24.2.2.2.2.2.2.2.1.1,j24.2.2.2.2.2.2.2.1.2),j24.2.2.2.2.2.2.2.2.1,j24.2.2.2.2.2.2.2.2.2.1,j24.2.2.2.2.2.2.2.2.2.2.1,())
 else
 some (j24.1,j24.2.1,j24.2.2.1,j24.2.2.2.1,j24.2.2.2.2.1,(j24.2.2.2.2.2.2.1.1,j24.2.2.2.2.2.2.1.2),(j24.2.2.2.2.2.2.2.1.1,j24.2.2.2.2.2.2.2.1.2),j24.2.2.2.2.2.2.2.2.1,j24.2.2.2.2.2.2.2.2.2.1,j24.2.2.2.2.2.2.2.2.2.2.1,()):Option ((Bool×Int×(List Yz1)×Int×Int×(List (Nat×Yz2)×Nat)×Yz4×Yz0×Yz1×Yz0×Unit))).bind fun j26 =>
 some (Sum.inl (j26.1,j26.2.1,j26.2.2.1,j26.2.2.2.1,j26.2.2.2.2.1,(j26.2.2.2.2.2.1.1,j26.2.2.2.2.2.1.2),((z1B (fun b:List Int=>[j26.2.2.2.2.2.2.2.2.1.2.2.1,j26.2.2.2.2.2.2.2.2.1.2.2.2.2.1]==b) [j26.2.2.2.2.2.2.2.2.1.2.2.1,j26.2.2.2.2.2.2.2.2.1.2.2.2.2.1] true j26.2.2.2.2.2.2.1.2 j26.2.2.2.2.2.2.1.1),(ckE (fun b:List Int=>[j26.2.2.2.2.2.2.2.2.1.2.2.1,j26.2.2.2.2.2.2.2.2.1.2.2.2.2.1]==b) j26.2.2.2.2.2.2.1.2 j26.2.2.2.2.2.2.1.1)),j26.2.2.2.2.2.2.2.1,j26.2.2.2.2.2.2.2.2.2.1,()))
 else
 some (Sum.inl (j24.1,j24.2.1,j24.2.2.1,j24.2.2.2.1,j24.2.2.2.2.1,(j24.2.2.2.2.2.2.1.1,j24.2.2.2.2.2.2.1.2),(j24.2.2.2.2.2.2.2.1.1,j24.2.2.2.2.2.2.2.1.2),j24.2.2.2.2.2.2.2.2.1,j24.2.2.2.2.2.2.2.2.2.2.1,()))
 else
 bif j20.2.2.1 then
 some (Sum.inr (j20.1,()))
 else
 some (Sum.inl (j20.1,j20.2.1,j20.2.2.2.1,j20.2.2.2.2.1,j20.2.2.2.2.2.1,(j20.2.2.2.2.2.2.2.1.1,j20.2.2.2.2.2.2.2.1.2),(j20.2.2.2.2.2.2.2.2.1.1,j20.2.2.2.2.2.2.2.2.1.2),j20.2.2.2.2.2.2.2.2.2.1,j20.2.2.2.2.2.2.2.2.2.2.2.1,())):Option ((Bool×Int×(List Yz1)×Int×Int×(List (Nat×Yz2)×Nat)×Yz4×Yz0×Yz0×Unit)⊕(Bool×Unit))).bind fun j27 =>
 (match j27 with
 | .inl j28 =>
 ((bif (j28.2.1==0) then
 some (j28.1,j28.2.2.1,j28.2.2.2.1,j28.2.2.2.2.1,(j28.2.2.2.2.2.1.1,j28.2.2.2.2.2.1.2),(j28.2.2.2.2.2.2.1.1,j28.2.2.2.2.2.2.1.2),j28.2.2.2.2.2.2.2.2.1,())
 else
 some (j28.1,j28.2.2.1,j28.2.2.2.1,j28.2.2.2.2.1,(j28.2.2.2.2.2.1.1,j28.2.2.2.2.2.1.2),(j28.2.2.2.2.2.2.1.1,j28.2.2.2.2.2.2.1.2),j28.2.2.2.2.2.2.2.1,()):Option ((Bool×(List Yz1)×Int×Int×(List (Nat×Yz2)×Nat)×Yz4×Yz0×Unit))).bind fun j30 =>
 ((b0D (fun (p31:Yz4×(Nat×List Nat×Nat)×Unit)=>x9A p31.1.1 p31.2.1.1 p31.2.1.2.1 p31.2.1.2.2) (v2F) ((j30.2.2.2.2.2.1.1,j30.2.2.2.2.2.1.2),(j30.2.2.2.2.2.1.2,[],j30.2.2.2.2.2.1.2),())).bind fun j34 =>
 (match j34 with
 | .inl j35 =>
 (some (j30.1,j30.2.1,j30.2.2.1,j30.2.2.2.1,false,(j30.2.2.2.2.1.1,j30.2.2.2.2.1.2),(j35.1.1,j35.1.2),j30.2.2.2.2.2.2.1,()))
 | .inr j36 =>
 (some (j30.1,j30.2.1,j30.2.2.1,j30.2.2.2.1,j36.1,(j30.2.2.2.2.1.1,j30.2.2.2.2.1.2),(j36.2.1.1,j36.2.1.2),j30.2.2.2.2.2.2.1,()))):Option ((Bool×(List Yz1)×Int×Int×Bool×(List (Nat×Yz2)×Nat)×Yz4×Yz0×Unit))).bind fun j37 =>
 bif j37.2.2.2.2.1 then
 some (Sum.inr (Sum.inr (j37.1,())))
 else
 (b0D (fun (p38:Bool×(List Yz1)×Int×Int×(List (Nat×Yz2)×Nat)×Yz4×Yz0×(Nat×List Nat×Nat)×Unit)=>x9A p38.2.2.2.2.1.1 p38.2.2.2.2.2.2.2.1.1 p38.2.2.2.2.2.2.2.1.2.1 p38.2.2.2.2.2.2.2.1.2.2) (v4F) (j37.1,j37.2.1,j37.2.2.1,j37.2.2.2.1,(j37.2.2.2.2.2.1.1,j37.2.2.2.2.2.1.2),(j37.2.2.2.2.2.2.1.1,j37.2.2.2.2.2.2.1.2),j37.2.2.2.2.2.2.2.1,(j37.2.2.2.2.2.1.2,[],j37.2.2.2.2.2.1.2),())).bind fun j44 =>
 (match j44 with
 | .inl j45 =>
 (some (Sum.inl (j45.1,j45.2.1,j45.2.2.1,(IntKind.i64.wrap (j45.2.2.2.1+1)),(j45.2.2.2.2.1.1,j45.2.2.2.2.1.2),(j45.2.2.2.2.2.1.1,j45.2.2.2.2.2.1.2),j45.2.2.2.2.2.2.1,())))
 | .inr j46 =>
 (some (Sum.inr (Sum.inr (j46.1,()))))))
 | .inr j29 =>
 (some (Sum.inr (Sum.inr (j29.1,()))))))
 | .inr j16 =>
 (some (Sum.inr (Sum.inr (j16.1,())))))
noncomputable def w2F (p4:Bool×(List Yz1)×Int×Int×(List (Nat×Yz2)×Nat)×Yz4×Yz0×Unit):Option ((Bool×(List Yz1)×Int×Int×(List (Nat×Yz2)×Nat)×Yz4×Yz0×Unit)⊕((Bool×(List (Nat×Yz2)×Nat)×Yz0×Unit)⊕(Bool×Unit))):=
 bif (decide (p4.2.2.2.1<p4.2.2.1)) then
 bif (a7A p4.2.2.2.1 p4.2.1.length) then
 (f4C p4.2.2.2.2.2.2.1 (p4.2.1.getD p4.2.2.2.1.toNat (0,(0,(0,(0,(0,(0,(0,(0,(ByteArray.empty,[]))))))))))).bind fun y5 =>
 ((r9C (p4.2.1.getD p4.2.2.2.1.toNat (0,(0,(0,(0,(0,(0,(0,(0,(ByteArray.empty,[]))))))))))).bind fun y6 =>
 bif y6 then
 bif (y5.2.2 != 0) then
 some (Sum.inr (false,()))
 else
 (b0D (fun (p7:Bool×Int×(List Yz1)×Int×Int×(List (Nat×Yz2)×Nat)×Yz4×Yz0×Yz1×Yz0×(Nat×List Nat×Nat)×Unit)=>x9A p7.2.2.2.2.2.1.1 p7.2.2.2.2.2.2.2.2.2.2.1.1 p7.2.2.2.2.2.2.2.2.2.2.1.2.1 p7.2.2.2.2.2.2.2.2.2.2.1.2.2) (w3F) (p4.1,y5.2.2,p4.2.1,p4.2.2.1,p4.2.2.2.1,(p4.2.2.2.2.1.1,p4.2.2.2.2.1.2),(p4.2.2.2.2.2.1.1,p4.2.2.2.2.2.1.2),p4.2.2.2.2.2.2.1,(p4.2.1.getD p4.2.2.2.1.toNat (0,(0,(0,(0,(0,(0,(0,(0,(ByteArray.empty,[])))))))))),y5.1,(p4.2.2.2.2.1.2,[],p4.2.2.2.2.1.2),())).bind fun j11 =>
 (match j11 with
 | .inl j12 =>
 (some (Sum.inl (j12.1,j12.2.1,j12.2.2.1,j12.2.2.2.1,j12.2.2.2.2.1,(j12.2.2.2.2.2.1.1,j12.2.2.2.2.2.1.2),(j12.2.2.2.2.2.2.1.1,j12.2.2.2.2.2.2.1.2),j12.2.2.2.2.2.2.2.1,j12.2.2.2.2.2.2.2.2.1,j12.2.2.2.2.2.2.2.2.2.1,())))
 | .inr j13 =>
 (some (Sum.inr (j13.1,()))))
 else
 some (Sum.inl (p4.1,y5.2.2,p4.2.1,p4.2.2.1,p4.2.2.2.1,(p4.2.2.2.2.1.1,p4.2.2.2.2.1.2),(p4.2.2.2.2.2.1.1,p4.2.2.2.2.2.1.2),p4.2.2.2.2.2.2.1,(p4.2.1.getD p4.2.2.2.1.toNat (0,(0,(0,(0,(0,(0,(0,(0,(ByteArray.empty,[])))))))))),y5.1,())):Option ((Bool×Int×(List Yz1)×Int×Int×(List (Nat×Yz2)×Nat)×Yz4×Yz0×Yz1×Yz0×Unit)⊕(Bool×Unit))).bind fun j14 =>
 Zt j14
 else none
 else
 some (Sum.inr (Sum.inl (p4.1,(p4.2.2.2.2.1.1,p4.2.2.2.2.1.2),p4.2.2.2.2.2.2.1,())))
noncomputable def w7F (a0:List Yz1):Option (Bool):=
 (f0C).bind fun y1 =>
 (f1C a0).bind fun y2 =>
 bif (!y2) then
 some y1
 else
 (u1B).bind fun y3 =>
 (iter (w2F) (y1,a0,(a0.length:Int),0,(([]:List (Nat×Yz2)),0),(([]:List (Nat×(List Int×Bool))),0),y3,())).bind fun j47 =>
 (match j47 with
 | .inl j48 =>
 (bif j48.1 then
 some ((j48.2.1.1.length:Int)==(j48.2.2.1.2.1.length:Int))
 else
 some false)
 | .inr j49 =>
 (some j49.1))
end Go.Sq
