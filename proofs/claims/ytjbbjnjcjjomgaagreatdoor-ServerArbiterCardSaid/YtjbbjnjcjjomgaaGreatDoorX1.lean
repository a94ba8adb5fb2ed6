import Derived.Calls
import Derived.Orders
import Derived.Laws.Sem
import Derived.Laws.World
import Derived.Laws.Cells
import Derived.Laws.Rows
import Derived.Laws.Append
import Derived.Laws.Tables
import Derived.Laws.Slices
import Derived.Great.BuildSlice
import Derived.Laws.StructEq
import Derived.Laws.BytesArg
set_option linter.unusedSimpArgs false
set_option linter.unusedVariables false
set_option linter.unusedSectionVars false
/- short names -/
theorem Aa.{u_1,u_2}:∀ {α : Type u_1} {β : Type u_2} (a : α) (f : α → Option β), Option.bind (some a) f = f a:=by intros;rfl
theorem Ac:∀ (a b : Bool), ((a && b) = true) = (a = true ∧ b = true):=@Bool.and_eq_true
theorem Ae.{u_1}:∀ {c : Prop} {h : Decidable c}, ¬c → ∀ {α : Sort u_1} {t e : α}, (if c then t else e) = e:=@if_neg
theorem Ag:∀ {n m : Nat}, Nat.beq n m = true → n = m:=@Nat.eq_of_beq_eq_true
theorem Ah:∀ {p : Prop} [inst : Decidable p], p → decide p = true:=@decide_eq_true
theorem Ai.{u_1}:∀ {α : Sort u_1} (a b : α), (bif false then a else b) = b:=by intros;rfl
theorem Aj.{u_1}:∀ {c : Prop} {h : Decidable c}, c → ∀ {α : Sort u_1} {t e : α}, (if c then t else e) = t:=@if_pos
theorem Ak.{u_1}:∀ {α : Type u_1} {as bs : List α}, List.length (as ++ bs) = List.length as + List.length bs:=@List.length_append
theorem Al.{u_1}:∀ {α : Sort u_1} (a b : α), (bif true then a else b) = a:=by intros;rfl
theorem Am:∀ {p : Prop} [inst : Decidable p], ¬p → decide p = false:=@decide_eq_false
theorem An.{u_1}:∀ {α : Type u_1} {xs : Array α}, List.length (Array.toList xs) = Array.size xs:=by intros;rfl
theorem Ao:∀ (n : Nat), Int.toNat ↑n = n:=by intros;rfl
theorem Ap.{u_1}:∀ {α : Type u_1} {i : Nat} {l : List α}, List.length (List.take i l) = min i (List.length l):=@List.length_take
theorem Aq.{u_1}:∀ {α : Type u_1} {l : List α} {i : Nat} (h : i < List.length l), l[i]? = some l[i]:=@List.getElem?_eq_getElem
theorem Ar.{u_1}:∀ {α : Type u_1} {i : Nat} {l : List α}, List.length (List.drop i l) = List.length l - i:=@List.length_drop
theorem Au:∀ {p : Prop} [inst : Decidable p], (decide p = true) = p:=@decide_eq_true_eq
theorem Aw:∀ {n m : Nat} (k : Nat), n ≤ m → n * k ≤ m * k:=@Nat.mul_le_mul_right
theorem Ax.{u_1}:∀ {α : Type u_1} {a : α} {l : List α}, a ∈ a :: l:=@List.mem_cons_self
theorem Ay:∀ (n : Nat), n ≤ n:=@Nat.le_refl
theorem Bb.{u_1}:∀ {α : Type u_1} (y : α) {a : α} {l : List α}, a ∈ l → a ∈ y :: l:=@List.mem_cons_of_mem
theorem Bc.{u_1}:∀ {α : Type u_1} (as : List α), as ++ [] = as:=@List.append_nil
theorem Bd.{u_1}:∀ {α : Type u_1} {l₁ l₂ : List α} {i : Nat}, i < List.length l₁ → (l₁ ++ l₂)[i]? = l₁[i]?:=@List.getElem?_append_left
theorem Be.{u_1}:∀ {α : Type u_1} {a : α} {as : List α}, List.length (a :: as) = List.length as + 1:=by intros;rfl
theorem Bf.{u_1}:∀ {α : Type u_1} {b : α} {l : List α} {a : α}, a ∈ b :: l ↔ a = b ∨ a ∈ l:=@List.mem_cons
theorem Bg.{u_1}:∀ {α : Type u_1} [inst : BEq α] [LawfulBEq α] {a b : α}, a ≠ b → (a == b) = false:=@beq_false_of_ne
theorem Bh:∀ (b : Bool), (false && b) = false:=@Bool.false_and
theorem Bi:∀ {n m k : Nat}, n < m → m ≤ k → n < k:=@Nat.lt_of_lt_of_le
theorem Bl.{u_1}:∀ {α : Type u_1} {xs : List α} {i j : Nat}, (List.drop i xs)[j]? = xs[i + j]?:=@List.getElem?_drop
theorem Bn.{u_1}:∀ {α : Type u_1} {i : Nat} {l : List α}, List.length l ≤ i → List.take i l = l:=@List.take_of_length_le
theorem Bo.{u_1}:∀ {α : Type u_1} {a b : α}, a ∈ [b] ↔ a = b:=@List.mem_singleton
theorem Bp.{u_1}:∀ {α : Type u_1} {val val_1 : α}, some val = some val_1 → val = val_1:=@Option.some.inj
theorem Bq.{u_1}:∀ {α : Type u_1} {l : List α} {i : Nat}, List.length l ≤ i → l[i]? = none:=@List.getElem?_eq_none
theorem Br.{u_1}:∀ {α : Type u_1} {l : List α}, List.length l = 0 ↔ l = []:=@List.length_eq_zero_iff
theorem Bt.{u_1}:∀ {α : Type u_1} {l : List α} {i j : Nat}, (List.take i l)[j]? = if j < i then l[j]? else none:=@List.getElem?_take
theorem Bw:∀ (b : Bool), (b && false) = false:=@Bool.and_false
theorem Bx:∀ {n m : Nat}, Nat.ble n m = true → n ≤ m:=@Nat.le_of_ble_eq_true
theorem By.{u_1}:∀ {α : Type u_1} {a : α}, List.length [a] = 1:=by intros;rfl
theorem Bz.{u_1}:∀ {α : Type u_1} (as bs cs : List α), as ++ bs ++ cs = as ++ (bs ++ cs):=@List.append_assoc
theorem Ca:∀ (n m k : Nat), (n + m) * k = n * k + m * k:=@Nat.add_mul
theorem Cb.{u_1}:∀ {α : Type u_1} {i : Nat} {b : α} {xs : Array α}, xs[i]? = some b ↔ ∃ h, xs[i] = b:=@Array.getElem?_eq_some_iff
theorem Cc:(!true) = false:=@Bool.not_true
theorem Cd.{u_1}:∀ {α : Type u_1} {l : List α} {i : Nat} {a : α}, List.getD l i a = Option.getD l[i]? a:=@List.getD_eq_getElem?_getD
theorem Cf:(false = true) = False:=@Bool.false_eq_true
theorem Cg:∀ (n : Nat), n < Nat.succ n:=@Nat.lt_succ_self
theorem Ch:∀ (n : Nat), ¬n < 0:=@Nat.not_lt_zero
theorem Ck.{u_1}:∀ {α : Type u_1} {a : α} {s t : List α}, a ∈ s ++ t ↔ a ∈ s ∨ a ∈ t:=@List.mem_append
theorem Cl.{u_1}:∀ {α : Type u_1} {i : Nat} {a : α} {l : List α}, l[i]? = some a ↔ ∃ h, l[i] = a:=@List.getElem?_eq_some_iff
theorem Cm.{u_1}:∀ {α : Type u_1} (p : α → Bool) (l : List α), List.length (List.filter p l) ≤ List.length l:=@List.length_filter_le
theorem Cn:∀ (a : Nat), Nat.beq a a = true:=@Nat.beq_refl
theorem Co.{u_1}:∀ {α : Type u_1} {a : α} {i : Nat} {l : List α}, (a :: l)[i + 1]? = l[i]?:=by intros;rfl
theorem Cp.{u_1,u_2}:∀ {α : Sort u_1} {β : Sort u_2} {a₁ a₂ : α} (f : α → β), a₁ = a₂ → f a₁ = f a₂:=@congrArg
theorem Cr:(!false) = true:=@Bool.not_false
theorem Cs:∀ (b : Bool), (true && b) = b:=@Bool.true_and
theorem Cv.{u_1}:∀ {α : Type u_1} (as : List α), [] ++ as = as:=by intros;rfl
theorem Cw.{u_1}:∀ {α : Type u_1} [inst : BEq α] [LawfulBEq α] {a b : α}, (a == b) = true ↔ a = b:=@beq_iff_eq
theorem Cy.{u_1}:∀ {α : Type u_1} {as : List α}, Array.size (List.toArray as) = List.length as:=@List.size_toArray
theorem Da.{u_1}:∀ {α : Type u_1} {xs : List α} {i : Nat}, (List.toArray xs)[i]? = xs[i]?:=@List.getElem?_toArray
theorem Db:∀ (a b : Bool), ((a || b) = true) = (a = true ∨ b = true):=@Bool.or_eq_true
theorem Dd.{u_1}:∀ {α : Type u_1} {p : α → Bool} {as : List α} {x : α}, x ∈ List.filter p as ↔ x ∈ as ∧ p x = true:=@List.mem_filter
theorem De:∀ (n : Nat), 0 ≤ n:=@Nat.zero_le
theorem Df:∀ (a : Int), a ≤ a:=@Int.le_refl
theorem Dh:∀ (n m : Nat), n < m ∨ n ≥ m:=@Nat.lt_or_ge
theorem Dj:∀ (n m k : Nat), n + m + k = n + (m + k):=@Nat.add_assoc
theorem Dk:∀ (n : Nat), 0 + n = n:=@Nat.zero_add
theorem Dl:∀ {p : Prop} [inst : Decidable p], decide p = true → p:=@of_decide_eq_true
theorem Dm:∀ {x y n : Nat}, x < 2 ^ n → y < 2 ^ n → x ||| y < 2 ^ n:=@Nat.or_lt_two_pow
theorem Dn.{u_1}:∀ {α : Type u_1} {x : Option α}, Option.isSome x = true ↔ ∃ a, x = some a:=@Option.isSome_iff_exists
theorem Do.{u_1}:∀ {α : Type u_1} {l : List α}, List.drop 0 l = l:=@List.drop_zero
theorem Dq.{u_1}:∀ {α : Type u_1} [inst : BEq α] [ReflBEq α] (a : α), (a == a) = true:=@beq_self_eq_true
theorem Dr.{u_1}:∀ {α : Type u_1} {xs : Array α} {i : Nat}, (Array.toList xs)[i]? = xs[i]?:=@Array.getElem?_toList
theorem Dt.{u_1}:∀ {α : Type u_1} (i : Nat) (l : List α), List.take i l ++ List.drop i l = l:=@List.take_append_drop
theorem Dw:∀ (n m : Nat), Nat.succ n * m = n * m + m:=@Nat.succ_mul
theorem Dx:∀ (n : Nat), n + 0 = n:=by intros;rfl
theorem Dz:∀ {n m k : Nat}, n ≤ m → m ≤ k → n ≤ k:=@Nat.le_trans
theorem Eb:∀ (n : Nat), 0 * n = 0:=@Nat.zero_mul
theorem Ed.{u_1}:∀ {α : Type u_1} {n : Nat} {a : α}, List.length (List.replicate n a) = n:=@List.length_replicate
theorem Ee:∀ {p : Prop} {x : Decidable p}, decide p = false ↔ ¬p:=@decide_eq_false_iff_not
theorem Eg.{u_1}:∀ {α : Type u_1} {i : Nat} {xs : Array α}, Array.size xs ≤ i → xs[i]? = none:=@Array.getElem?_eq_none
theorem Eh:∀ {a b : Nat}, a < b → a < Nat.succ b:=@Nat.lt_succ_of_lt
theorem Ei.{u_1}:∀ {α : Sort u_1} {p : α → Prop} (h : ∃ x, p x), p (Classical.choose h):=@Classical.choose_spec
theorem Ej:∀ (n : Nat), n ≤ Nat.succ n:=@Nat.le_succ
theorem El:∀ {a b : Nat}, a < b → a ≠ b:=@Nat.ne_of_lt
theorem Em.{u_1}:∀ {α : Type u_1} {as : List α} {i : Nat} {a : α}, List.length (List.set as i a) = List.length as:=@List.length_set
theorem Eo:∀ (a b c : Bool), (a && b && c) = (a && (b && c)):=@Bool.and_assoc
theorem Ep.{u_1}:∀ {α : Sort u_1} {x : Decidable True} (t e : α), (if True then t else e) = t:=@if_true
theorem Et.{u_1}:∀ {α : Type u_1} {l : List α} {i j : Nat}, i < j → (List.take j l)[i]? = l[i]?:=@List.getElem?_take_of_lt
theorem Eu.{u_1}:∀ {α : Type u_1} {p : α → Bool} {l : List α}, List.filter p l = l ↔ ∀ (a : α), a ∈ l → p a = true:=@List.filter_eq_self
theorem Ew:∀ (b : Bool), ((!b) = true) = (b = false):=@Bool.not_eq_true'
theorem Fa.{u_1}:∀ {α : Type u_1} {a : α} {l : List α}, (a :: l)[0]? = some a:=by intros;rfl
theorem Fb.{u_1}:∀ {α : Sort u_1} {x : Decidable False} (t e : α), (if False then t else e) = e:=@if_false
theorem Fc:false ≠ true:=@Bool.false_ne_true
theorem Fe.{u_1}:∀ {α : Type u_1} [inst : BEq α] [LawfulBEq α] (a : α), (a != a) = false:=@bne_self_eq_false
theorem Fg:0 < 1:=@Nat.zero_lt_one
theorem Fi:∀ {x y : Bool}, (x || y) = false ↔ x = false ∧ y = false:=@Bool.or_eq_false_iff
namespace Go.Rx
inductive Ty where
 | int (k:IntKind) | bool | str
 | sl (t:Ty)
 | own (t:Ty)
 | unit
 | pair (a b:Ty)
 | arr (n:Nat) (t:Ty)
 deriving DecidableEq
@[reducible] def den:Ty→Type
 | .int _=>Int
 | .bool=>Bool
 | .str=>ByteArray
 | .sl t=>List (den t)
 | .own t=>List (den t)
 | .unit=>Unit
 | .pair a b=>den a×den b
 | .arr _ t=>List (den t)
def a0A:Ty→Nat
 | .unit=>0
 | .pair a b=>a0A a+a0A b
 | .arr n t=>n*a0A t
 | _=>1
def Ty.pure:Ty→Bool
 | .int _ | .bool | .str | .unit=>true
 | .own _=>false
 | .sl t=>t.pure
 | .arr _ t=>t.pure
 | .pair a b=>a.pure&&b.pure
def Ty.scalar:Ty→Bool
 | .unit=>false
 | .pair _ _=>false
 | .arr _ _=>false
 | _=>true
def Ty.okp:Ty→Bool
 | .own t=>t.pure
 | .pair a b=>a.okp&&b.okp
 | t=>t.pure
def c4A:(t:Ty)→den t
 | .int _=>(0:Int)
 | .bool=>false
 | .str=>ByteArray.empty
 | .sl _=>[]
 | .own _=>[]
 | .unit=>()
 | .pair a b=>(c4A a,c4A b)
 | .arr n t=>List.replicate n (c4A t)
structure GW where
 find:Nat→Option ((t:Ty)×den t)
def d1B [Inhabited GW] (g:Nat):Option ((t:Ty)×den t):=(default:GW).find g
inductive AV where
 | top
 | int (k:IntKind) (n:Int)
 | bool (b:Bool)
 | str (s:ByteArray)
 | sl (t:Ty) (l:List (den t))
 | slv (t:Ty) (l:List (den t))
 | nilsl
 | arr (n:Nat) (t:Ty) (l:List (den t))
 | oref (id:Nat) (r:Option (Nat×Nat))
 | ptr (id off:Nat)
 | ptrA (id off n:Nat) (t:Ty) (i sub:Nat)
 | ptrO (id i sub:Nat)
 | ptrR (t:Ty) (l:List (den t)) (i sub:Nat)
 | bsl (id off n:Nat) (t:Ty) (lo len:Nat)
 | yld (l:Nat)
 | gptr (g:Nat)
 | cbox (c:AV)
 | nilp
 | func (f:FuncId) (first caps:List AV)
 | nilf
 | mapr (id:Nat)
 | nilm
 | iface (t:TypeId) (ag:Bool) (cs:List AV)
 | nili
 | agg (cs:List AV)
 | tup (vs:List AV)
instance:Inhabited AV:=⟨.top⟩
def b1A (l:List AV) (i:Nat):AV:=
 match l,i with
 | [],_=>.top
 | a::l,i=>match i with
  | 0=>a
  | i+1=>b1A l i
def g2A (l:List AV) (i:Nat) (v:AV):List AV:=
 match l,i with
 | [],_=>[]
 | a::l,i=>match i with
  | 0=>v::l
  | i+1=>a::g2A l i v
def g3A:List AV→List AV→List AV
 | [],m=>m
 | a::l,m=>a::g3A l m
def x4A:List AV→Nat
 | []=>0
 | _::l=>x4A l+1
def o7A:List AV→AV
 | []=>.top
 | a::_=>a
def p8A (v:AV):Nat→List AV
 | 0=>[]
 | n+1=>v::p8A v n
def d5A {α:Type} (f:α→AV):List α→List AV
 | []=>[]
 | a::l=>f a::d5A f l
def oB {α β:Type} (x:Option α) (f:α→Option β):Option β:=
 match x with
 | some a=>f a
 | none=>none
def oM {α β:Type} (x:Option α) (f:α→β):Option β:=
 match x with
 | some a=>some (f a)
 | none=>none
def d1A:Option (Nat×Nat)→Nat
 | none=>0
 | some p=>p.1
def e9A (n:Nat):Option (Nat×Nat)→Nat
 | none=>n
 | some p=>p.2
def h3A {α:Type} (l:List α):Option (Nat×Nat)→List α
 | none=>l
 | some p=>(l.drop p.1).take p.2
def enc:(t:Ty)→den t→List AV
 | .int k,x=>[.int k x]
 | .bool,x=>[.bool x]
 | .str,x=>[.str x]
 | .sl t,x=>[.sl t x]
 | .own t,x=>[.sl t x]
 | .unit,_=>[]
 | .pair a b,x=>g3A (enc a x.1) (enc b x.2)
 | .arr n t,x=>[.arr n t x]
inductive OC where
 | box (cs:List AV)
 | arr (t:Ty) (l:List (den t))
 | map (es:List (Int×AV))
 | iter (s:ByteArray) (pos:Nat)
 | mp (k v:Bool×Ty) (es:List (Nat×(den k.2×den v.2))) (ck:Nat)
 | mit (m since:Nat) (seen:List Nat) (last:Nat)
 | hol (t:Ty) (l:List (den t)) (g:Nat) (cs:List AV) (far:Bool)
structure St where
 tmps:List AV
 objs:List (Nat×OC)
 next:Nat
def St.put (S:St) (d:Option Nat) (v:AV):St:=
 match d with
 | some d=>{ S with tmps:=g2A S.tmps d v }
 | none=>S
def a1A (id:Nat):List (Nat×OC)→Option OC
 | []=>none
 | (j,o)::r=>bif Nat.beq j id then some o else a1A id r
def a9A (id:Nat) (o:OC):List (Nat×OC)→List (Nat×OC)
 | []=>[(id,o)]
 | (j,p)::r=>bif Nat.beq j id then (id,o)::r else bif Nat.blt id j then (id,o)::(j,p)::r else (j,p)::a9A id o r
def b9A (id:Nat):List (Nat×OC)→List (Nat×OC)
 | []=>[]
 | (j,p)::r=>bif Nat.beq j id then b9A id r else (j,p)::b9A id r
end Go.Rx
namespace Go.Rx
variable [Inhabited GW]
inductive TD where
 | bool | int (k:IntKind) | str
 | ptr (e:TypeId) | sl (e:TypeId) | arr (n:Nat) (e:TypeId) | st (fs:List (Nat×TypeId))
 | map (k e:TypeId)
 | fn
 | other
structure o8A where
 td:TD
 size:Nat
 bytes:Nat
 ty:Option Ty
 zc:List AV
 eq:Bool:=false
 op:Bool:=false   -- of a slice: what is built of one element stays open
 fz:Bool:=false   -- of a slice: what is built of it in a drawn region is not changed any more
abbrev Tab:=List (Nat×o8A)
def d2A (t:TypeId):Tab→Option o8A
 | []=>none
 | (j,i)::r=>bif Nat.beq j t then some i else d2A t r
def TD.isAgg:TD→Bool
 | .arr ..=>true
 | .st ..=>true
 | _=>false
def i0A (T:Tab) (t:TypeId):Option TD:=
 match d2A t T with
 | some i=>some i.td
 | none=>none
def AV.w:AV→Nat
 | .arr n t _=>n*Rx.a0A t
 | _=>1
def o0A:List AV→Nat
 | []=>0
 | c::cs=>c.w+o0A cs
def r0B:List AV→Nat→Option (List AV)
 | [],n=>bif Nat.beq n 0 then some [] else none
 | c::cs,n=>bif Nat.beq n 0 then some (c::cs) else bif Nat.ble c.w n then r0B cs (n - c.w) else none
def r1B:List AV→Nat→Option (List AV)
 | [],n=>bif Nat.beq n 0 then some [] else none
 | c::cs,n=>bif Nat.beq n 0 then some [] else bif Nat.ble c.w n then oM (r1B cs (n - c.w)) (c::·) else none
def cut (cs:List AV) (off n:Nat):Option (List AV):=oB (r0B cs off) fun r=>r1B r n
def d2B (cs:List AV) (off:Nat) (new:List AV):Option (List AV):=
 oB (r1B cs off) fun a=>oM (r0B cs (off+o0A new)) fun b=>g3A a (g3A new b)
def k3A:AV→Option (List AV)
 | .agg cs=>some cs
 | .tup _=>none
 | .top=>none
 | .arr ..=>none
 | v=>some [v]
def l8B (agg:Bool) (cs:List AV):Option AV:=
 match agg,cs with
 | true,cs=>some (.agg cs)
 | false,[.arr ..]=>none
 | false,[c]=>some c
 | _,_=>none
abbrev Objs:=List (Nat×OC)
def j1A (t' t:Ty) (l:List (den t')):Option (List (den t)):=if h:t'=t then some (h▸l) else none
def p9A (t:Ty) (objs:Objs) (id:Nat) (rg:Option (Nat×Nat)):Option (List (den t)×Objs):=
 match a1A id objs with
 | some (.arr t' l)=>oM (j1A t' t l) fun l=>(h3A l rg,b9A id objs)
 | _=>none
def m8A {α:Type} (f:List AV→Objs→Option (α×List AV×Objs)):Nat→List AV→Objs→Option (List α×List AV×Objs)
 | 0,cs,objs=>some ([],cs,objs)
 | n+1,cs,objs=>match f cs objs with
  | some (x,cs,objs)=>match m8A f n cs objs with
   | some (xs,cs,objs)=>some (x::xs,cs,objs)
   | none=>none
  | none=>none
def b2A:(t:Ty)→List AV→Objs→Option (den t×List AV×Objs)
 | .int k,cs,objs=>match cs with
  | .int k' n::r=>if k'=k then some (n,r,objs) else none
  | _=>none
 | .bool,cs,objs=>match cs with
  | .bool b::r=>some (b,r,objs)
  | _=>none
 | .str,cs,objs=>match cs with
  | .str s::r=>some (s,r,objs)
  | _=>none
 | .sl t,cs,objs=>match cs with
  | .sl t' l::r=>oM (j1A t' t l) fun l=>(l,r,objs)
  | .nilsl::r=>some ([],r,objs)
  | .oref id rg::r=>oM (p9A t objs id rg) fun x=>(x.1,r,x.2)
  | _=>none
 | .own t,cs,objs=>match cs with
  | .nilsl::r=>some ([],r,objs)
  | .oref id rg::r=>oM (p9A t objs id rg) fun x=>(x.1,r,x.2)
  | _=>none
 | .unit,cs,objs=>some ((),cs,objs)
 | .pair a b,cs,objs=>match b2A a cs objs with
  | some (x,cs,objs)=>match b2A b cs objs with
   | some (y,cs,objs)=>some ((x,y),cs,objs)
   | none=>none
  | none=>none
 | .arr n t,cs,objs=>match cs with
  | .arr n' t' l::r=>if n'=n then oM (j1A t' t l) fun l=>(l,r,objs) else none
  | cs=>m8A (b2A t) n cs objs
def j6A (t:Ty) (v:AV) (objs:Objs):Option (den t×Objs):=
 match k3A v with
 | some cs=>match b2A t cs objs with
  | some (x,[],objs)=>some (x,objs)
  | _=>none
 | none=>none
structure Mem where
 objs:Objs
 next:Nat
def a8A:(t:Ty)→den t→Mem→List AV×Mem
 | .int k,x,m=>([.int k x],m)
 | .bool,x,m=>([.bool x],m)
 | .str,x,m=>([.str x],m)
 | .sl t,x,m=>([.sl t x],m)
 | .own t,x,m=>([.oref m.next none],⟨a9A m.next (.arr t x) m.objs,m.next+1⟩)
 | .unit,_,m=>([],m)
 | .pair a b,x,m=>(g3A (a8A a x.1 m).1 (a8A b x.2 (a8A a x.1 m).2).1,(a8A b x.2 (a8A a x.1 m).2).2)
 | .arr n t,x,m=>([.arr n t x],m)
def x5A:Value→AV
 | .bool b=>.bool b
 | .int k n=>.int k n
 | .string s=>.str s
 | .pointer none=>.nilp
 | .slice none 0 0=>.nilsl
 | .nilFunc=>.nilf
 | .map none=>.nilm
 | .nilIface=>.nili
 | _=>.top
def l9B:List AV→Bool
 | []=>true
 | .top::_=>false
 | _::l=>l9B l
def lit:Value→AV
 | .agg cs=>bif l9B (d5A x5A cs.toList) then .agg (d5A x5A cs.toList) else .top
 | v=>x5A v
def ev (S:St):Operand→AV
 | .tmp t=>b1A S.tmps t
 | .const v=>lit v
 | .global g=>.gptr g
 | .func f=>.func f [] []
def f1A (S:St):List (Nat×Operand)→List (Nat×AV)
 | []=>[]
 | p::l=>(p.1,ev S p.2)::f1A S l
def m0B:List (Nat×AV)→Nat
 | []=>0
 | _::l=>m0B l+1
def r2B:List (Nat×TypeId)→Nat→Option (Nat×TypeId)
 | [],_=>none
 | f::l,i=>match i with
  | 0=>some f
  | i+1=>r2B l i
def x7C:List AV→Nat→Option AV
 | [],_=>none
 | f::l,i=>match i with
  | 0=>some f
  | i+1=>x7C l i
inductive VR where
 | no
 | val (v:AV)
 | gval (b:Bool) (v:AV)
def g5B:Option AV→VR
 | some v=>.val v
 | none=>.no
def i5A (op:BinOp) (k:IntKind) (x y:Int):Int:=
 match op with
 | .and=>k.wrap (BitVec.ofInt k.bits x&&&BitVec.ofInt k.bits y).toNat
 | .or=>k.wrap (BitVec.ofInt k.bits x|||BitVec.ofInt k.bits y).toNat
 | .xor=>k.wrap (BitVec.ofInt k.bits x ^^^ BitVec.ofInt k.bits y).toNat
 | _=>k.wrap (BitVec.ofInt k.bits x &&& ~~~ BitVec.ofInt k.bits y).toNat
def l4A (k:IntKind) (x y:Int):Int:=k.wrap (x*2 ^ min y.toNat k.bits)
def g4A (k:IntKind) (x y:Int):Int:=x.fdiv (2 ^ min y.toNat k.bits)
def x8C (op:BinOp) (k:IntKind) (a b:Int):VR:=
 match op with
 | .add=>.val (.int k (k.wrap (a+b)))
 | .sub=>.val (.int k (k.wrap (a - b)))
 | .mul=>.val (.int k (k.wrap (a*b)))
 | .quo=>.gval (b != 0) (.int k (k.wrap (a.tdiv b)))
 | .rem=>.gval (b != 0) (.int k (a.tmod b))
 | .and=>.val (.int k (i5A .and k a b))
 | .or=>.val (.int k (i5A .or k a b))
 | .xor=>.val (.int k (i5A .xor k a b))
 | .andNot=>.val (.int k (i5A .andNot k a b))
 | .eql=>.val (.bool (a==b))
 | .neq=>.val (.bool (a != b))
 | .lss=>.val (.bool (decide (a<b)))
 | .leq=>.val (.bool (decide (a≤b)))
 | .gtr=>.val (.bool (decide (a>b)))
 | .geq=>.val (.bool (decide (a≥b)))
 | .shl | .shr=>.no
def p3B (x y:ByteArray):Bool:=x.toList==y.toList
def r3B (T:Tab) (t:TypeId):Bool:=
 match d2A t T with
 | some i=>match i.td with
  | .bool=>true
  | _=>false
 | none=>false
def z8A (T:Tab) (t:TypeId):Bool:=
 match d2A t T with
 | some i=>match i.td with
  | .sl _=>true
  | _=>false
 | none=>false
def z9A (T:Tab) (t:TypeId):Bool:=
 match d2A t T with
 | some i=>match i.td with
  | .fn=>true
  | _=>false
 | none=>false
def i3C (T:Tab) (eq:TypeId→List AV→List AV→Option Bool) (xs ys:List AV):List (Nat×TypeId)→Option Bool
 | []=>some true
 | f::fs=>match d2A f.2 T with
  | some i=>match cut xs f.1 i.size,cut ys f.1 i.size with
   | some a,some b=>match eq f.2 a b with
    | some r=>match i3C T eq xs ys fs with
     | some s=>some (r&&s)
     | none=>none
    | none=>none
   | _,_=>none
  | none=>none
def i4C (T:Tab) (e:TypeId):Bool:=
 match d2A e T with
 | some i=>match i.td with
  | .int _=>Nat.beq i.size 1
  | _=>false
 | none=>false
def eqC (T:Tab):Nat→TypeId→List AV→List AV→Option Bool
 | 0,_,_,_=>none
 | d+1,t,xs,ys=>match d2A t T with
  | none=>none
  | some i=>match i.td,xs,ys with
   | .bool,[.bool a],[.bool b]=>some (a==b)
   | .int _,[.int k a],[.int k' b]=>if k=k' then some (a==b) else none
   | .str,[.str a],[.str b]=>some (p3B a b)
   | .arr n e,[.arr n1 (.int k1) l1],[.arr n2 (.int k2) l2]=>if n1=n∧n2=n∧k1=k2∧i4C T e=true then some (l1==l2) else none
   | .st fs,xs,ys=>bif i.eq then i3C T (eqC T d) xs ys fs else none
   | _,_,_=>none
def i5C (T:Tab) (t:TypeId) (xs ys:List AV):Option Bool:=
 match d2A t T with
 | some i=>bif i.eq&&i.td.isAgg then eqC T 8 t xs ys else none
 | none=>none
def x9C (T:Tab) (t:TypeId) (op:BinOp) (x y:AV):VR:=
 match op,x,y with
 | .shl,.int k a,.int _ b=>.gval (decide (0≤b)) (.int k (l4A k a b))
 | .shr,.int k a,.int _ b=>.gval (decide (0≤b)) (.int k (g4A k a b))
 | op,.int k a,.int k' b=>if k=k' then x8C op k a b else .no
 | .add,.str a,.str b=>.gval (decide (((a.size+b.size:Nat):Int)≤IntKind.i64.max)) (.str (a++b))
 | .eql,.str a,.str b=>.val (.bool (p3B a b))
 | .neq,.str a,.str b=>.val (.bool (!p3B a b))
 | .eql,.bool a,.bool b=>bif r3B T t then .val (.bool (a==b)) else .no
 | .neq,.bool a,.bool b=>bif r3B T t then .val (.bool (!(a==b))) else .no
 | .eql,.slv _ _,.nilsl=>bif z8A T t then .val (.bool false) else .no
 | .neq,.slv _ _,.nilsl=>bif z8A T t then .val (.bool true) else .no
 | .eql,.nilsl,.nilsl=>bif z8A T t then .val (.bool true) else .no
 | .neq,.nilsl,.nilsl=>bif z8A T t then .val (.bool false) else .no
 | .eql,.func _ _ _,.nilf=>bif z9A T t then .val (.bool false) else .no
 | .neq,.func _ _ _,.nilf=>bif z9A T t then .val (.bool true) else .no
 | .eql,.nilf,.nilf=>bif z9A T t then .val (.bool true) else .no
 | .neq,.nilf,.nilf=>bif z9A T t then .val (.bool false) else .no
 | .eql,.agg xs,.agg ys=>g5B (oM (i5C T t xs ys) .bool)
 | .neq,.agg xs,.agg ys=>g5B (oM (i5C T t xs ys) fun b=>.bool (!b))
 | _,_,_=>.no
def i6A:AV→Bool
 | .top=>false
 | .arr ..=>false
 | .agg _=>false
 | .tup _=>false
 | _=>true
def x6A:List AV→Bool
 | []=>true
 | a::l=>i6A a&&x6A l
def unV (op:UnOp) (x:AV):VR:=
 match op,x with
 | .neg,.int k n=>.val (.int k (k.wrap (0 - n)))
 | .xor,.int k n=>.val (.int k (i5A .xor k (if k.signed then -1 else k.max) n))
 | .not,.bool b=>.val (.bool (!b))
 | _,_=>.no
def y0C (c:Bool) (a b:AV):VR:=
 match a,b with
 | .bool a,.bool b=>.val (.bool (bif c then a else b))
 | .int k a,.int k' b=>if k=k' then .val (.int k (bif c then a else b)) else .no
 | a,b=>match c with
  | true=>.val a
  | false=>.val b
def y1C (c a b:AV):VR:=
 match c with
 | .bool c=>y0C c a b
 | _=>.no
def a7A (i:Int) (n:Nat):Bool:=decide (0≤i)&&decide (i<(n:Int))
def p2D (b:Bool):Option AV→VR
 | some v=>.gval b v
 | none=>.no
def m1B (cs:List AV) (off n:Nat) (ty:Ty):Option (List (den ty)):=
 match cut cs off (n*a0A ty) with
 | some [.arr n' ty' l]=>bif Nat.beq n' n then j1A ty' ty l else none
 | _=>none
def r3A (i:o8A) (cs:List AV) (off:Nat):VR:=g5B (oB (cut cs off i.size) (l8B i.td.isAgg))
def gV (b:Bool):VR→VR
 | .val v=>.gval b v
 | _=>.no
def y6B (T:Tab) (S:St) (t:TypeId) (a:AV):VR:=
 match d2A t T with
 | none=>.no
 | some i =>
  match a with
  | .ptr id off=>match a1A id S.objs with
   | some (.box cs)=>r3A i cs off
   | _=>.no
  | .ptrA id off n ty k sub=>match a1A id S.objs with
   | some (.box cs)=>match m1B cs off n ty with
    | some l=>r3A i (enc ty (l.getD k (c4A ty))) sub
    | none=>.no
   | _=>.no
  | .ptrO id k sub=>match a1A id S.objs with
   | some (.arr ty l)=>r3A i (enc ty (l.getD k (c4A ty))) sub
   | some (.hol ty l g cs far)=>match far with
    | false=>gV (Nat.beq k g) (r3A i cs sub)
    | true=>gV (!Nat.beq k g) (r3A i (enc ty (l.getD k (c4A ty))) sub)
   | _=>.no
  | .ptrR ty l k sub=>r3A i (enc ty (l.getD k (c4A ty))) sub
  | .gptr g=>match d1B g with
   | some x=>r3A i (enc x.1 x.2) 0
   | none=>.no
  | .cbox c=>r3A i [c] 0
  | _=>.no
def y2C (T:Tab) (t:TypeId) (a:AV) (f:Nat):VR:=
 match i0A T t with
 | some (.st fs)=>match r2B fs f with
  | some (o,ft)=>match d2A ft T with
   | some fi=>bif Nat.beq fi.size 0 then .no else match a with
    | .ptr id off=>.val (.ptr id (off+o))
    | .ptrA id off n ty k sub=>.val (.ptrA id off n ty k (sub+o))
    | .ptrO id k sub=>.val (.ptrO id k (sub+o))
    | .ptrR ty l k sub=>.val (.ptrR ty l k (sub+o))
    | .gptr g=>match d1B g with
     | some x=>.val (.ptrR x.1 [x.2] 0 o)
     | none=>.no
    | _=>.no
   | none=>.no
  | none=>.no
 | _=>.no
def y3C (T:Tab) (t:TypeId) (x:AV) (f:Nat):VR:=
 match i0A T t,x with
 | some (.st fs),.agg cs=>match r2B fs f with
  | some (o,ft)=>match d2A ft T with
   | some fi=>r3A fi cs o
   | none=>.no
  | none=>.no
 | _,_=>.no
def o9A (T:Tab) (e:TypeId) (ty:Ty):Bool:=
 match d2A e T with
 | some i=>Nat.beq i.size (a0A ty)
 | none=>false
def y7B (T:Tab) (S:St) (e:TypeId) (id:Nat):Option Nat:=
 match a1A id S.objs with
 | some (.arr ty l)=>bif o9A T e ty then some l.length else none
 | some (.hol ty l _ _ _)=>bif o9A T e ty then some l.length else none
 | _=>none
def i6C:Option (Nat×Nat)→Nat→Nat
 | none,i=>i
 | some p,i=>p.1+i
def y4C (T:Tab) (S:St) (t:TypeId) (x:AV) (ix:AV):VR:=
 match i0A T t,x,ix with
 | some (.arr n e),.ptr id off,.int _ i=>match d2A e T,a1A id S.objs with
  | some ei,some (.box cs)=>match cut cs off (n*ei.size) with
   | some [.arr _ ty _]=>bif Nat.beq ei.size (a0A ty) then .gval (a7A i n) (.ptrA id off n ty i.toNat 0) else .no
   | _=>.no
  | _,_=>.no
 | some (.arr n e),.gptr g,.int _ i=>match d1B g with
  | some ⟨.arr n' ty,l⟩=>bif Nat.beq n' n&&o9A T e ty then .gval (a7A i n) (.ptrR ty l i.toNat 0) else .no
  | _=>.no
 | some (.sl e),.sl ty l,.int _ i=>bif o9A T e ty then .gval (a7A i l.length) (.ptrR ty l i.toNat 0) else .no
 | some (.sl e),.oref id rg,.int _ i=>match y7B T S e id with
  | some n=>.gval (a7A i (e9A n rg)) (.ptrO id (i6C rg i.toNat) 0)
  | none=>.no
 | some (.sl e),.bsl id off n ty lo len,.int _ i=>bif o9A T e ty then .gval (a7A i len) (.ptrA id off n ty (i.toNat+lo) 0) else .no
 | _,_,_=>.no
def y5C (T:Tab) (t:TypeId) (x:AV) (ix:AV):VR:=
 match i0A T t,x,ix with
 | some (.arr n e),.agg [.arr n' ty l],.int _ i=>match d2A e T with
  | some ei=>bif Nat.beq n' n&&Nat.beq ei.size (a0A ty) then p2D (a7A i n) (l8B ei.td.isAgg (enc ty (l.getD i.toNat (c4A ty)))) else .no
  | none=>.no
 | some .str,.str s,.int _ i=>.gval (a7A i s.size) (.int .u8 ((s.data.getD i.toNat 0).toNat:Int))
 | some (.arr n e),.agg cs,.int _ i=>match d2A e T with
  | some ei=>match r3A ei cs (i.toNat*ei.size) with
   | .val v=>.gval (a7A i n) v
   | _=>.no
  | none=>.no
 | _,_,_=>.no
def loB (S:St):Option Operand→Option Int
 | none=>some 0
 | some x=>match ev S x with
  | .int _ i=>some i
  | _=>none
def hiB (S:St) (len:Nat):Option Operand→Option Int
 | none=>some (len:Int)
 | some x=>match ev S x with
  | .int _ i=>some i
  | _=>none
def f3A (lo hi:Int) (len:Nat):Bool:=decide (0≤lo)&&decide (lo≤hi)&&decide (hi≤(len:Int))
def y6C (T:Tab) (S:St) (t:TypeId) (x:AV) (lo hi:Option Operand):VR:=
 match i0A T t,x with
 | some .str,.str s=>match loB S lo,hiB S s.size hi with
  | some l,some h=>.gval (f3A l h s.size) (.str (s.extract l.toNat h.toNat))
  | _,_=>.no
 | some (.sl e),.sl ty xs=>match loB S lo,hiB S xs.length hi with
  | some l,some h=>bif o9A T e ty then .gval (f3A l h xs.length) (.sl ty ((xs.take h.toNat).drop l.toNat)) else .no
  | _,_=>.no
 | some (.sl e),.oref id rg=>match y7B T S e id with
  | some n=>match loB S lo,hiB S (e9A n rg) hi with
   | some l,some h=>.gval (f3A l h (e9A n rg)) (.oref id (some (i6C rg l.toNat,h.toNat - l.toNat)))
   | _,_=>.no
  | none=>.no
 | some (.arr n e),.ptr id off=>match a1A id S.objs,d2A e T with
  | some (.box cs),some ei=>match cut cs off (n*ei.size) with
   | some [.arr n' ty _]=>match loB S lo,hiB S n hi with
    | some l,some h=>bif Nat.beq n' n&&Nat.beq ei.size (a0A ty) then .gval (f3A l h n) (.bsl id off n ty l.toNat (h.toNat - l.toNat)) else .no
    | _,_=>.no
   | _=>.no
  | _,_=>.no
 | _,_=>.no
def y7C (T:Tab) (S:St) (t:TypeId) (x:AV):VR:=
 match i0A T t,x with
 | some .str,.str s=>.val (.int .i64 (s.size:Int))
 | some (.sl _),.sl _ l=>.val (.int .i64 (l.length:Int))
 | some (.sl _),.nilsl=>.val (.int .i64 0)
 | some (.sl _),.bsl _ _ _ _ _ len=>.val (.int .i64 (len:Int))
 | some (.sl e),.oref id rg=>match y7B T S e id with
  | some n=>.val (.int .i64 (e9A n rg:Nat))
  | none=>.no
 | some (.arr n _),_=>.val (.int .i64 (n:Int))
 | some (.map _ _),.mapr id=>match a1A id S.objs with
  | some (.mp _ _ es _)=>.val (.int .i64 (es.length:Int))
  | _=>.no
 | _,_=>.no
def y8B (mx:Bool):AV→List AV→VR
 | x,[]=>.val x
 | .int k a,.int k' b::r=>if k=k' then y8B mx (.int k (bif mx then (if a<b then b else a) else (if b<a then b else a))) r else .no
 | _,_=>.no
def y9B (place:Nat→Option (Nat×Nat)) (cs:List AV):List (Nat×AV)→Option (List AV)
 | []=>some cs
 | (i,v)::rest=>match place i,k3A v with
  | some (off,size),some new=>bif Nat.beq (o0A new) size then oB (d2B cs off new) fun cs=>y9B place cs rest else none
  | _,_=>none
def y8C:(t:Ty)→AV→Option (den t)
 | .int k,.int k' n=>if k'=k then some n else none
 | .bool,.bool b=>some b
 | .str,.str s=>some s
 | _,_=>none
def i7C (t:Ty) (l:List (den t)):List (Nat×AV)→Option (List (den t))
 | []=>some l
 | (i,v)::r=>bif Nat.blt i l.length then (match y8C t v with
  | some x=>i7C t (l.set i x) r
  | none=>none) else none
def y9C (T:Tab) (t:TypeId) (parts:List (Nat×AV)):VR:=
 match d2A t T with
 | some i=>match i.td with
  | .st fs=>g5B (oM (y9B (fun j=>oB (r2B fs j) fun f=>oM (d2A f.2 T) fun fi=>(f.1,fi.size)) i.zc parts) .agg)
  | .arr n e=>match i.zc with
   | [.arr n' ty l]=>bif Nat.beq n' n&&o9A T e ty then g5B (oM (i7C ty l parts) fun l=>.agg [.arr n ty l]) else .no
   | _=>match d2A e T with
    | some ei=>g5B (oM (y9B (fun j=>some (j*ei.size,ei.size)) i.zc parts) .agg)
    | none=>.no
  | _=>.no
 | none=>.no
def i8C (l:List Int):ByteArray:=⟨(l.map fun n=>UInt8.ofNat n.toNat).toArray⟩
def g6B (T:Tab) (e:TypeId):Bool:=
 match i0A T e with
 | some (.int .u8)=>true
 | _=>false
def z0C (T:Tab) (S:St) (src dst:TypeId) (x:AV):VR:=
 match d2A src T,d2A dst T with
 | some i,some j=>match i.td,j.td,x with
  | _,.int k,.int _ n=>.val (.int k (k.wrap n))
  | .str,.str,.str s=>.val (.str s)
  | .int _,.str,.int _ n=>.val (.str (Utf8.encode n))
  | .sl e,.str,.sl (.int .u8) l=>bif g6B T e then .val (.str (i8C l)) else .no
  | .sl e,.str,.nilsl=>bif g6B T e then .val (.str (i8C [])) else .no
  | .sl e,.str,.oref id rg=>match a1A id S.objs with
   | some (.arr (.int .u8) l)=>bif g6B T e then .val (.str (i8C (h3A l rg))) else .no
   | _=>.no
  | _,_,_=>.no
 | _,_=>.no
def z1C (f:FuncId) (first caps:List AV):VR:=bif x6A first&&x6A caps then .val (.func f first caps) else .no
def o1A (agg:Bool):AV→Bool
 | .agg _=>agg
 | _=>!agg
def f0A:(t:Ty)→den t→den t→Bool
 | .int _,a,b=>(a:Int)==b
 | .arr _ (.int _),a,b=>(a:List Int)==b
 | _,_,_=>false
def l8A {A V:Type} (eq:A→Bool):List (Nat×(A×V))→Option V
 | []=>none
 | p::es=>bif eq p.2.1 then some p.2.2 else l8A eq es
def i9C {A V:Type} (eq:A→Bool) (x:V):List (Nat×(A×V))→List (Nat×(A×V))
 | []=>[]
 | p::es=>bif eq p.2.1 then (p.1,(p.2.1,x))::es else p::i9C eq x es
def m2B {A V:Type} (eq:A→Bool) (ck:Nat):List (Nat×(A×V))→Nat
 | []=>ck
 | p::es=>bif eq p.2.1 then p.1 else m2B eq ck es
def d3B {A V:Type} (eq:A→Bool):List (Nat×(A×V))→List (Nat×(A×V))
 | []=>[]
 | p::es=>bif eq p.2.1 then es else p::d3B eq es
def z0B {A V:Type} (n:Int) (x:V):List (Nat×(A×V))→List (Nat×(A×V))
 | []=>[]
 | p::es=>bif ((p.1:Nat):Int)==n then (p.1,(p.2.1,x))::es else p::z0B n x es
def hasB {A V:Type} (n:Int):List (Nat×(A×V))→Bool
 | []=>false
 | p::es=>((p.1:Nat):Int)==n||hasB n es
def z1B {A V:Type} (eq:A→Bool) (k:A) (x:V) (ck:Nat) (es:List (Nat×(A×V))):List (Nat×(A×V)):=
 bif (l8A eq es).isSome then i9C eq x es else es++[(ck,(k,x))]
def z2B {A V:Type} (eq:A→Bool) (k:A) (x:V) (ck:Nat) (es:List (Nat×(A×V))):List (Nat×(A×V)):=
 bif (l8A eq es).isSome then es else es++[(ck,(k,x))]
def ckE {A V:Type} (eq:A→Bool) (ck:Nat) (es:List (Nat×(A×V))):Nat:=bif (l8A eq es).isSome then ck else ck+1
def m3B (T:Tab) (td:TD) (t:Ty):Bool:=
 match td,t with
 | .int k,.int k'=>decide (k=k')
 | .arr n e,.arr n' (.int _)=>Nat.beq n n'&&i4C T e
 | _,_=>false
def z2C (T:Tab) (t:TypeId):Option ((Bool×Ty)×(Bool×Ty)):=
 match i0A T t with
 | some (.map kt et)=>match d2A kt T,d2A et T with
  | some ki,some ei=>match ki.ty,ei.ty with
   | some tk,some tv=>bif m3B T ki.td tk&&(tv.pure&&(ei.td.isAgg||tv.scalar)) then some ((ki.td.isAgg,tk),(ei.td.isAgg,tv)) else none
   | _,_=>none
  | _,_=>none
 | _=>none
def u1A (T:Tab) (t:TypeId) (k v:Bool×Ty):Bool:=
 match z2C T t with
 | some p=>decide (p.1=k)&&decide (p.2=v)
 | none=>false
def j0C (t:Bool×Ty) (v:AV) (objs:Objs):Option (den t.2×Objs):=bif o1A t.1 v then j6A t.2 v objs else none
def z3B (t:Bool×Ty) (v:AV):Option (den t.2):=
 match t,v with
 | (false,.int k),.int k' n=>if k'=k then some n else none
 | (true,.arr n t),.agg [.arr n' t' l]=>if n'=n then j1A t' t l else none
 | _,_=>none
def a0B (t:Bool×Ty) (x:den t.2):AV:=if t.1 then .agg (enc t.2 x) else o7A (enc t.2 x)
def z3C (T:Tab) (S:St) (t:TypeId) (ok:Bool) (m k:AV):VR:=
 match m with
 | .mapr id=>match a1A id S.objs with
  | some (.mp kt vt es _)=>bif u1A T t kt vt then (match z3B kt k with
   | some x=>match ok with
    | true=>.val (.tup [a0B vt ((l8A (f0A kt.2 x) es).getD (c4A vt.2)),.bool (l8A (f0A kt.2 x) es).isSome])
    | false=>.val (a0B vt ((l8A (f0A kt.2 x) es).getD (c4A vt.2)))
   | none=>.no) else .no
  | _=>.no
 | _=>.no
def r4B {A V:Type} (n:Nat):List (Nat×(A×V))→Option (A×V)
 | []=>none
 | p::es=>bif Nat.beq p.1 n then some p.2 else r4B n es
def z4C (S:St) (it:AV):VR:=
 match it with
 | .ptr id off=>match off with
  | 0=>match a1A id S.objs with
   | some (.mit m _ seen last)=>match a1A m S.objs with
    | some (.mp kt vt es ck)=>bif (kt.2.pure&&(kt.1||kt.2.scalar))&&(vt.2.pure&&(vt.1||vt.2.scalar)) then
      .gval (Nat.beq ck last&&(!seen.isEmpty&&(r4B (seen.getLastD 0) es).isSome)) (.tup [a0B kt ((r4B (seen.getLastD 0) es).getD (c4A kt.2,c4A vt.2)).1,a0B vt ((r4B (seen.getLastD 0) es).getD (c4A kt.2,c4A vt.2)).2]) else .no
    | _=>.no
   | _=>.no
  | _=>.no
 | _=>.no
def r5B (T:Tab) (t:TypeId):Bool:=
 match i0A T t with
 | some .other=>false
 | some _=>true
 | none=>false
def z5C (T:Tab) (t:TypeId) (x:AV):VR:=
 bif r5B T t then (match x with
  | .agg cs=>bif x6A cs then .val (.iface t true cs) else .no
  | x=>bif i6A x then .val (.iface t false [x]) else .no) else .no
def unI (ag:Bool) (cs:List AV):AV:=
 match ag with
 | true=>.agg cs
 | false=>o7A cs
def z6C (T:Tab) (t:TypeId):Option AV:=
 match d2A t T with
 | some i=>l8B i.td.isAgg i.zc
 | none=>none
def j1C (T:Tab) (t:TypeId) (ok:Bool):VR:=
 match ok,z6C T t with
 | true,some z=>.val (.tup [z,.bool false])
 | _,_=>.no
def z7C (T:Tab) (t:TypeId) (ok:Bool) (x:AV):VR:=
 bif r5B T t then (match x with
  | .iface u ag cs=>bif Nat.beq u t then (match ok with
    | true=>.val (.tup [unI ag cs,.bool true])
    | false=>.val (unI ag cs)) else j1C T t ok
  | .nili=>j1C T t ok
  | _=>.no) else .no
def m9A (T:Tab) (S:St) (op:Op):VR:=
 match op with
 | .move x=>.val (ev S x)
 | .assign x=>.val (ev S x)
 | .pick c a b=>y1C (ev S c) (ev S a) (ev S b)
 | .build t parts=>y9C T t (f1A S parts.toList)
 | .load t a=>y6B T S t (ev S a)
 | .nilCheck x=>match ev S x with
  | .ptr id off=>.val (.ptr id off)
  | .ptrA id off n ty k sub=>.val (.ptrA id off n ty k sub)
  | .ptrO id k sub=>.val (.ptrO id k sub)
  | .ptrR ty l k sub=>.val (.ptrR ty l k sub)
  | .gptr g=>.val (.gptr g)
  | .cbox c=>.val (.cbox c)
  | .func f a b=>.val (.func f a b)
  | _=>.no
 | .binOp op t x y _=>x9C T t op (ev S x) (ev S y)
 | .unOp op _ x=>unV op (ev S x)
 | .convert src dst x=>z0C T S src dst (ev S x)
 | .makeFunc (.func f) first captured=>z1C f (d5A (ev S) first.toList) (d5A (ev S) captured.toList)
 | .slice t x lo hi none=>y6C T S t (ev S x) lo hi
 | .fieldAddr t x f=>y2C T t (ev S x) f
 | .field t x f=>y3C T t (ev S x) f
 | .indexAddr t x ix=>y4C T S t (ev S x) (ev S ix)
 | .index t x ix=>y5C T t (ev S x) (ev S ix)
 | .extract x ix=>match ev S x with
  | .tup vs=>g5B (x7C vs ix)
  | _=>.no
 | .call { callee:=.builtin .len,args,argTypes }=>match args.toList,argTypes.toList with
  | [x],[t]=>y7C T S t (ev S x)
  | _,_=>.no
 | .call { callee:=.builtin .min,args,.. }=>match d5A (ev S) args.toList with
  | x::r=>y8B false x r
  | _=>.no
 | .call { callee:=.builtin .max,args,.. }=>match d5A (ev S) args.toList with
  | x::r=>y8B true x r
  | _=>.no
 | .makeInterface t x=>z5C T t (ev S x)
 | .typeAssert x _ t ok=>z7C T t ok (ev S x)
 | .lookup t m k ok=>z3C T S t ok (ev S m) (ev S k)
 | .entry it=>z4C S (ev S it)
 | _=>.no
inductive HR where
 | no
 | fork (b:Bool) (v:AV) (objs:Objs) (v':AV) (objs':Objs)
 | done (v:AV) (objs:Objs)
 | guard (b:Bool) (v:AV) (objs:Objs)
 | pick (n:Int) (es:List (Int×AV)) (z:AV) (objs:Objs)
def z4B (T:Tab) (S:St) (t:TypeId) (a v:AV):HR:=
 match d2A t T with
 | none=>.no
 | some i =>
  match a with
  | .ptr id off=>match a1A id S.objs,k3A v with
   | some (.box cs),some new=>bif Nat.beq (o0A new) i.size then (match d2B cs off new with
    | some cs=>.done (.tup []) (a9A id (.box cs) S.objs)
    | none=>.no) else .no
   | _,_=>.no
  | .ptrA id off n ty k sub=>match a1A id S.objs,k3A v with
   | some (.box cs),some new=>match m1B cs off n ty with
    | some l=>bif Nat.beq (o0A new) i.size&&ty.pure then (match oB (d2B (enc ty (l.getD k (c4A ty))) sub new) fun e=>b2A ty e S.objs with
     | some (x,[],objs)=>match d2B cs off [.arr n ty (l.set k x)] with
      | some cs=>.done (.tup []) (a9A id (.box cs) objs)
      | none=>.no
     | _=>.no) else .no
    | none=>.no
   | _,_=>.no
  | .ptrO id k sub=>match a1A id S.objs,k3A v with
   | some (.arr ty l),some new=>bif Nat.beq (o0A new) i.size&&ty.pure then (match oB (d2B (enc ty (l.getD k (c4A ty))) sub new) fun e=>b2A ty e S.objs with
    | some (x,[],objs)=>match a1A id objs with
     | some _=>.done (.tup []) (a9A id (.arr ty (l.set k x)) objs)
     | none=>.no
    | _=>.no) else .no
   | some (.hol ty l g cs far),some new=>bif Nat.beq (o0A new) i.size&&ty.pure then (match far with
    | false=>match d2B cs sub new with
     | some cs=>.guard (Nat.beq k g) (.tup []) (a9A id (.hol ty l g cs false) S.objs)
     | none=>.no
    | true=>match oB (d2B (enc ty (l.getD k (c4A ty))) sub new) fun e=>b2A ty e S.objs with
     | some (x,[],objs)=>match a1A id objs with
      | some _=>.guard (!Nat.beq k g) (.tup []) (a9A id (.hol ty (l.set k x) g cs true) objs)
      | none=>.no
     | _=>.no) else .no
   | _,_=>.no
  | _=>.no
def z5B (t:Ty) (objs:Objs):AV→Option (List (den t))
 | .nilsl=>some []
 | .sl t' l=>j1A t' t l
 | .slv t' l=>j1A t' t l
 | .oref id rg=>match a1A id objs with
  | some (.arr t' l)=>oM (j1A t' t l) fun l=>h3A l rg
  | _=>none
 | .bsl id off n t' lo len=>bif Nat.beq (a0A t') (a0A t) then (match a1A id objs with
  | some (.box cs)=>oM (m1B cs off n t) fun l=>(l.drop lo).take len
  | _=>none) else none
 | _=>none
def u2A (t:Ty):List AV→Objs→Option (List (den t)×Objs)
 | [],objs=>some ([],objs)
 | v::vs,objs=>match j6A t v objs with
  | some (x,objs)=>match u2A t vs objs with
   | some (xs,objs)=>some (x::xs,objs)
   | none=>none
  | none=>none
def m4B:Nat→List (Nat×AV)→Bool
 | _,[]=>true
 | n,(i,_)::r=>Nat.beq i n&&m4B (n+1) r
def c6A (bytes n:Nat):Bool:=decide (n*bytes≤140737488355328)
def x7A (T:Tab) (t:TypeId):Option (Ty×Nat):=
 match i0A T t with
 | some (.sl e)=>match d2A e T with
  | some i=>match i.ty with
   | some ty=>bif ty.pure&&Nat.blt 0 i.bytes then some (ty,i.bytes) else none
   | none=>none
  | none=>none
 | _=>none
def j2C (T:Tab) (S:St) (id:Nat) (t:TypeId) (s x:AV):HR:=
 match x7A T t with
 | some (ty,bytes)=>match z5B ty S.objs x with
  | some ys=>match s with
   | .nilsl=>.guard (c6A bytes ys.length) (.oref id none) (a9A id (.arr ty ys) S.objs)
   | .oref j rg=>match z5B ty S.objs (.oref j rg) with
    | some xs=>.guard (c6A bytes (xs++ys).length) (.oref id none) (a9A id (.arr ty (xs++ys)) (b9A j S.objs))
    | none=>.no
   | _=>.no
  | none=>.no
 | none=>.no
def j3C (T:Tab) (S:St) (id:Nat) (t:TypeId) (l c:AV):HR:=
 match x7A T t with
 | some (ty,bytes)=>match l,c with
  | .int .i64 n,.int .i64 m=>.guard (decide (0≤n)&&decide (n≤m)&&c6A bytes m.toNat) (.oref id none) (a9A id (.arr ty (List.replicate n.toNat (c4A ty))) S.objs)
  | _,_=>.no
 | none=>.no
def opT (T:Tab) (t:TypeId):Bool:=
 match d2A t T with
 | some i=>i.op
 | none=>false
def m5B (S:St) (id:Nat) (ty:Ty):List (Nat×AV)→HR
 | [(0,v)]=>match k3A v with
  | some cs=>bif Nat.beq (o0A cs) (a0A ty)&&Nat.blt 0 (a0A ty)&&Nat.ble (a0A ty) 16777216 then .done (.oref id none) (a9A id (.hol ty [c4A ty] 0 cs false) S.objs) else .no
  | none=>.no
 | _=>.no
def g7B (T:Tab) (S:St) (id:Nat) (t:TypeId) (len:Nat) (ps:List (Nat×AV)):HR:=
 match x7A T t with
 | some (ty,_)=>bif opT T t&&Nat.beq len 1 then m5B S id ty ps else bif m4B 0 ps&&Nat.beq (m0B ps) len&&Nat.ble (len*a0A ty) 16777216&&Nat.blt 0 (a0A ty) then (match u2A ty (d5A (·.2) ps) S.objs with
  | some (xs,objs)=>.done (.oref id none) (a9A id (.arr ty xs) objs)
  | none=>.no) else .no
 | none=>.no
def h5A {α:Type} (l:List α) (off:Nat) (zs:List α):List α:=l.take off++(zs++l.drop (off+zs.length))
def z8C (T:Tab) (S:St) (t:TypeId) (d x:AV):HR:=
 match x7A T t with
 | some (ty,_)=>match z5B ty S.objs x,d with
  | some ys,.oref j rg=>match a1A j S.objs with
   | some (.arr t' l)=>match j1A t' ty l with
    | some l=>.done (.int .i64 (((ys.take (e9A l.length rg)).length:Nat):Int)) (a9A j (.arr ty (h5A l (d1A rg) (ys.take (e9A l.length rg)))) S.objs)
    | none=>.no
   | _=>.no
  | some ys,.bsl id off n t' lo len=>bif Nat.beq (a0A t') (a0A ty) then (match a1A id S.objs with
   | some (.box cs)=>match m1B cs off n ty with
    | some l=>match d2B cs off [.arr n ty (h5A l lo (ys.take len))] with
     | some cs'=>.done (.int .i64 (((ys.take len).length:Nat):Int)) (a9A id (.box cs') S.objs)
     | none=>.no
    | none=>.no
   | _=>.no) else .no
  | _,_=>.no
 | none=>.no
def z9C (T:Tab) (S:St) (t:TypeId) (x:AV):HR:=
 match x7A T t with
 | some (ty,_)=>match x with
  | .nilsl=>.done (.tup []) S.objs
  | .oref j rg=>match a1A j S.objs with
   | some (.arr t' l)=>match j1A t' ty l with
    | some l=>.done (.tup []) (a9A j (.arr ty (h5A l (d1A rg) (List.replicate (e9A l.length rg) (c4A ty)))) S.objs)
    | none=>.no
   | _=>.no
  | _=>.no
 | none=>.no
def f6C (s:ByteArray) (i:Nat):Int:=((Utf8.decode s i).1:Nat)
def q4A (s:ByteArray) (i:Nat):Nat:=(Utf8.decode s i).2
def z6B (T:Tab) (S:St) (id:Nat) (t:TypeId) (x:AV):HR:=
 match i0A T t,x with
 | some .str,.str s=>.done (.ptr id 0) (a9A id (.iter s 0) S.objs)
 | some (.map _ _),.mapr m=>match a1A m S.objs with
  | some (.mp _ _ _ ck)=>.done (.ptr id 0) (a9A id (.mit m ck [] ck) S.objs)
  | _=>.no
 | _,_=>.no
def a0D (S:St) (it:AV):HR:=
 match it with
 | .ptr id 0=>match a1A id S.objs with
  | some (.iter s pos)=>.fork (decide (pos<s.size)) (.tup [.bool true,.int .i64 pos,.int .i32 (f6C s pos)]) (a9A id (.iter s (pos+q4A s pos)) S.objs) (.tup [.bool false]) S.objs
  | _=>.no
 | _=>.no
def u3A (n:Int) (z:AV):List (Int×AV)→AV
 | []=>z
 | p::es=>bif decide (n=p.1) then p.2 else u3A n z es
def z7B {R:Type} (n:Int) (z:AV) (K:AV→Option R):List (Int×AV)→Option R
 | []=>K z
 | p::es=>bif decide (n=p.1) then K p.2 else z7B n z K es
theorem z8B {R:Type} (n:Int) (z:AV) (K:AV→Option R):∀ es,z7B n z K es=K (u3A n z es)
 | []=>rfl
 | p::es=>by
  unfold z7B u3A
  cases decide (n=p.1)
  ·exact z8B n z K es
  ·rfl
def hasM (n:Int):List (Int×AV)→Bool
 | []=>false
 | p::es=>decide (n=p.1)||hasM n es
def j4C (n:Int) (v:AV):List (Int×AV)→List (Int×AV)
 | []=>[(n,v)]
 | p::es=>p::j4C n v es
def a1D (T:Tab) (S:St) (t:TypeId) (m k v:AV):HR:=
 match i0A T t,m,k with
 | some (.map kt _),.mapr id,.int .i64 n=>match i0A T kt,a1A id S.objs with
  | some (.int .i64),some (.map es)=>bif !hasM n es&&i6A v then .done (.tup []) (a9A id (.map (j4C n v es)) S.objs) else .no
  | _,_=>.no
 | _,_,_=>.no
def atM (T:Tab) (S:St) (t:TypeId) (m k:AV):HR:=
 match i0A T t,m,k with
 | some (.map kt et),.mapr id,.int .i64 n=>match i0A T kt,a1A id S.objs,d2A et T with
  | some (.int .i64),some (.map es),some i=>match i.zc with
   | [z]=>bif i6A z&&!i.td.isAgg then .pick n es z S.objs else .no
   | _=>.no
  | _,_,_=>.no
 | _,_,_=>.no
def j5C (T:Tab) (S:St) (t:TypeId) (m k x:AV):HR:=
 match m with
 | .mapr id=>match a1A id S.objs with
  | some (.mp kt vt es ck)=>bif u1A T t kt vt then (match z3B kt k with
   | some key=>match j0C vt x S.objs with
    | some (y,objs)=>match a1A id objs with
     | some _=>.done (.tup []) (a9A id (.mp kt vt (z1B (f0A kt.2 key) key y ck es) (ckE (f0A kt.2 key) ck es)) objs)
     | none=>.no
    | none=>.no
   | none=>.no) else .no
  | _=>a1D T S t m k x
 | _=>.no
def a2D (T:Tab) (S:St) (t:TypeId) (m k:AV):HR:=
 match m with
 | .mapr id=>match a1A id S.objs with
  | some (.mp kt vt es ck)=>bif u1A T t kt vt then (match z3B kt k with
   | some key=>.done (.tup [a0B vt ((l8A (f0A kt.2 key) es).getD (c4A vt.2)),.int .i64 ((m2B (f0A kt.2 key) ck es:Nat):Int)])
     (a9A id (.mp kt vt (z2B (f0A kt.2 key) key (c4A vt.2) ck es) (ckE (f0A kt.2 key) ck es)) S.objs)
   | none=>.no) else .no
  | _=>.no
 | _=>.no
def a3D (T:Tab) (S:St) (t:TypeId) (m s x:AV):HR:=
 match m,s with
 | .mapr id,.int .i64 n=>match a1A id S.objs with
  | some (.mp kt vt es ck)=>bif u1A T t kt vt then (match j0C vt x S.objs with
    | some (y,objs)=>match a1A id objs with
     | some _=>.guard (hasB n es) (.tup []) (a9A id (.mp kt vt (z0B n y es) ck) objs)
     | none=>.no
    | none=>.no) else .no
  | _=>.no
 | _,_=>.no
def a4D (T:Tab) (S:St) (t:TypeId) (m k:AV):HR:=
 match m with
 | .mapr id=>match a1A id S.objs with
  | some (.mp kt vt es ck)=>bif u1A T t kt vt then (match z3B kt k with
   | some key=>.done (.tup []) (a9A id (.mp kt vt (d3B (f0A kt.2 key) es) ck) S.objs)
   | none=>.no) else .no
  | _=>.no
 | _=>.no
def q0A (T:Tab) (S:St) (id:Nat) (op:Op):HR:=
 match op with
 | .alloc t=>match d2A t T with
  | some i=>.done (.ptr id 0) (a9A id (.box i.zc) S.objs)
  | none=>.no
 | .box _ x=>match ev S x with
  | .ptr i o=>.done (.cbox (.ptr i o)) S.objs
  | v=>match k3A v with
   | some cs=>.done (.ptr id 0) (a9A id (.box cs) S.objs)
   | none=>.no
 | .store t a x=>z4B T S t (ev S a) (ev S x)
 | .buildSlice t len parts=>g7B T S id t len (f1A S parts.toList)
 | .makeSlice t l c=>j3C T S id t (ev S l) (ev S c)
 | .call { callee:=.builtin .append,args,argTypes }=>match args.toList,argTypes.toList with
  | [s,x],[t,u]=>bif Nat.beq t u then j2C T S id t (ev S s) (ev S x) else .no
  | _,_=>.no
 | .call { callee:=.builtin .copy,args,argTypes }=>match args.toList,argTypes.toList with
  | [d,x],[t,_]=>z8C T S t (ev S d) (ev S x)
  | _,_=>.no
 | .call { callee:=.builtin .clear,args,argTypes }=>match args.toList,argTypes.toList with
  | [x],[t]=>z9C T S t (ev S x)
  | _,_=>.no
 | .range t x=>z6B T S id t (ev S x)
 | .next x true=>a0D S (ev S x)
 | .makeMap t none=>match i0A T t with
  | some (.map _ _)=>match z2C T t with
   | some p=>.done (.mapr id) (a9A id (.mp p.1 p.2 [] 0) S.objs)
   | none=>.done (.mapr id) (a9A id (.map []) S.objs)
  | _=>.no
 | .insert t m k v=>j5C T S t (ev S m) (ev S k) (ev S v)
 | .mapUpdate t m k v=>j5C T S t (ev S m) (ev S k) (ev S v)
 | .mapEntry t m k=>a2D T S t (ev S m) (ev S k)
 | .entryStore t m s v=>a3D T S t (ev S m) (ev S s) (ev S v)
 | .call { callee:=.builtin .delete,args,argTypes }=>match args.toList,argTypes.toList with
  | [m,k],t::_=>a4D T S t (ev S m) (ev S k)
  | _,_=>.no
 | .lookup t m k false=>atM T S t (ev S m) (ev S k)
 | _=>.no
end Go.Rx
namespace Go.Rx
variable [Inhabited GW]
inductive Item where
 | slot (s:Nat) (agg:Bool) (t:Ty)     -- a slot's value,by its type
 | keep (s s0:Nat)               -- a slot's value: what was in a slot at first
 | obj (s:Nat) (t:Ty)          -- the cells of the box that a slot leads to
 | nbox (s:Nat) (t:Ty)         -- a slot that leads to a box,and the box's cells: behind the join it is a new one
 | iter (s:Nat)                  -- the iterator over a text that a slot leads to
 | aob (s:Nat) (t:Ty)          -- the elements of the object that a slot's slice lies in
 | hbox (s n:Nat)                -- a box's numbers,n of them; what else it holds is as it was
 | mp (s:Nat) (k v:Bool×Ty)  -- the entries of the map that a slot leads to
 | hob (s:Nat) (t u:Ty) (n:Nat)   -- an array with an open element: its elements,the open one's place and numbers,and what its slice has
 | pto (s:Nat)                   -- a slot that leads to an element: its place
 | mit (s:Nat)                   -- how far the iterator over a map is that a slot leads to
@[reducible] def m6B:Nat→Type
 | 0=>Unit
 | n+1=>Int×m6B n
abbrev u4A:=List Item
@[reducible] def PT:u4A→Type
 | []=>Unit
 | .slot _ _ t::r=>den t×PT r
 | .keep _ _::r=>PT r
 | .obj _ t::r=>den t×PT r
 | .nbox _ t::r=>den t×PT r
 | .iter _::r=>(ByteArray×Int)×PT r
 | .aob _ t::r=>List (den t)×PT r
 | .hbox _ n::r=>m6B n×PT r
 | .mp _ k v::r=>(List (Nat×(den k.2×den v.2))×Nat)×PT r
 | .mit _::r=>(Nat×(List Nat×Nat))×PT r
 | .hob _ t u n::r=>(List (den t)×(Nat×(m6B n×List (den u))))×PT r
 | .pto _::r=>Nat×PT r
mutual
def f6A (n:Nat):AV→AV→Bool
  | .ptr a b,.ptr a' b'=>Nat.beq a a'&&Nat.beq b b'&&Nat.blt a n
  | .func f a b,.func f' a' b'=>Nat.beq f f'&&u5A n a a'&&u5A n b b'
  | .oref a r,.oref b r'=>r.isNone&&r'.isNone&&Nat.beq a b&&Nat.blt a n
  | .mapr a,.mapr b=>Nat.beq a b&&Nat.blt a n
  | .agg a,.agg b=>u5A n a b
  | .cbox c,.cbox c'=>f6A n c c'
  | .int k a,.int k' b=>decide (k=k')&&a==b
  | .nilp,.nilp=>true
  | .nilf,.nilf=>true
  | .nilsl,.nilsl=>true
  | .nilm,.nilm=>true
  | .nili,.nili=>true
  | _,_=>false
def u5A (n:Nat):List AV→List AV→Bool
  | [],[]=>true
  | a::r,b::s=>f6A n a b&&u5A n r s
  | _,_=>false
end
def k8A (t:Bool×Ty) (v:AV) (objs:Objs):Option (den t.2×Objs):=bif t.2.okp&&o1A t.1 v&&(t.1||t.2.scalar) then j6A t.2 v objs else none
def a5D:AV→Option Nat
 | .ptr id _=>some id
 | .cbox c=>match c with
  | .ptr id _=>some id
  | _=>none
 | _=>none
def p3D (base:St) (s:Nat):Option Nat:=
 bif Nat.blt s 1000 then a5D (b1A base.tmps s) else
 match b1A base.tmps (s % 1000) with
 | .func _ first caps=>a5D (b1A (g3A first caps) (s / 1000 - 1))
 | _=>none
def x8A (base:St) (s:Nat):Option Nat:=
 bif Nat.blt s 1000000 then p3D base s else
 match p3D base (s % 1000000) with
 | none=>none
 | some id=>match a1A id base.objs with
  | some (.box cs)=>a5D (b1A cs (s / 1000000 - 1))
  | _=>none
def p4D:AV→Option Nat
 | .oref id _=>some id
 | .ptrO id _ _=>some id
 | _=>none
def r4A (base:St) (s:Nat):Option Nat:=
 bif Nat.blt s 1000000 then p4D (b1A base.tmps s) else
 match x8A base (s % 1000000000) with
 | none=>none
 | some id=>match a1A id base.objs with
  | some (.box cs)=>p4D (b1A cs (s / 1000000000 - 1))
  | _=>none
def a6D (base:St) (s:Nat):Option Nat:=
 match b1A base.tmps s with
 | .mapr id=>some id
 | _=>none
def a7D (base:St) (s:Nat):Option (Nat×Nat):=
 match x8A base s with
 | none=>none
 | some id=>match a1A id base.objs with
  | some (.mit m _ _ _)=>some (id,m)
  | _=>none
def a8D:AV→Bool
 | .oref .. | .ptr .. | .func ..=>true
 | _=>false
def hp (nx:Nat):List AV→List AV→(n:Nat)→Option (m6B n)
 | [],[],0=>some ()
 | b::bs,c::cs,n=>match a8D b with
  | true=>bif f6A nx b c then hp nx bs cs n else none
  | false=>match c,n with
   | .int .i64 x,n+1=>oM (hp nx bs cs n) fun y=>(x,y)
   | _,_=>none
 | _,_,_=>none
def hu:List AV→(n:Nat)→m6B n→List AV
 | [],_,_=>[]
 | b::bs,n,x=>match a8D b with
  | true=>b::hu bs n x
  | false=>match n,x with
   | n+1,x=>.int .i64 x.1::hu bs n x.2
   | 0,_=>[]
def mpC (k' v' k v:Bool×Ty) (es:List (Nat×(den k'.2×den v'.2))):Option (List (Nat×(den k.2×den v.2))):=
 if h:k'=k∧v'=v then some (h.1▸h.2▸es) else none
def a9D:List AV→Option Nat
 | []=>none
 | c::cs=>match c with
  | .oref id none=>some id
  | _=>a9D cs
def d0A (base:St) (tmps:List AV):(sp:u4A)→Objs→Option (PT sp)
 | [],_=>some ()
 | .slot s agg t::r,objs=>match k8A (agg,t) (b1A tmps s) objs with
  | some (x,objs)=>match d0A base tmps r objs with
   | some y=>some (x,y)
   | none=>none
  | none=>none
 | .keep s s0::r,objs=>bif f6A base.next (b1A base.tmps s0) (b1A tmps s) then d0A base tmps r objs else none
 | .nbox s t::r,objs=>match b1A tmps s with
  | .ptr id 0=>match a1A id objs with
   | some (.box cs)=>match (bif t.okp then b2A t cs (b9A id objs) else none) with
    | some (x,[],objs)=>match d0A base tmps r objs with
     | some y=>some (x,y)
     | none=>none
    | _=>none
   | _=>none
  | _=>none
 | .iter s::r,objs=>match x8A base s with
  | none=>none
  | some id=>match a1A id objs with
   | some (.iter str p)=>bif Nat.blt id base.next then oM (d0A base tmps r (b9A id objs)) (fun y=>((str,(p:Int)),y)) else none
   | _=>none
 | .hbox s n::r,objs=>match x8A base s with
  | none=>none
  | some id=>match a1A id base.objs with
   | some (.box bs)=>match a1A id objs with
    | some (.box cs)=>match hp base.next bs cs n with
     | some x=>bif Nat.blt id base.next then oM (d0A base tmps r (b9A id objs)) (fun y=>(x,y)) else none
     | none=>none
    | _=>none
   | _=>none
 | .mp s k v::r,objs=>match a6D base s with
  | none=>none
  | some id=>match a1A id objs with
   | some (.mp k' v' es ck)=>match mpC k' v' k v es with
    | some es=>bif Nat.blt id base.next&&(k.2.pure&&v.2.pure) then oM (d0A base tmps r (b9A id objs)) (fun y=>((es,ck),y)) else none
    | none=>none
   | _=>none
 | .hob s t u n::r,objs=>match r4A base s with
  | none=>none
  | some id=>match a1A id base.objs,a1A id objs with
   | some (.hol _ _ _ bs _),some (.hol t' l g cs _)=>match a9D bs with
    | none=>none
    | some j=>match a1A j objs with
     | some (.arr u' m)=>match j1A t' t l,j1A u' u m,hp base.next bs cs n with
      | some l,some m,some x=>bif (Nat.blt id base.next&&Nat.blt j base.next)&&(t.pure&&u.pure)&&!Nat.beq id j then oM (d0A base tmps r (b9A j (b9A id objs))) (fun y=>((l,(g,(x,m))),y)) else none
      | _,_,_=>none
     | _=>none
   | _,_=>none
 | .pto s::r,objs=>match b1A base.tmps s,b1A tmps s with
  | .ptrO id _ sub,.ptrO id' k sub'=>bif Nat.beq id id'&&(Nat.beq sub sub'&&Nat.blt id base.next) then oM (d0A base tmps r objs) (fun y=>(k,y)) else none
  | _,_=>none
 | .mit s::r,objs=>match a7D base s with
  | none=>none
  | some q=>match a1A q.1 objs with
   | some (.mit m since seen last)=>bif Nat.beq m q.2&&(Nat.blt q.1 base.next&&Nat.blt q.2 base.next) then oM (d0A base tmps r (b9A q.1 objs)) (fun y=>((since,(seen,last)),y)) else none
   | _=>none
 | .aob s t::r,objs=>match r4A base s with
  | none=>none
  | some id=>match a1A id objs with
   | some (.arr t' l)=>match j1A t' t l with
    | some l=>bif Nat.blt id base.next&&t.pure then oM (d0A base tmps r (b9A id objs)) (fun y=>(l,y)) else none
    | none=>none
   | _=>none
 | .obj s t::r,objs=>match x8A base s with
  | none=>none
  | some id=>match a1A id objs with
   | some (.box cs)=>match (bif Nat.blt id base.next&&t.okp then b2A t cs (b9A id objs) else none) with
    | some (x,[],objs)=>match d0A base tmps r objs with
     | some y=>some (x,y)
     | none=>none
    | _=>none
   | _=>none
def c0A (base:St):(sp:u4A)→PT sp→St→St
 | [],_,S=>S
 | .slot s agg t::r,p,S =>
  let (cs,m):=a8A t p.1 ⟨S.objs,S.next⟩
  c0A base r p.2 { tmps:=g2A S.tmps s (if agg then .agg cs else o7A cs),objs:=m.objs,next:=m.next }
 | .keep s s0::r,p,S=>c0A base r p { S with tmps:=g2A S.tmps s (b1A base.tmps s0) }
 | .nbox s t::r,p,S =>
  let (cs,m):=a8A t p.1 ⟨S.objs,S.next⟩
  c0A base r p.2 { tmps:=g2A S.tmps s (.ptr m.next 0),objs:=a9A m.next (.box cs) m.objs,next:=m.next+1 }
 | .iter s::r,p,S=>match x8A base s with
  | none=>S
  | some id=>c0A base r p.2 { S with objs:=a9A id (.iter p.1.1 p.1.2.toNat) S.objs }
 | .hbox s n::r,p,S=>match x8A base s with
  | none=>S
  | some id=>match a1A id base.objs with
   | some (.box bs)=>c0A base r p.2 { S with objs:=a9A id (.box (hu bs n p.1)) S.objs }
   | _=>S
 | .mp s k v::r,p,S=>match a6D base s with
  | none=>S
  | some id=>c0A base r p.2 { S with objs:=a9A id (.mp k v p.1.1 p.1.2) S.objs }
 | .hob s t u n::r,p,S=>match r4A base s with
  | none=>S
  | some id=>match a1A id base.objs with
   | some (.hol _ _ _ bs far)=>match a9D bs with
    | none=>S
    | some j=>c0A base r p.2 { S with objs:=a9A j (.arr u p.1.2.2.2) (a9A id (.hol t p.1.1 p.1.2.1 (hu bs n p.1.2.2.1) far) S.objs) }
   | _=>S
 | .pto s::r,p,S=>match b1A base.tmps s with
  | .ptrO id _ sub=>c0A base r p.2 { S with tmps:=g2A S.tmps s (.ptrO id p.1 sub) }
  | _=>S
 | .mit s::r,p,S=>match a7D base s with
  | none=>S
  | some q=>c0A base r p.2 { S with objs:=a9A q.1 (.mit q.2 p.1.1 p.1.2.1 p.1.2.2) S.objs }
 | .aob s t::r,p,S=>match r4A base s with
  | none=>S
  | some id=>c0A base r p.2 { S with objs:=a9A id (.arr t p.1) S.objs }
 | .obj s t::r,p,S=>match x8A base s with
  | none=>S
  | some id =>
   let (cs,m):=a8A t p.1 ⟨S.objs,S.next⟩
   c0A base r p.2 { S with objs:=a9A id (.box cs) m.objs,next:=m.next }
def d3A (base:St):St:={ tmps:=d5A (fun _=>.top) base.tmps,objs:=[],next:=base.next }
inductive Ex where
 | normal | exit (id:Nat) | ret
 deriving DecidableEq
abbrev p0A:=List (Ex×u4A)
@[reducible] def JT:p0A→Type
 | []=>Empty
 | [e]=>PT e.2
 | e::e'::r=>PT e.2⊕JT (e'::r)
def j7A (base:St):(ex:p0A)→Ex→St→Option (JT ex)
 | [],_,_=>none
 | [e],x,S=>if e.1=x then d0A base S.tmps e.2 S.objs else none
 | e::e'::r,x,S=>if e.1=x then oM (d0A base S.tmps e.2 S.objs) Sum.inl else oM (j7A base (e'::r) x S) Sum.inr
def s9A {R:Type} (base:St):(ex:p0A)→JT ex→(Ex→St→Option R)→Option R
 | [],j,_=>nomatch j
 | [e],j,K=>K e.1 (c0A base e.2 j (d3A base))
 | e::e'::r,j,K=>match j with
  | .inl p=>K e.1 (c0A base e.2 p (d3A base))
  | .inr j=>s9A base (e'::r) j K
inductive Ann where
 | no
 | seq (a b:Ann)
 | cond (a b:Ann)
 | blk (a:Ann)
 | loop (sp:u4A) (ex:p0A) (a:Ann)
 | roll (n:Nat) (a:Ann)
 | each (sp:u4A) (ex:p0A) (k v:Bool×Ty) (a:Ann)   -- a loop over a map: whatever entry comes next
 | join (ex:p0A) (a:Ann)
 | draw (pi:List Nat)
 | frz (s:Nat) (a:Ann)     -- of a region: the array at a path is given away ahead of it
 | opn (s q:Nat) (a:Ann)   -- of a region: of the array at a path the element is opened that a slot counts
 | far (s:Nat) (b:Bool) (a:Ann)   -- of a region: of the array at a path the open element is reached,or the others are
 | cls (s:Nat) (a:Ann)     -- of a region,or a return: the open element of the array at a path is closed
 | peel (sp:u4A) (ex:p0A) (a:Ann) (s g:Nat) (b c:Ann)   -- a loop in two parts: rounds,until a slot counts g; that round; the others
 | alt (g:Nat) (a b:Ann)   -- of a callee: where one of its arguments is this function; else
def Ann.ex:Ann→Option p0A
 | .join ex _=>some ex
 | _=>none
def Ann.inner:Ann→Ann
 | .join _ a=>a
 | a=>a
def Ann.left:Ann→Ann
 | .seq a _=>a
 | .cond a _=>a
 | .blk a=>a
 | _=>.no
def Ann.right:Ann→Ann
 | .seq _ b=>b
 | .cond _ b=>b
 | _=>.no
mutual
def p1A (id:Nat) (t:Ty) (l:List (den t)):AV→AV
 | .oref j r=>bif Nat.beq j id then .sl t (h3A l r) else .oref j r
 | .func f a b=>.func f (p2A id t l a) (p2A id t l b)
 | .iface u ag cs=>.iface u ag (p2A id t l cs)
 | .agg cs=>.agg (p2A id t l cs)
 | .tup vs=>.tup (p2A id t l vs)
 | .cbox c=>.cbox (p1A id t l c)
 | v=>v
def p2A (id:Nat) (t:Ty) (l:List (den t)):List AV→List AV
 | []=>[]
 | v::vs=>p1A id t l v::p2A id t l vs
end
def r5A (id:Nat) (t:Ty) (l:List (den t)):Objs→Objs
 | []=>[]
 | p::r=>match p.2 with
  | .box cs=>(p.1,.box (p2A id t l cs))::r5A id t l r
  | _=>p::r5A id t l r
def j6C (S:St) (s:Nat):Option St:=
 match r4A S s with
 | none=>none
 | some id=>match a1A id S.objs with
  | some (.arr t l)=>bif t.pure then some ⟨p2A id t l S.tmps,r5A id t l (b9A id S.objs),S.next⟩ else none
  | _=>none
def m7B:AV→Nat
 | .int _ n=>n.toNat
 | _=>0
def j7C (S:St) (s q:Nat):Option (Bool×St):=
 match r4A S s with
 | none=>none
 | some id=>match a1A id S.objs with
  | some (.arr t l)=>bif t.pure then some (Nat.blt (m7B (b1A S.tmps q)) l.length,{ S with objs:=a9A id (.hol t l (m7B (b1A S.tmps q)) (enc t (l.getD (m7B (b1A S.tmps q)) (c4A t))) false) S.objs }) else none
  | _=>none
def j8C (S:St) (s:Nat) (b:Bool):Option St:=
 match r4A S s with
 | none=>none
 | some id=>match a1A id S.objs with
  | some (.hol t l g cs _)=>some { S with objs:=a9A id (.hol t l g cs b) S.objs }
  | _=>none
def j9C (S:St) (s:Nat):Option St:=
 match r4A S s with
 | none=>none
 | some id=>match a1A id S.objs with
  | some (.hol t l g cs _)=>match b2A t cs S.objs with
   | some (x,[],objs)=>match a1A id objs with
    | some _=>bif t.pure then some { S with objs:=a9A id (.arr t (l.set g x)) objs } else none
    | none=>none
   | _=>none
  | _=>none
def t0A:St→Ann→Option (Bool×(St×Ann))
 | S,.frz s a=>match j6C S s with
  | some S=>t0A S a
  | none=>none
 | S,.opn s q a=>match j7C S s q with
  | some (b,S)=>oM (t0A S a) fun r=>(b&&r.1,r.2)
  | none=>none
 | S,.far s b a=>match j8C S s b with
  | some S=>t0A S a
  | none=>none
 | S,.cls s a=>match j9C S s with
  | some S=>t0A S a
  | none=>none
 | S,a=>some (true,(S,a))
def j3A {X R:Type} (f:X→Option (X⊕R)):Nat→X→Option R
 | 0,_=>none
 | n+1,x=>match f x with
  | some (.inl y)=>j3A f n y
  | some (.inr r)=>some r
  | none=>none
open Classical in
noncomputable def iter {X R:Type} (f:X→Option (X⊕R)) (x:X):Option R:=
 if h:∃ n r,j3A f n x=some r then some (Classical.choose (Ei h)) else none
def z9B {X R C:Type} (cs:X→List C) (f:C→X→Option (X⊕R)) (r:R):Nat→X→Prop
 | 0,_=>False
 | n+1,x=>cs x≠[]∧∀ c∈cs x,match f c x with
  | some (.inl y)=>z9B cs f r n y
  | some (.inr s)=>s=r
  | none=>False
open Classical in
noncomputable def b0D {X R C:Type} (cs:X→List C) (f:C→X→Option (X⊕R)) (x:X):Option R:=
 if h:∃ r n,z9B cs f r n x then some (Classical.choose h) else none
def x9A {A V:Type} (es:List (Nat×(A×V))) (since:Nat) (seen:List Nat) (last:Nat):List (Option (Nat×(A×V))):=
 bif !seen.isEmpty&&(!es.isEmpty&&es.all fun e=>decide (last≤e.1)) then [] else
  (bif ((es.filter fun e=>!seen.contains e.1).filter fun e=>decide (e.1<since)).isEmpty then [none] else []) ++
   (((es.filter fun e=>!seen.contains e.1).filter fun e=>decide (e.1<since))++((es.filter fun e=>!seen.contains e.1).filter fun e=>decide (since≤e.1))).map some
structure m8B (k v:Bool×Ty) where
 id:Nat
 m:Nat
 since:Nat
 seen:List Nat
 last:Nat
 es:List (Nat×(den k.2×den v.2))
 ck:Nat
def b1D (t:Bool×Ty):Bool:=t.2.pure&&(t.1||t.2.scalar)
def m9B (S:St) (x:AV) (k v:Bool×Ty):Option (m8B k v):=
 match x with
 | .ptr id off=>match a1A id S.objs with
  | some (.mit m since seen last)=>match a1A m S.objs with
   | some (.mp k' v' es ck)=>bif Nat.beq off 0&&(b1D k&&b1D v) then oM (mpC k' v' k v es) fun es=>⟨id,m,since,seen,last,es,ck⟩ else none
   | _=>none
  | _=>none
 | _=>none
def n0B:Code→Option (Oper×Nat)
 | .seq x _=>n0B x
 | .region _ ops false=>match ops.toList with
  | o::_=>match o.op,o.guard with
   | .next (.tmp t) false,none=>some (o,t)
   | _,_=>none
  | []=>none
 | _=>none
structure Gv where
 v:AV
 id:Nat
 oc:OC
def gvN {k v:Bool×Ty} (q:m8B k v):Gv:=⟨.tup [.bool false],q.id,.mit q.m q.since q.seen q.last⟩
def gvS {k v:Bool×Ty} (q:m8B k v) (e:Nat×(den k.2×den v.2)):Gv:=⟨.tup [.bool true,a0B k e.2.1,a0B v e.2.2],q.id,.mit q.m q.since (q.seen++[e.1]) q.ck⟩
@[reducible] def c8A:List (Bool×Ty)→Type
 | []=>Unit
 | [t]=>den t.2
 | t::t'::r=>den t.2×c8A (t'::r)
inductive Callee where
  | sem (ins outs:List (Bool×Ty)) (fn:c8A ins→Option (c8A outs)) (g:Option FuncId)
    | semP (pt:Ty) (ins outs:List (Bool×Ty)) (fn:den pt→c8A ins→Option (den pt×c8A outs))
    | insH (t:Ty) (bytes:Nat)
  | inl (fn:Func) (body:Code) (ann:Ann)
  | back (n:Nat)
    | ext (fn:List AV→Option AV)
def Ty.flat:Ty→Bool
 | .int _ | .bool | .str | .unit=>true
 | .sl _ | .own _=>false
 | .pair a b=>a.flat&&b.flat
 | .arr _ t=>t.flat
def f9A:(l:List (Bool×Ty))→List AV→Objs→Option (c8A l×Objs)
 | [],vs,objs=>match vs with
  | []=>some ((),objs)
  | _::_=>none
 | [t],vs,objs=>match vs with
  | [v]=>k8A t v objs
  | _=>none
 | t::t'::r,vs,objs=>match vs with
  | v::vs=>match k8A t v objs with
   | some (x,objs1)=>match f9A (t'::r) vs objs1 with
    | some (y,objs)=>some ((x,y),objs)
    | none=>none
   | none=>none
  | []=>none
def n1B (t:Bool×Ty) (v:AV) (objs:Objs):Option (den t.2):=
 match t,v with
 | (false,.sl ty),.bsl id off n ty' lo len=>bif Nat.beq (a0A ty') (a0A ty) then (match a1A id objs with
  | some (.box cs)=>match m1B cs off n ty with
   | some l=>some ((l.drop lo).take len)
   | none=>none
  | _=>none) else none
 | (false,.sl ty),.oref id none=>match a1A id objs with
  | some (.hol ty' l g cs _)=>match j1A ty' ty l,b2A ty cs objs with
   | some l,some (x,[],_)=>bif ty.pure then some (l.set g x) else none
   | _,_=>none
  | _=>match k8A (false,.sl ty) (.oref id none) objs with
   | some (x,_)=>some x
   | none=>none
 | t,v=>match k8A t v objs with
  | some (x,_)=>some x
  | none=>none
def r6B (objs:Objs):(l:List (Bool×Ty))→List AV→Option (c8A l)
 | [],vs=>match vs with
  | []=>some ()
  | _::_=>none
 | [t],vs=>match vs with
  | [v]=>n1B t v objs
  | _=>none
 | t::t'::r,vs=>match vs with
  | v::vs=>match n1B t v objs with
   | some x=>match r6B objs (t'::r) vs with
    | some y=>some (x,y)
    | none=>none
   | none=>none
  | []=>none
def a1B:List (Bool×Ty)→Bool
 | []=>true
 | t::l=>t.2.flat&&a1B l
def r6A:List (Bool×Ty)→Bool
 | []=>true
 | t::l=>t.2.pure&&r6A l
def i4A (t:Bool×Ty) (x:den t.2) (m:Mem):AV×Mem:=
 (if t.1 then .agg (a8A t.2 x m).1 else o7A (a8A t.2 x m).1,(a8A t.2 x m).2)
def f4A:(l:List (Bool×Ty))→c8A l→Mem→List AV×Mem
 | [],_,m=>([],m)
 | [t],x,m=>([(i4A t x m).1],(i4A t x m).2)
 | t::t'::r,x,m=>((i4A t x.1 m).1::(f4A (t'::r) x.2 (i4A t x.1 m).2).1,(f4A (t'::r) x.2 (i4A t x.1 m).2).2)
def a0C:List AV→AV
 | [v]=>v
 | vs=>.tup vs
def l2A (l:List (Bool×Ty)) (x:c8A l) (m:Mem):AV×Mem:=(a0C (f4A l x m).1,(f4A l x m).2)
def r7A (S:St):List ResultVar→Tab→Option (List AV)
 | [],_=>some []
 | .tmp t::r,T=>match b1A S.tmps t with
  | .tup _=>none
  | v=>oM (r7A S r T) (v::·)
 | .cell a t::r,T=>match y6B T S t (b1A S.tmps a) with
  | .val v=>oM (r7A S r T) (v::·)
  | _=>none
structure Handler where
 run:∀ {R:Type},FuncId→List AV→St→(AV→St→Option R)→Option R
 lends:FuncId→Bool
 calm:FuncId→Objs→List Nat→Option (List Nat)
 back:FuncId→Option Nat
 ext:FuncId→Bool
section
variable (T:Tab) (H:Handler)
def r7B:List Oper→Nat→Option Nat
 | [],_=>none
 | o::l,i=>match i with
  | 0=>o.dst
  | i+1=>r7B l i
inductive Gd where
 | run
 | skip
 | test (d:Nat) (b want:Bool)
 | no
def u6A (ops:Array Oper) (S:St) (o:Oper):Gd:=
 match o.guard with
 | none=>.run
 | some (j,want)=>match r7B ops.toList j with
  | none=>.no
  | some d=>match b1A S.tmps d with
   | .bool b=>.test d b want
   | .tup _=>.skip
   | _=>.no
def y0A (S:St):Op→Option (FuncId×List AV)
 | .call { callee:=.value f,args,.. }=>match ev S f with
  | .func f first caps=>some (f,g3A first (g3A (d5A (ev S) args.toList) caps))
  | _=>none
 | _=>none
def opV {R:Type} (op:Op) (S:St) (K:AV→Objs→Nat→Option R):Option R:=
 match y0A S op with
 | some (f,args)=>H.run f args ⟨[],S.objs,S.next⟩ fun v S'=>K v S'.objs S'.next
 | none=>match m9A T S op with
  | .val v=>K v S.objs S.next
  | .gval b v=>bif b then K v S.objs S.next else none
  | .no=>match q0A T S S.next op with
   | .done v objs=>K v objs (S.next+1)
   | .guard b v objs=>bif b then K v objs (S.next+1) else none
   | .fork b v objs v' objs'=>bif b then K v objs (S.next+1) else K v' objs' (S.next+1)
   | .pick n es z objs=>z7B n z (fun v=>K v objs (S.next+1)) es
   | .no=>none
def St.step (S:St) (d:Option Nat) (v:AV) (objs:Objs) (next:Nat):St:=({ tmps:=S.tmps,objs:=objs,next:=next }:St).put d v
def opK {R:Type} (o:Oper) (S:St) (K:St→Option R):Option R:=
 opV T H o.op S fun v objs next=>K (S.step o.dst v objs next)
def n0A {R:Type} (ops:Array Oper):List Oper→St→(St→Option R)→Option R
 | [],S,K=>K S
 | o::rest,S,K=>match u6A ops S o with
  | .no=>none
  | .run=>opK T H o S fun S=>n0A ops rest S K
  | .skip=>n0A ops rest (S.put o.dst (.tup [])) K
  | .test d b want=>match want with
   | true=>bif b then opK T H o (S.put (some d) (.bool true)) (fun S=>n0A ops rest S K)
     else n0A ops rest ((S.put (some d) (.bool false)).put o.dst (.tup [])) K
   | false=>bif b then n0A ops rest ((S.put (some d) (.bool true)).put o.dst (.tup [])) K
     else opK T H o (S.put (some d) (.bool false)) (fun S=>n0A ops rest S K)
def tmO:Operand→List Nat
 | .tmp t=>[t]
 | _=>[]
def tmL:List Operand→List Nat
 | []=>[]
 | x::l=>match x with
  | .tmp t=>t::tmL l
  | _=>tmL l
def tmP:List (Nat×Operand)→List Nat
 | []=>[]
 | x::l=>match x.2 with
  | .tmp t=>t::tmP l
  | _=>tmP l
def t1A:Op→List Nat
 | .move x | .assign x | .box _ x | .load _ x | .nilCheck x | .unOp _ _ x | .convert _ _ x | .fieldAddr _ x _ | .field _ x _ | .extract x _
 | .sliceToArrayPointer _ x | .makeInterface _ x | .range _ x | .next x _ | .entry x | .typeAssert x _ _ _=>tmO x
 | .pick c a b=>tmL [c,a,b]
 | .build _ ps | .buildSlice _ _ ps=>tmP ps.toList
 | .store _ a v | .binOp _ _ a v _ | .makeSlice _ a v | .indexAddr _ a v | .index _ a v | .lookup _ a v _ | .mapEntry _ a v=>tmL [a,v]
 | .mapUpdate _ m k v | .entryStore _ m k v | .insert _ m k v=>tmL [m,k,v]
 | .makeMap _ (some x)=>tmO x
 | .makeFunc _ a b=>tmL (a.toList++b.toList)
 | .slice _ x l h m=>tmL (x::(l.toList++h.toList++m.toList))
 | .call { callee:=.value f,args,.. }=>tmL (f::args.toList)
 | .call { args,.. }=>tmL args.toList
 | _=>[]
def memN (i:Nat):List Nat→Bool
 | []=>false
 | j::l=>Nat.beq j i||memN i l
def t2A (ts:List Nat):Nat→List AV→List AV
 | _,[]=>[]
 | i,a::l=>(bif memN i ts then a else .top)::t2A ts (i+1) l
def fzT (T:Tab) (t:TypeId):Bool:=
 match d2A t T with
 | some i=>i.fz
 | none=>false
def e3A (T:Tab):Op→Bool
 | .buildSlice t _ _=>!fzT T t
 | .alloc _ | .box .. | .store .. | .makeSlice .. | .mapUpdate .. | .makeMap .. | .entryStore .. | .insert .. | .next ..=>true
 | .call { callee:=.builtin .len,.. } | .call { callee:=.builtin .min,.. } | .call { callee:=.builtin .max,.. }=>false
 | .call _=>true
 | _=>false
def t4E:Op→Bool
 | .alloc _=>true
 | .buildSlice ..=>true
 | _=>false
def p3A (T:Tab) (S:St) (op:Op):Option (Bool×OC):=
 match op with
 | .alloc t=>oM (d2A t T) fun i=>(true,.box i.zc)
 | .buildSlice t len ps=>match g7B T ⟨S.tmps,[],0⟩ 0 t len (f1A S ps.toList) with
  | .done _ objs=>match a1A 0 objs with
   | some (.arr t (x::l))=>some (false,.arr t (x::l))
   | _=>none
  | _=>none
 | _=>none
def r8B (T:Tab) (S:St) (op:Op):Option AV:=
 match op with
 | .buildSlice t _ _=>match fzT T t with
  | true=>match p3A T S op with
   | some (false,.arr t l)=>match t.pure with
    | true=>some (.sl t l)
    | false=>none
   | _=>none
  | false=>none
 | _=>none
def r8A (T:Tab) (S:St) (o:Oper):Bool:=(t4E o.op&&e3A T o.op)&&o.guard.isNone&&o.dst.isSome&&(p3A T S o.op).isSome
def t5E:Op→Bool
 | .move _ | .assign _ | .pick .. | .build .. | .nilCheck _ | .binOp .. | .unOp .. | .makeFunc .. | .fieldAddr .. | .field .. | .extract ..=>false
 | _=>true
def t6E:AV→List Nat
 | .oref id _ | .ptr id _ | .ptrA id _ _ _ _ _ | .ptrO id _ _ | .bsl id _ _ _ _ _ | .mapr id=>[id]
 | _=>[]
def p5D (tmps:List AV):List Nat→List Nat
 | []=>[]
 | t::l=>t6E (b1A tmps t)++p5D tmps l
def g8B (S:St) (op:Op):List Nat:=bif t5E op then p5D S.tmps (t1A op) else []
def y1A (objs:Objs):List Nat→Objs
 | []=>[]
 | id::r=>match a1A id objs with
  | some oc=>(id,oc)::y1A objs r
  | none=>y1A objs r
def g6A (S:St) (o:Oper):St:=⟨t2A (t1A o.op) 0 S.tmps,S.objs,S.next⟩
def r9B (S:St) (o:Oper):St:=⟨t2A (t1A o.op) 0 S.tmps,y1A S.objs (g8B S o.op),S.next⟩
def e4A:AV→List Nat
 | .oref id _ | .ptr id _ | .ptrA id _ _ _ _ _ | .ptrO id _ _ | .bsl id _ _ _ _ _ | .mapr id=>[id]
 | .func _ a b=>idsVs a++idsVs b
 | .cbox c=>e4A c
 | .agg cs=>idsVs cs
 | .tup vs=>idsVs vs
 | .iface _ _ cs=>idsVs cs
 | _=>[]
where idsVs:List AV→List Nat
 | []=>[]
 | v::l=>e4A v++idsVs l
def k0C:List (Nat×AV)→List Nat
 | []=>[]
 | p::l=>e4A p.2++k0C l
def d4B (S:St):Op→Option (List Nat×Nat)
 | .alloc _ | .box .. | .makeSlice ..=>some ([],S.next)
 | .buildSlice _ _ ps=>some (k0C (f1A S ps.toList),S.next)
 | .store _ a _=>match ev S a with
  | .ptr id _=>some ([id],S.next)
  | _=>none
 | .call { callee:=.value f,args,.. }=>match ev S f with
  | .func g first caps=>match H.calm g S.objs (e4A.idsVs (g3A first (g3A (d5A (ev S) args.toList) caps))) with
   | some l=>some (l,S.next)
   | none=>none
  | _=>none
 | .call { callee:=.builtin .append,args,.. }=>match args.toList with
  | [s,_]=>match ev S s with
   | .nilsl=>some ([],S.next)
   | .oref j _=>some ([j],S.next)
   | _=>none
  | _=>none
 | _=>none
def s0B:List Oper→Nat→Option Oper
 | [],_=>none
 | o::l,i=>match i with
  | 0=>some o
  | i+1=>s0B l i
def nthN:List Nat→Nat→Nat
 | [],_=>0
 | o::l,i=>match i with
  | 0=>o
  | i+1=>nthN l i
def ancE (acc:List Nat):List Edge→Nat
 | []=>0
 | e::l=>bif Region.binds .any e then (2 ^ e.on|||nthN acc e.on)|||ancE acc l else ancE acc l
def u7A:List Oper→List Nat→List Nat
 | [],acc=>acc
 | o::l,acc=>u7A l (acc++[ancE acc o.after.toList])
def l4B (i:Nat):List Edge→Bool
 | []=>true
 | e::l=>(!Region.binds .any e||Nat.blt e.on i)&&l4B i l
def k1C:Nat→List Oper→Bool
 | _,[]=>true
 | i,o::l=>l4B i o.after.toList&&k1C (i+1) l
def dstIn (d:Nat):List Oper→Bool
 | []=>false
 | o::l=>(match o.dst with
  | some t=>Nat.beq t d
  | none=>false)||dstIn d l
def k2C:List Oper→Bool
 | []=>true
 | o::l=>(match o.dst with
  | some t=>!dstIn t l
  | none=>true)&&k2C l
def g9B (d:Nat):Nat→List Oper→Option Nat
 | _,[]=>none
 | i,o::l=>match o.dst with
  | some t=>bif Nat.beq t d then some i else g9B d (i+1) l
  | none=>g9B d (i+1) l
def k3C (pi:List Nat):Nat→Bool
 | 0=>true
 | n+1=>memN n pi&&k3C pi n
def s1B (ops:List Oper) (pi:List Nat):Bool:=k2C ops&&k1C 0 ops&&k3C pi ops.length
structure Ent where
 j:Nat
 chain:Bool
 alloc:Bool
 fp:Option (List Nat×Nat)
 anc:Nat
 prev:Nat
def l7A (an:List Nat) (prev j:Nat) (o:Oper) (S:St):Ent:=
 ⟨j,e3A T o.op,r8A T S o,bif e3A T o.op then d4B H S o.op else some (g8B S o.op,0),nthN an j,prev⟩
def k4C:List Nat→List Nat→Bool
 | [],_=>true
 | a::l,m=>!memN a m&&k4C l m
def k5C (n:Nat):List Nat→Bool
 | []=>true
 | a::l=>Nat.blt a n&&k5C n l
def s2B:Option (List Nat×Nat)→Option (List Nat×Nat)→Bool
 | some l,some m=>k4C l.1 m.1&&k5C m.2 l.1
 | some l,none=>match l.1 with
  | []=>true
  | _=>false
 | _,_=>false
def a1C (e f:Ent):Bool:=
  !Nat.beq e.j f.j &&
  (Nat.testBit f.anc e.j ||
    (match e.chain,f.chain with
     | true,true=>f.alloc
     | false,false=>true
     | false,true=>s2B e.fp f.fp
     | true,false=>s2B f.fp e.fp)) &&
  (!(e.alloc&&Nat.testBit f.anc e.j)||Nat.beq (e.prev&&&f.anc) e.prev)
def k6C (f:Ent):List Ent→Bool
 | []=>true
 | e::l=>a1C e f&&k6C f l
def inLog (i:Nat):List Ent→Bool
 | []=>false
 | e::l=>Nat.beq e.j i||inLog i l
def p6D (ops:List Oper) (an:List Nat) (j anc:Nat) (log:List Ent) (t:Nat):Bool:=
 match g9B t 0 ops with
 | none=>true
 | some i=>bif inLog i log then Nat.testBit anc i else Nat.beq i j||Nat.testBit (nthN an i) j
def a2C (ops:List Oper) (an:List Nat) (j anc:Nat) (log:List Ent):List Nat→Bool
 | []=>true
 | t::l=>p6D ops an j anc log t&&a2C ops an j anc log l
def s3B (ops:List Oper) (o:Oper):List Nat:=
 match o.guard with
 | none=>[]
 | some (g,_)=>match r7B ops g with
  | some d=>[d]
  | none=>[]
def b2D (ops:List Oper) (an:List Nat) (o:Oper) (f:Ent) (log:List Ent):Bool:=
 k6C f log&&a2C ops an f.j f.anc log (t1A o.op)&&a2C ops an f.j f.anc log (s3B ops o)
def y2A {R:Type} (o:Oper) (S:St) (K:St→Option R):Option R:=
 bif e3A T o.op then opV T H o.op (g6A S o) fun v objs next=>K (S.step o.dst v objs next)
 else match r8B T (r9B S o) o.op with
  | some v=>K (S.step o.dst v S.objs S.next)
  | none=>match m9A T (r9B S o) o.op with
  | .val v=>K (S.step o.dst v S.objs S.next)
  | .gval b v=>bif b then K (S.step o.dst v S.objs S.next) else none
  | .no=>none
def o2A {R:Type} (ops:Array Oper) (an:List Nat):List Nat→List Ent→Nat→St→(St→Option R)→Option R
 | [],_,_,S,K=>K S
 | j::rest,log,prev,S,K=>match s0B ops.toList j with
  | none=>none
  | some o=>bif b2D ops.toList an o (l7A T H an prev j o S) log then
    (match u6A ops S o with
    | .no=>none
    | .run=>y2A T H o S fun S'=>o2A ops an rest (l7A T H an prev j o S::log) (bif e3A T o.op then prev|||2 ^ j else prev) S' K
    | .skip=>o2A ops an rest (l7A T H an prev j o S::log) (bif e3A T o.op then prev|||2 ^ j else prev) (S.step o.dst (.tup []) S.objs S.next) K
    | .test d b want=>match want with
     | true=>bif b then y2A T H o (S.put (some d) (.bool true)) fun S'=>o2A ops an rest (l7A T H an prev j o S::log) (bif e3A T o.op then prev|||2 ^ j else prev) S' K
       else o2A ops an rest (l7A T H an prev j o S::log) (bif e3A T o.op then prev|||2 ^ j else prev) ((S.put (some d) (.bool false)).step o.dst (.tup []) S.objs S.next) K
     | false=>bif b then o2A ops an rest (l7A T H an prev j o S::log) (bif e3A T o.op then prev|||2 ^ j else prev) ((S.put (some d) (.bool true)).step o.dst (.tup []) S.objs S.next) K
       else y2A T H o (S.put (some d) (.bool false)) fun S'=>o2A ops an rest (l7A T H an prev j o S::log) (bif e3A T o.op then prev|||2 ^ j else prev) S' K)
   else none
def s4B {R:Type} (ops:Array Oper) (pi:List Nat) (S:St) (K:St→Option R):Option R:=
 bif s1B ops.toList pi then o2A T H ops (u7A ops.toList []) pi [] 0 S K else none
def b3D (S:St) (c:Operand) (b:Bool):St:=
 match c with
 | .tmp t=>S.put (some t) (.bool b)
 | _=>S
def n2B {R:Type} (body:St→(Ex→St→Option R)→Option R) (K:Ex→St→Option R):Nat→St→Option R
 | 0,_=>none
 | n+1,S=>body S fun x S=>match x with
  | .normal=>n2B body K n S
  | x=>K x S
def joinK {R:Type} (ex:Option p0A) (S:St) (K:Ex→St→Option R) (run:∀ {R':Type},(Ex→St→Option R')→Option R'):Option R:=
 match ex with
 | none=>run K
 | some ex=>(run fun x S'=>j7A S ex x S').bind fun j=>s9A S ex j K
def y3A:Code→Bool
 | .seq a b=>y3A a&&y3A b
 | .cond _ a b=>y3A a&&y3A b
 | .block _ a=>y3A a
 | .loop a=>y3A a
 | .scope a=>y3A a
 | .rangeFunc ..=>false
 | _=>true
structure Bk where
 sid:Nat
 bid:Nat
 n:Nat
def k7C (S:St) (v:AV):Option Bk:=
 match v with
 | .func f [] [.ptr sid 0]=>match H.back f with
  | some n=>match a1A sid S.objs with
   | some (.box [.bsl bid 0 n' (.int .i64) 0 len])=>bif Nat.beq n' n&&Nat.beq len n&&!Nat.beq bid sid then some ⟨sid,bid,n⟩ else none
   | _=>none
  | none=>none
 | _=>none
def a3C (S:St) (b:Bk) (i:Nat):Option AV:=
 match a1A b.bid S.objs with
 | some (.box [.arr n (.int .i64) l])=>bif Nat.beq n b.n then some (.int .i64 (l.getD i 0)) else none
 | _=>none
def a4C {X R:Type} (f:Nat→X→Option (X⊕R)):Nat→X→Option (X⊕R)
 | 0,x=>some (.inl x)
 | n+1,x=>match f n x with
  | some (.inl y)=>a4C f n y
  | some (.inr r)=>some (.inr r)
  | none=>none
def s5B (tmps:List AV):List Nat→List AV→List AV
 | p::ps,v::vs=>s5B (g2A tmps p v) ps vs
 | _,_=>tmps
def St.tm (S:St) (tmps:List AV):St:={ S with tmps:=tmps }
def s6B {R:Type} (S:St) (bk:Bk) (ps:List Nat) (sp:u4A) (ex:p0A) (as bo:∀ {R':Type},St→(Ex→St→Option R')→Option R') (K:Ex→St→Option R):Option R:=
 oB (d0A S S.tmps sp S.objs) fun p=>(a4C (fun i p=>oB (a3C (c0A S sp p (d3A S)) bk i) fun v =>
   as ((c0A S sp p (d3A S)).tm (s5B S.tmps ps [.int .i64 (i:Int),v])) fun e S1=>match e with
    | .normal=>bo S1 fun e S'=>match e with
     | .normal=>oM (d0A S S'.tmps sp S'.objs) Sum.inl
     | e=>oM (j7A S ex e S') Sum.inr
    | _=>none) bk.n p).bind fun r=>match r with
  | .inl p=>K .normal ((c0A S sp p (d3A S)).tm S.tmps)
  | .inr j=>s9A S ex j fun e S'=>K e (S'.tm S.tmps)
def noG {R:Type} (g:Option Gv) (x:Option R):Option R:=
 match g with
 | none=>x
 | some _=>none
noncomputable def c1A:Code→Ann→Option Gv→{R:Type}→St→(Ex→St→Option R)→Option R
  | .skip,a,g,_,S,K=>noG g <| joinK a.ex S K fun K=>K .normal S
  | .label _,a,g,_,S,K=>noG g <| joinK a.ex S K fun K=>K .normal S
  | .exit id,a,g,_,S,K=>noG g <| joinK a.ex S K fun K=>K (.exit id) S
  | .ret,a,g,_,S,K=>noG g <| joinK a.ex S K fun K=>match t0A S a.inner with
    | none=>none
    | some q=>bif q.1 then K .ret q.2.1 else none
  | .region _ ops draw,a,g,_,S,K=>match g with
    | none=>joinK a.ex S K fun K=>match t0A S a.inner with
      | none=>none
      | some q=>bif q.1 then (match draw with
        | false=>n0A T H ops ops.toList q.2.1 (K .normal)
        | true=>match q.2.2 with
          | .draw pi=>s4B T H ops pi q.2.1 (K .normal)
          | _=>none) else none
    | some g=>match draw with
      | false=>match ops.toList with
        | o::rest=>n0A T H ops rest (S.step o.dst g.v (a9A g.id g.oc S.objs) S.next) (K .normal)
        | []=>none
      | true=>none
  | .seq x y,a,g,_,S,K=>match g with
    | none=>joinK a.ex S K fun K=>c1A x a.inner.left none S fun e S=>match e with
      | .normal=>c1A y a.inner.right none S K
      | e=>K e S
    | some g=>c1A x a.inner.left (some g) S fun e S=>match e with
      | .normal=>c1A y a.inner.right none S K
      | e=>K e S
  | .cond c x y,a,g,_,S,K=>noG g <| joinK a.ex S K fun K=>match ev S c with
    | .bool b=>bif b then c1A x a.inner.left none (b3D S c true) K else c1A y a.inner.right none (b3D S c false) K
    | _=>none
  | .block id c,a,g,_,S,K=>noG g <| joinK a.ex S K fun K=>c1A c a.inner.left none S fun e S=>match e with
    | .exit id'=>bif Nat.beq id' id then K .normal S else K (.exit id') S
    | e=>K e S
  | .loop c,a,g,_,S,K=>noG g <| joinK a.ex S K fun K=>match a.inner with
    | .loop sp ex a=>oB (d0A S S.tmps sp S.objs) fun p=>(iter (fun p=>c1A c a none (c0A S sp p (d3A S)) fun e S'=>match e with
        | .normal=>oM (d0A S S'.tmps sp S'.objs) Sum.inl
        | e=>oM (j7A S ex e S') Sum.inr) p).bind fun j=>s9A S ex j K
    | .roll n a=>n2B (fun S K=>c1A c a none S K) K n S
    | .peel sp ex a s g b c2=>match c2 with
      | .loop sp2 ex2 a2=>oB (d0A S S.tmps sp S.objs) fun p=>(iter (R:=PT sp⊕JT ex) (fun p=>bif Nat.beq (m7B (b1A (c0A S sp p (d3A S)).tmps s)) g then some (Sum.inr (Sum.inl p)) else c1A c a none (c0A S sp p (d3A S)) fun e S'=>match e with
            | .normal=>oM (d0A S S'.tmps sp S'.objs) Sum.inl
            | e=>oM (j7A S ex e S') fun j=>Sum.inr (Sum.inr j)) p).bind fun r=>match r with
          | .inl p=>c1A c b none (c0A S sp p (d3A S)) fun e S1=>match e with
            | .normal=>oB (d0A S1 S1.tmps sp2 S1.objs) fun p=>(iter (fun p=>c1A c a2 none (c0A S1 sp2 p (d3A S1)) fun e S'=>match e with
                | .normal=>oM (d0A S1 S'.tmps sp2 S'.objs) Sum.inl
                | e=>oM (j7A S1 ex2 e S') Sum.inr) p).bind fun j=>s9A S1 ex2 j K
            | e=>K e S1
          | .inr j=>s9A S ex j K
      | _=>none
    | .each sp ex k v a=>match n0B c with
      | some q=>oB (d0A S S.tmps sp S.objs) fun p=>(b0D (fun p=>match m9B (c0A S sp p (d3A S)) (b1A (c0A S sp p (d3A S)).tmps q.2) k v with
            | some m=>x9A m.es m.since m.seen m.last
            | none=>[])
          (fun ch p=>oB (m9B (c0A S sp p (d3A S)) (b1A (c0A S sp p (d3A S)).tmps q.2) k v) fun m=>match ch with
            | none=>c1A c a (some (gvN m)) (c0A S sp p (d3A S)) fun e S'=>match e with
              | .normal=>oM (d0A S S'.tmps sp S'.objs) Sum.inl
              | e=>oM (j7A S ex e S') Sum.inr
            | some en=>c1A c a (some (gvS m en)) (c0A S sp p (d3A S)) fun e S'=>match e with
              | .normal=>oM (d0A S S'.tmps sp S'.objs) Sum.inl
              | e=>oM (j7A S ex e S') Sum.inr) p).bind fun j=>s9A S ex j K
      | none=>none
    | _=>none
  | .scope c,a,g,_,S,K=>noG g <| joinK a.ex S K fun K=>c1A c a.inner.left none S K
  | .rangeFunc f ps x y,a,g,_,S,K=>noG g <| joinK a.ex S K fun K=>match a.inner with
    | .loop sp ex b=>bif y3A x&&y3A y&&Nat.beq ps.size 2 then oB (k7C H S (ev S f)) fun bk =>
        s6B { S with objs:=b9A bk.sid S.objs } bk ps.toList sp ex (fun S K=>c1A x .no none S K) (fun S K=>c1A y b none S K) K
      else none
    | _=>none
  | .goto _,_,_,_,_,_=>none
  | .refuse _,_,_,_,_,_=>none
end
def a2B (f:FuncId):List (Nat×Callee)→Option Callee
 | []=>none
 | (j,c)::r=>bif Nat.beq j f then some c else a2B f r
def k8C (objs:Objs):List Nat→List Nat
 | []=>[]
 | id::l=>match a1A id objs with
  | some (.box cs)=>e4A.idsVs cs++k8C objs l
  | some (.hol _ _ _ cs _)=>e4A.idsVs cs++k8C objs l
  | _=>k8C objs l
def n3B (objs:Objs):Nat→List Nat→List Nat
 | 0,_=>[]
 | n+1,ids=>match ids with
  | []=>[]
  | ids=>ids++n3B objs n (k8C objs ids)
def inO (ids:List Nat):Objs→Objs
 | []=>[]
 | p::l=>bif memN p.1 ids then p::inO ids l else inO ids l
def r9A (ids:List Nat):Objs→Objs
 | []=>[]
 | p::l=>bif memN p.1 ids then r9A ids l else p::r9A ids l
def a3B (ids:List Nat) (n:Nat):Objs→Objs
 | []=>[]
 | p::l=>bif memN p.1 ids||Nat.ble n p.1 then p::a3B ids n l else a3B ids n l
def a4B:Objs→Objs→Objs
 | [],m=>m
 | p::l,m=>a9A p.1 p.2 (a4B l m)
def hasFn (g:Nat):List AV→Bool
 | []=>false
 | v::l=>match v with
  | .func f _ _=>Nat.beq f g||hasFn g l
  | _=>hasFn g l
def p7D (args:List AV):Ann→Ann
 | .alt g a b=>bif hasFn g args then a else p7D args b
 | a=>a
def s7B:FuncId→List AV→Option (List AV)
 | _,[]=>none
 | g,[v]=>match v with
  | .func f [] []=>bif Nat.beq f g then some [] else none
  | _=>none
 | g,v::w::l=>oM (s7B g (w::l)) (v::·)
def k9C (g:Option FuncId) (args:List AV):Option (List AV):=
 match g with
 | none=>some args
 | some g=>s7B g args
def l0C (g:Option FuncId) (args:List AV):List AV:=
 match g with
 | none=>args
 | some g=>g3A args [.func g [] []]
def a5C {R:Type} (t:Ty) (bytes:Nat) (args:List AV) (S:St) (K:AV→St→Option R):Option R:=
 match args with
 | [.oref a none,.int .i64 k,.oref b none]=>match a1A a S.objs,a1A b S.objs with
  | some (.arr t1 l),some (.hol t2 m _ cs _)=>match j1A t1 t l,j1A t2 t m with
   | some l,some [_]=>bif (decide (0≤k)&&decide (k≤(l.length:Int)))&&c6A bytes (l.length+1) then
     K (.oref S.next none) { S with objs:=a9A S.next (.hol t (l.take k.toNat++(c4A t::l.drop k.toNat)) k.toNat cs false) (b9A b (b9A a S.objs)),next:=S.next+1 } else none
   | _,_=>none
  | _,_=>none
 | _=>none
def l1C {R:Type} (pt:Ty) (ins outs:List (Bool×Ty)) (fn:den pt→c8A ins→Option (den pt×c8A outs)) (args:List AV) (S:St) (K:AV→St→Option R):Option R:=
  match args with
  | .ptr id 0::vs=>match a1A id S.objs with
    | some (.box cs)=>match b2A pt cs (b9A id S.objs) with
      | some (p,[],objs1)=>match f9A ins vs objs1 with
        | some (x,objs2)=>(fn p x).bind fun r =>
          K (l2A outs r.2 ⟨a9A id (.box (a8A pt r.1 ⟨objs2,S.next⟩).1) (a8A pt r.1 ⟨objs2,S.next⟩).2.objs,(a8A pt r.1 ⟨objs2,S.next⟩).2.next⟩).1
            { S with objs:=(l2A outs r.2 ⟨a9A id (.box (a8A pt r.1 ⟨objs2,S.next⟩).1) (a8A pt r.1 ⟨objs2,S.next⟩).2.objs,(a8A pt r.1 ⟨objs2,S.next⟩).2.next⟩).2.objs,
                     next:=(l2A outs r.2 ⟨a9A id (.box (a8A pt r.1 ⟨objs2,S.next⟩).1) (a8A pt r.1 ⟨objs2,S.next⟩).2.objs,(a8A pt r.1 ⟨objs2,S.next⟩).2.next⟩).2.next }
        | none=>none
      | _=>none
    | _=>none
  | _=>none
noncomputable def l9A (T:Tab) (E:List (Nat×Callee)):Nat→Handler
 | 0=>⟨fun _ _ _ _=>none,fun _=>false,fun _ _ _=>none,fun _=>none,fun _=>false⟩
 | n+1=>⟨fun f args S K=>match a2B f E with
  | none=>none
  | some (.back ..)=>none
  | some (.ext fn)=>(match fn args with
   | some v=>K v S
   | none=>none)
  | some (.insH t bytes)=>a5C t bytes args S K
  | some (.semP pt ins outs fn)=>l1C pt ins outs fn args S K
  | some (.sem ins outs fn g)=>oB (k9C g args) fun args=>bif a1B outs&&r6A ins then (match r6B S.objs ins args with
    | some x=>(fn x).bind fun y=>match l2A outs y ⟨S.objs,S.next⟩ with
     | (v,m)=>K v { S with objs:=m.objs,next:=m.next }
    | none=>none)
   else (match f9A ins args S.objs with
    | some (x,objs)=>(fn x).bind fun y=>match l2A outs y ⟨objs,S.next⟩ with
     | (v,m)=>K v { S with objs:=m.objs,next:=m.next }
    | none=>none)
  | some (.inl fn body ann)=>c1A T (l9A T E n) body (p7D args ann) none ⟨g3A args (p8A (.tup []) (fn.ntmps - x4A args)),inO (n3B S.objs 6 (e4A.idsVs args)) S.objs,S.next⟩ fun e S'=>match e with
   | .exit _=>none
   | _=>match r7A S' fn.results.toList T with
    | some vs=>K (a0C vs) { S with objs:=a4B (r9A (n3B S.objs 6 (e4A.idsVs args)) S.objs) (a3B (n3B S.objs 6 (e4A.idsVs args)) S.next S'.objs),next:=S'.next }
    | none=>none,
  fun f=>match a2B f E with
   | some (.sem ins outs _ _)=>a1B outs&&r6A ins
   | some (.ext _)=>true
   | _=>false,
  fun f objs ids=>match a2B f E with
   | some (.sem ..)=>some ids
   | some (.insH ..)=>some ids
   | some (.inl ..)=>some (n3B objs 6 ids)
   | some (.ext _)=>some ids
   | _=>none,
  fun f=>match a2B f E with
   | some (.back n)=>some n
   | _=>none,
  fun f=>match a2B f E with
   | some (.ext _)=>true
   | _=>false⟩
noncomputable def b4D (T:Tab) (E:List (Nat×Callee)) (depth:Nat) (fn:Func) (body:Code) (ann:Ann) (ins outs:List (Bool×Ty)) (x:c8A ins) (g:Option FuncId:=none):Option (c8A outs):=
 match f4A ins x ⟨[],0⟩ with
 | (args,m)=>c1A T (l9A T E depth) body ann none ⟨g3A (l0C g args) (p8A (.tup []) (fn.ntmps - x4A (l0C g args))),m.objs,m.next⟩ fun e S'=>match e with
  | .exit _=>none
  | _=>match r7A S' fn.results.toList T with
   | some vs=>match f9A outs vs S'.objs with
    | some (y,_)=>some y
    | none=>none
   | none=>none
def s4A {A:Type} (bytes:Nat) (l:List A) (i:Int) (v:List A):Option (List A):=
 bif (decide (0≤i)&&decide (i≤(l.length:Int)))&&(decide (0<v.length)&&c6A bytes (l.length+v.length)) then some (l.take i.toNat++(v++l.drop i.toNat)) else none
def j3B {A:Type} (bytes:Nat) (l:List A) (i j:Int):Option (List A):=
 bif (decide (0≤i)&&decide (i≤j))&&(decide (j≤(l.length:Int))&&c6A bytes l.length) then some (l.take i.toNat++l.drop j.toNat) else none
end Go.Rx
namespace Go.Rx
variable [Inhabited GW]
structure MI where
 blk:Option Nat
 base:Nat
 len:Nat
 cap:Nat
 wd:Nat
structure Env where
 w:World
 ro:Nat→Prop
 M:Nat→MI
 N:Nat
def a2A (E:Env):(t:Ty)→den t→List Value→Prop
 | .int k,x,vs=>vs=[.int k x]
 | .bool,x,vs=>vs=[.bool x]
 | .str,x,vs=>vs=[.string x]
 | .sl t,l,vs=>∃ a cap,vs=[.slice a l.length cap]∧(l.length≤cap∧(a=none→cap=0))∧(l.length=0∨∃ b o,a=some ⟨b,o,none⟩∧E.ro b ∧
   ∀ i,(h:i<l.length)→∃ cs,a2A E t l[i] cs∧∀ j v,cs[j]? = some v→E.w.cell? ⟨b,o+i*a0A t+j,none⟩=some v)
 | .own _,_,_=>False
 | .unit,_,vs=>vs=[]
 | .pair a b,x,vs=>∃ u v,vs=u++v∧a2A E a x.1 u∧a2A E b x.2 v
 | .arr n t,l,vs=>l.length=n∧vs.length=n*a0A t∧∀ i,(h:i<l.length)→∃ cs,a2A E t l[i] cs∧∀ j v,cs[j]? = some v→vs[i*a0A t+j]? = some v
def u8A (E:Env) (t:Ty) (l:List (den t)) (b o:Nat):Prop:=
 ∀ i,(h:i<l.length)→∃ cs,a2A E t l[i] cs∧∀ j v,cs[j]? = some v→E.w.cell? ⟨b,o+i*a0A t+j,none⟩=some v
mutual
def a6A (E:Env):AV→List Value→Prop
  | .top,vs=>∃ v:Value,vs=[v]∧v.oneCell'=true
  | .int k n,vs=>vs=[.int k n]
  | .bool b,vs=>vs=[.bool b]
  | .str s,vs=>vs=[.string s]
  | .sl t l,vs=>a2A E (.sl t) l vs
  | .slv t l,vs=>a2A E (.sl t) l vs∧∃ a n c,vs=[.slice (some a) n c]
  | .nilsl,vs=>vs=[.slice none 0 0]
  | .arr n t l,vs=>a2A E (.arr n t) l vs
  | .oref id r,vs=>id<E.N∧match (E.M id).blk with
    | none=>vs=[.slice none 0 0]∧d1A r=0∧e9A (E.M id).len r=0
    | some b=>∃ o cap,vs=[.slice (some ⟨b,o,none⟩) (e9A (E.M id).len r) cap]∧e9A (E.M id).len r≤cap∧d1A r+e9A (E.M id).len r≤(E.M id).len ∧
        (cap=0∨(o=(E.M id).base+d1A r*(E.M id).wd∧d1A r+cap≤(E.M id).cap))
  | .ptr id off,vs=>id<E.N∧∃ b,(E.M id).blk=some b∧vs=[.pointer (some ⟨b,off,none⟩)]
  | .ptrA id off n t i sub,vs=>id<E.N∧i<n∧∃ b,(E.M id).blk=some b∧vs=[.pointer (some ⟨b,off+i*a0A t+sub,none⟩)]
  | .ptrO id i sub,vs=>id<E.N∧i<(E.M id).len∧∃ b,(E.M id).blk=some b∧vs=[.pointer (some ⟨b,(E.M id).base+i*(E.M id).wd+sub,none⟩)]
  | .ptrR t l i sub,vs=>i<l.length∧∃ b o,E.ro b∧vs=[.pointer (some ⟨b,o+i*a0A t+sub,none⟩)]∧u8A E t l b o
  | .bsl id off n t lo len,vs=>id<E.N∧lo+len≤n∧∃ b o,(E.M id).blk=some b∧vs=[.slice (some ⟨b,o,none⟩) len (n - lo)]∧(lo=n∨o=off+lo*a0A t)
  | .yld l,vs=>vs=[.func (.yield l) #[] #[]]
  | .gptr g,vs=>vs=[.pointer (some ⟨g,0,none⟩)]
  | .cbox c,vs=>∃ b v e,vs=[.pointer (some ⟨b,0,none⟩)]∧E.ro b∧E.w.heap[b]? = some (.cells #[v] e (0,0))∧i6A c=true∧a6A E c [v]
  | .nilp,vs=>vs=[.pointer none]
  | .func f first caps,vs=>∃ A B,vs=[.func (.func f) A B]∧e5A E first A.toList∧e5A E caps B.toList
  | .nilf,vs=>vs=[.nilFunc]
  | .mapr id,vs=>id<E.N∧∃ b,(E.M id).blk=some b∧vs=[.map (some b)]
  | .nilm,vs=>vs=[.map none]
  | .iface t ag cs,vs=>∃ ws,e5A E cs ws∧∃ x,vs=[.iface t x]∧((ag=true∧x=.agg ws.toArray)∨(ag=false∧ws=[x]))
  | .nili,vs=>vs=[.nilIface]
  | .agg _,_=>False
  | .tup _,_=>False
def e5A (E:Env):List AV→List Value→Prop
  | [],vs=>vs=[]
  | a::l,vs=>∃ v r,vs=v::r∧i6A a=true∧a6A E a [v]∧e5A E l r
end
def b0A (E:Env):List AV→List Value→Prop
 | [],vs=>vs=[]
 | a::l,vs=>∃ u r,vs=u++r∧a6A E a u∧b0A E l r
def d6A (E:Env):AV→Value→Prop
 | .agg cs,v=>∃ vs:List Value,v=.agg vs.toArray∧b0A E cs vs
 | .top,_=>True
 | .tup _,_=>False
 | .arr ..,_=>False
 | a,v=>a6A E a [v]
def j2A (E:Env):List AV→List Value→Prop
 | [],vs=>vs=[]
 | a::l,vs=>∃ v r,vs=v::r∧d6A E a v∧j2A E l r
def a3A (E:Env):AV→Value→Prop
 | .tup l,v=>∃ vs:List Value,v=.tuple vs.toArray∧j2A E l vs
 | a,v=>d6A E a v
def AV.isTup:AV→Bool
 | .tup _=>true
 | _=>false
theorem a3A.iff_V {E:Env} {a:AV} {v:Value} (h:a.isTup=false):a3A E a v↔d6A E a v:=by
 cases a <;> first
  | exact Iff.rfl
  | cases h
def d7A (E:Env) (t:Bool×Ty) (x:den t.2) (v:Value):Prop:=∃ cs:List Value,a2A E t.2 x cs∧if t.1=true then v=.agg cs.toArray else cs=[v]
def b5A (E:Env) (k v:Bool×Ty):List (Nat×(den k.2×den v.2))→List MapEntry→Prop
 | [],ms=>ms=[]
 | p::es,ms=>∃ e r,ms=e::r∧e.born=p.1∧d7A E k p.2.1 e.key∧d7A E v p.2.2 e.val∧b5A E k v es r
def a5B (E:Env) (t:Ty) (l:List (den t)) (g:Nat) (cs:List AV) (seg:List Value):Prop:=
 seg.length=l.length*a0A t∧g<l.length∧(∀ i,(h:i<l.length)→i≠g→∃ us,a2A E t l[i] us∧∀ j v,us[j]? = some v→seg[i*a0A t+j]? = some v) ∧
  ∃ us,b0A E cs us∧us.length=a0A t∧∀ j v,us[j]? = some v→seg[g*a0A t+j]? = some v
def c5A (E:Env) (m:MI):OC→Prop
 | .box cs=>∃ b vs e,m.blk=some b∧E.w.heap[b]? = some (.cells vs e (0,0))∧b0A E cs vs.toList
 | .arr t l=>m.len=l.length∧m.wd=a0A t∧match m.blk with
  | none=>l=[]
  | some b=>∃ vs e,E.w.heap[b]? = some (.cells vs e (0,0))∧l.length≤m.cap∧m.base+m.cap*a0A t≤vs.size ∧
    ∀ i,(h:i<l.length)→∃ cs,a2A E t l[i] cs∧∀ j v,cs[j]? = some v→vs[m.base+i*a0A t+j]? = some v
 | .map es=>∃ b ms ck,m.blk=some b∧E.w.heap[b]? = some (.map ms ck)∧ms.toList.map (·.key)=es.map (fun p=>Value.int .i64 p.1)∧e5A E (es.map (·.2)) (ms.toList.map (·.val))
 | .iter s pos=>∃ b,m.blk=some b∧E.w.heap[b]? = some (.stringIter s pos)
 | .mp k v es ck=>∃ b ms,m.blk=some b∧E.w.heap[b]? = some (.map ms ck)∧b5A E k v es ms.toList
 | .hol t l g cs _=>m.len=l.length∧m.wd=a0A t∧∃ b vs e,m.blk=some b∧E.w.heap[b]? = some (.cells vs e (0,0))∧l.length≤m.cap∧m.base+m.cap*a0A t≤vs.size ∧
   a5B E t l g cs ((vs.toList.drop m.base).take (l.length*a0A t))
 | .mit j since seen last=>∃ b mb,m.blk=some b∧j<E.N∧(E.M j).blk=some mb∧E.w.heap[b]? = some (.mapIter (some mb) since seen.toArray last)
def k2A (E:Env):Prop:=∀ g t x,d1B g=some ⟨t,x⟩→t.flat=true∧E.ro g∧∃ cs e fz,E.w.heap[g]? = some (.cells cs e fz)∧a2A E t x cs.toList
def glb (g:Nat):Prop:=(d1B g).isSome=true
theorem a2A.flatE {E E':Env}:∀ {t:Ty} {x:den t} {vs:List Value},t.flat=true→a2A E t x vs→a2A E' t x vs
 | .int _,_,_,_,r=>r
 | .bool,_,_,_,r=>r
 | .str,_,_,_,r=>r
 | .sl _,_,_,h,_=>nomatch h
 | .own _,_,_,h,_=>nomatch h
 | .unit,_,_,_,r=>r
 | .pair a b,x,vs,h,r=>by
  obtain ⟨u,v,e,r1,r2⟩:=r
  simp only [Ty.flat,Ac] at h
  exact ⟨u,v,e,a2A.flatE h.1 r1,a2A.flatE h.2 r2⟩
 | .arr n t,l,vs,h,r=>by
  obtain ⟨e1,e2,r⟩:=r
  refine ⟨e1,e2,fun i hi => ?_⟩
  obtain ⟨cs,r1,r2⟩:=r i hi
  exact ⟨cs,a2A.flatE (t:=t) h r1,r2⟩
theorem k2A.cells {E E':Env} (r:k2A E) (h:∀ g,glb g→E'.ro g∧∀ cs e fz,E.w.heap[g]? = some (.cells cs e fz)→E'.w.heap[g]? = some (.cells cs e fz)):k2A E':=fun g t x e=>by
 obtain ⟨f,_,cs,ty,fz,r2,r3⟩:=r g t x e
 have hg:=h g (by unfold glb; rw [e]; rfl)
 exact ⟨f,hg.1,cs,ty,fz,hg.2 _ _ _ r2,a2A.flatE f r3⟩
theorem k2A.mono {E E':Env} (r:k2A E) (h:∀ g,glb g→E'.ro g∧E'.w.heap[g]? = E.w.heap[g]?):k2A E' :=
 r.cells fun g hg=>⟨(h g hg).1,fun cs e fz hv=>by rw [(h g hg).2]; exact hv⟩
theorem k2A.elems {E:Env} (r:k2A E) (g:Nat) (t:Ty) (x:den t) (e:d1B g=some ⟨t,x⟩):t.flat=true∧E.ro g∧u8A E t [x] g 0:=by
 obtain ⟨f,h1,cs,ty,fz,h2,h3⟩:=r g t x e
 refine ⟨f,h1,fun i hi => ?_⟩
 have hi0:i=0:=by simpa using hi
 subst hi0
 refine ⟨_,h3,fun j v hj => ?_⟩
 rw [show 0+0*a0A t+j=j by omega]
 simp only [World.cell?,h2]
 simpa using hj
theorem k2A.ro {E:Env} (r:k2A E) {g:Nat} (h:glb g):E.ro g:=by
 unfold glb at h
 cases e:d1B g with
 | none=>rw [e] at h; cases h
 | some x=>exact (r g x.1 x.2 e).2.1
structure a4A (E:Env) (keep:Nat→Prop) (objs:Objs):Prop where
 rep:∀ id oc,a1A id objs=some oc→id<E.N∧c5A E (E.M id) oc
 sep:∀ id oc b,a1A id objs=some oc→(E.M id).blk=some b→¬ E.ro b∧¬ keep b
 inj:∀ id id' oc oc' b,a1A id objs=some oc→a1A id' objs=some oc'→(E.M id).blk=some b→(E.M id').blk=some b→id=id'
 rob:∀ b,E.ro b→b<E.w.heap.size
 kb:∀ b,keep b→b<E.w.heap.size
 gl:k2A E
def e0A (E:Env) (tmps:List AV) (vals:Array Value):Prop:=
 tmps.length=vals.size∧∀ (i:Nat) (v:Value),vals[i]? = some v→a3A E (b1A tmps i) v
def u9A (keep:Nat→Prop) (E:Env) (ds:List Deferred):Prop:=
 ∃ Ds:List Nat,ds=Ds.map (fun D=>{ target:=.collected D,args := #[] })∧Ds.Nodup∧∀ D∈Ds,¬ keep D∧E.ro D∧E.w.heap[D]? = some (.deferred (some []))
theorem u9A.nil (keep:Nat→Prop) (E:Env):u9A keep E []:=⟨[],rfl,List.nodup_nil,fun _ h=>(nomatch h)⟩
structure Rel (keep:Nat→Prop) (z:Nat) (S:St) (a:Act) (E:Env):Prop where
 size:a.tmps.size=z
 slots:e0A E S.tmps a.tmps
 mems:a4A E keep S.objs
 next:E.N=S.next
 defers:u9A keep E a.defers
def e1A (w w':World):Prop:=w'.os=w.os∧w'.output=w.output
theorem e1A.refl (w:World):e1A w w:=⟨rfl,rfl⟩
theorem e1A.trans {w w' w'':World} (h:e1A w w') (h':e1A w' w''):e1A w w'':=⟨h'.1.trans h.1,h'.2.trans h.2⟩
structure Later (keep:Nat→Prop) (E E':Env):Prop where
 ro:∀ b,E.ro b→E'.ro b
 roN:∀ b,E'.ro b→E.ro b∨¬ keep b
 M:∀ id,id<E.N→E'.M id=E.M id
 N:E.N≤E'.N
 size:E.w.heap.size≤E'.w.heap.size
 heapRo:∀ b,E.ro b→E'.w.heap[b]? = E.w.heap[b]?
 heapKeep:∀ b,keep b→E'.w.heap[b]? = E.w.heap[b]?
 out:e1A E.w E'.w
theorem Later.refl (keep:Nat→Prop) (E:Env):Later keep E E:=
 ⟨fun _ h=>h,fun _ h=>.inl h,fun _ _=>rfl,Ay _,Ay _,fun _ _=>rfl,fun _ _=>rfl,e1A.refl _⟩
theorem Later.trans {keep:Nat→Prop} {E E' E'':Env} (h:Later keep E E') (h':Later keep E' E''):Later keep E E'' :=
 ⟨fun b hb=>h'.ro b (h.ro b hb),fun b hb=>(h'.roN b hb).elim (fun x=>h.roN b x) .inr,fun id hi=>(h'.M id (Bi hi h.N)).trans (h.M id hi),Dz h.N h'.N,Dz h.size h'.size,
  fun b hb=>(h'.heapRo b (h.ro b hb)).trans (h.heapRo b hb),fun b hb=>(h'.heapKeep b hb).trans (h.heapKeep b hb),h.out.trans h'.out⟩
theorem u9A.later {keep:Nat→Prop} {E E':Env} {ds:List Deferred} (h:u9A keep E ds) (hL:Later keep E E'):u9A keep E' ds:=by
 obtain ⟨Ds,e,hn,h⟩:=h
 exact ⟨Ds,e,hn,fun D hD=>⟨(h D hD).1,hL.ro D (h D hD).2.1,(hL.heapRo D (h D hD).2.1).trans (h D hD).2.2⟩⟩
theorem b5D {w w':World} {b o:Nat} (h:w'.heap[b]? = w.heap[b]?):w'.cell? ⟨b,o,none⟩=w.cell? ⟨b,o,none⟩:=by
 simp only [World.cell?,h]
set_option linter.unusedSectionVars false
section
variable {keep:Nat→Prop} {E E':Env} (h:Later keep E E')
include h
theorem a2A.later:∀ {t:Ty} {x:den t} {vs:List Value},a2A E t x vs→a2A E' t x vs
 | .int _,_,_,r=>r
 | .bool,_,_,r=>r
 | .str,_,_,r=>r
 | .sl t,l,vs,r=>by
  obtain ⟨a,cap,e,hc,r⟩:=r
  refine ⟨a,cap,e,hc,r.imp id ?_⟩
  rintro ⟨b,o,e,hb,r⟩
  refine ⟨b,o,e,h.ro b hb,fun i hi => ?_⟩
  obtain ⟨cs,r1,r2⟩:=r i hi
  exact ⟨cs,a2A.later r1,fun j v hj=>(b5D (h.heapRo b hb)).trans (r2 j v hj)⟩
 | .own _,_,_,r=>r
 | .unit,_,_,r=>r
 | .pair a b,x,vs,r=>by
  obtain ⟨u,v,e,r1,r2⟩:=r
  exact ⟨u,v,e,a2A.later r1,a2A.later r2⟩
 | .arr n t,l,vs,r=>by
  obtain ⟨e1,e2,r⟩:=r
  refine ⟨e1,e2,fun i hi => ?_⟩
  obtain ⟨cs,r1,r2⟩:=r i hi
  exact ⟨cs,a2A.later r1,r2⟩
theorem u8A.later {t:Ty} {l:List (den t)} {b o:Nat} (hb:E.ro b) (r:u8A E t l b o):u8A E' t l b o:=fun i hi=>by
 obtain ⟨cs,r1,r2⟩:=r i hi
 exact ⟨cs,a2A.later h r1,fun j v hj=>(b5D (h.heapRo b hb)).trans (r2 j v hj)⟩
mutual
theorem a6A.later:∀ {a:AV} {vs:List Value},a6A E a vs→a6A E' a vs
 | .top,_,r=>r
 | .int ..,_,r=>r
 | .bool _,_,r=>r
 | .str _,_,r=>r
 | .sl _ _,_,r=>a2A.later h r
 | .slv _ _,_,r=>⟨a2A.later h r.1,r.2⟩
 | .nilsl,_,r=>r
 | .arr _ _ _,_,r=>a2A.later h r
 | .oref id rg,vs,r=>by
  obtain ⟨hi,r⟩:=r
  refine ⟨Bi hi h.N,?_⟩
  rw [h.M id hi]; exact r
 | .ptr id off,vs,r=>by
  obtain ⟨hi,r⟩:=r
  refine ⟨Bi hi h.N,?_⟩
  rw [h.M id hi]; exact r
 | .ptrA id off n t i sub,vs,r=>by
  obtain ⟨hi,r⟩:=r
  refine ⟨Bi hi h.N,?_⟩
  rw [h.M id hi]; exact r
 | .ptrO id i sub,vs,r=>by
  obtain ⟨hi,r⟩:=r
  refine ⟨Bi hi h.N,?_⟩
  rw [h.M id hi]; exact r
 | .ptrR t l i sub,vs,r=>by
  obtain ⟨hi,b,o,hb,e,r⟩:=r
  exact ⟨hi,b,o,h.ro b hb,e,u8A.later h hb r⟩
 | .bsl id off n t lo len,vs,r=>by
  obtain ⟨hi,r⟩:=r
  refine ⟨Bi hi h.N,?_⟩
  rw [h.M id hi]; exact r
 | .yld _,_,r=>r
 | .gptr _,_,r=>r
 | .cbox c,vs,r=>by
  obtain ⟨b,v,e,h1,h2,h3,h4,h5⟩:=r
  exact ⟨b,v,e,h1,h.ro b h2,(h.heapRo b h2).trans h3,h4,a6A.later h5⟩
 | .nilp,_,r=>r
 | .func f first caps,vs,r=>by
  obtain ⟨A,B,e,r1,r2⟩:=r
  exact ⟨A,B,e,e5A.later r1,e5A.later r2⟩
 | .nilf,_,r=>r
 | .mapr id,vs,r=>by
  obtain ⟨hi,r⟩:=r
  refine ⟨Bi hi h.N,?_⟩
  rw [h.M id hi]; exact r
 | .nilm,_,r=>r
 | .iface t ag cs,vs,r=>by
  obtain ⟨ws,r1,r2⟩:=r
  exact ⟨ws,e5A.later r1,r2⟩
 | .nili,_,r=>r
 | .agg _,_,r=>r
 | .tup _,_,r=>r
theorem e5A.later:∀ {l:List AV} {vs:List Value},e5A E l vs→e5A E' l vs
 | [],_,r=>r
 | a::l,vs,r=>by
  obtain ⟨v,s,e,hc,r1,r2⟩:=r
  exact ⟨v,s,e,hc,a6A.later r1,e5A.later r2⟩
end
theorem k2A.later (r:k2A E):k2A E':=r.mono fun g hg=>⟨h.ro g (r.ro hg),h.heapRo g (r.ro hg)⟩
theorem b0A.later:∀ {l:List AV} {vs:List Value},b0A E l vs→b0A E' l vs
 | [],_,r=>r
 | a::l,vs,r=>by
  obtain ⟨v,s,e,r1,r2⟩:=r
  exact ⟨v,s,e,a6A.later h r1,b0A.later r2⟩
theorem d7A.later {t:Bool×Ty} {x:den t.2} {v:Value} (r:d7A E t x v):d7A E' t x v:=by
 obtain ⟨cs,h1,h2⟩:=r
 exact ⟨cs,a2A.later h h1,h2⟩
theorem b5A.later {kt vt:Bool×Ty}:∀ {es:List (Nat×(den kt.2×den vt.2))} {ms:List MapEntry},b5A E kt vt es ms→b5A E' kt vt es ms
 | [],_,r=>r
 | p::es,_,r=>by
  obtain ⟨e,s,h0,h1,h2,h3,h4⟩:=r
  exact ⟨e,s,h0,h1,d7A.later h h2,d7A.later h h3,b5A.later h4⟩
theorem a5B.later {t:Ty} {l:List (den t)} {g:Nat} {cs:List AV} {seg:List Value} (r:a5B E t l g cs seg):a5B E' t l g cs seg:=by
 obtain ⟨h1,h2,h3,us,h4,h5⟩:=r
 refine ⟨h1,h2,fun i hi hg => ?_,us,b0A.later h h4,h5⟩
 obtain ⟨us,r1,r2⟩:=h3 i hi hg
 exact ⟨us,a2A.later h r1,r2⟩
theorem d6A.later {a:AV} {v:Value} (r:d6A E a v):d6A E' a v:=by
 cases a
 case agg cs=>obtain ⟨vs,e,r⟩:=r; exact ⟨vs,e,b0A.later h r⟩
 all_goals first | exact r | exact a6A.later h r
theorem j2A.later:∀ {l:List AV} {vs:List Value},j2A E l vs→j2A E' l vs
 | [],_,r=>r
 | a::l,vs,r=>by
  obtain ⟨v,s,e,r1,r2⟩:=r
  exact ⟨v,s,e,d6A.later h r1,j2A.later r2⟩
theorem a3A.later {a:AV} {v:Value} (r:a3A E a v):a3A E' a v:=by
 cases ht:a.isTup with
 | true =>
  cases a <;> first
   | (obtain ⟨vs,e,r⟩:=r; exact ⟨vs,e,j2A.later h r⟩)
   | cases ht
 | false=>exact (a3A.iff_V ht).2 (d6A.later h ((a3A.iff_V ht).1 r))
end
end Go.Rx
namespace Go.Rx
variable [Inhabited GW]
theorem a2A.length {E:Env}:∀ {t:Ty} {x:den t} {vs:List Value},a2A E t x vs→vs.length=a0A t
 | .int _,_,_,r=>by rw [r]; rfl
 | .bool,_,_,r=>by rw [r]; rfl
 | .str,_,_,r=>by rw [r]; rfl
 | .sl t,l,vs,r=>by obtain ⟨a,cap,e,_⟩:=r; rw [e]; rfl
 | .own _,_,_,r=>r.elim
 | .unit,_,_,r=>by rw [r]; rfl
 | .pair a b,x,vs,r=>by
  obtain ⟨u,v,e,r1,r2⟩:=r
  rw [e,Ak,a2A.length r1,a2A.length r2]; rfl
 | .arr n t,l,vs,r=>r.2.1
theorem a6A.length {E:Env} {a:AV} {vs:List Value} (r:a6A E a vs):vs.length=a.w:=by
 cases a with
 | top=>obtain ⟨v,e,_⟩:=r; rw [e]; rfl
 | sl t l=>exact a2A.length r
 | arr n t l=>exact r.2.1
 | oref id rg =>
  obtain ⟨_,r⟩:=r
  split at r
  ·rw [r.1]; rfl
  ·obtain ⟨o,cap,e,_⟩:=r; rw [e]; rfl
 | ptr id off=>obtain ⟨_,b,_,e⟩:=r; rw [e]; rfl
 | ptrA id off n t i sub=>obtain ⟨_,_,b,_,e⟩:=r; rw [e]; rfl
 | ptrO id i sub=>obtain ⟨_,_,b,_,e⟩:=r; rw [e]; rfl
 | ptrR t l i sub=>obtain ⟨_,b,o,_,e,_⟩:=r; rw [e]; rfl
 | bsl id off n t lo len=>obtain ⟨_,_,b,o,_,e,_⟩:=r; rw [e]; rfl
 | func f a b=>obtain ⟨A,B,e,_⟩:=r; rw [e]; rfl
 | mapr id=>obtain ⟨_,b,_,e⟩:=r; rw [e]; rfl
 | cbox c=>obtain ⟨b,v,e,h1,_⟩:=r; rw [h1]; rfl
 | iface t ag cs=>obtain ⟨ws,_,x,e,_⟩:=r; rw [e]; rfl
 | agg cs=>exact r.elim
 | tup cs=>exact r.elim
 | slv t l=>obtain ⟨_,a,n,c,e⟩:=r; rw [e]; rfl
 | _=>rw [show vs=_ from r]; rfl
theorem b0A.length {E:Env}:∀ {l:List AV} {vs:List Value},b0A E l vs→vs.length=o0A l
 | [],_,r=>by rw [show _=[] from r]; rfl
 | a::l,vs,r=>by
  obtain ⟨u,s,e,r1,r2⟩:=r
  rw [e,Ak,a6A.length r1,b0A.length r2]; rfl
theorem a2A.one {E:Env}:∀ {t:Ty} {x:den t} {vs:List Value},a2A E t x vs→∀ v∈vs,v.oneCell'=true
 | .int _,_,_,r,v,hv=>by rw [show _=_ from r] at hv; simp at hv; rw [hv]; rfl
 | .bool,_,_,r,v,hv=>by rw [show _=_ from r] at hv; simp at hv; rw [hv]; rfl
 | .str,_,_,r,v,hv=>by rw [show _=_ from r] at hv; simp at hv; rw [hv]; rfl
 | .sl t,l,vs,r,v,hv=>by obtain ⟨a,cap,e,_⟩:=r; rw [e] at hv; simp at hv; rw [hv]; rfl
 | .own _,_,_,r,_,_=>r.elim
 | .unit,_,_,r,v,hv=>by rw [show _=_ from r] at hv; simp at hv
 | .pair a b,x,vs,r,v,hv=>by
  obtain ⟨u,s,e,r1,r2⟩:=r
  rw [e] at hv
  rcases Ck.1 hv with h | h
  ·exact a2A.one r1 v h
  ·exact a2A.one r2 v h
 | .arr n t,l,vs,r,v,hv=>by
  obtain ⟨e1,e2,r⟩:=r
  obtain ⟨k,hk,rfl⟩:=List.getElem_of_mem hv
  have hw:0<a0A t:=by
   rcases Nat.eq_zero_or_pos (a0A t) with h | h
   ·rw [h,Nat.mul_zero] at e2; omega
   ·exact h
  have hi:k / a0A t<l.length:=by rw [e1]; exact Nat.div_lt_of_lt_mul (by rw [Nat.mul_comm]; omega)
  obtain ⟨cs,r1,r2⟩:=r (k / a0A t) hi
  have hj:k % a0A t<cs.length:=by rw [a2A.length r1]; exact Nat.mod_lt _ hw
  have:=r2 (k % a0A t) _ (Aq hj)
  rw [Nat.mul_comm,Nat.div_add_mod,Aq hk] at this
  rw [Bp this]
  exact a2A.one r1 _ (List.getElem_mem hj)
theorem a6A.one {E:Env} {a:AV} {vs:List Value} (r:a6A E a vs):∀ v∈vs,v.oneCell'=true:=by
 intro v hv
 cases a with
 | top=>obtain ⟨v,e,h⟩:=r; rw [e] at hv; simp at hv; rw [hv]; exact h
 | sl t l=>exact a2A.one r v hv
 | arr n t l=>exact a2A.one (t:=.arr n t) r v hv
 | oref id rg =>
  obtain ⟨_,r⟩:=r
  split at r
  ·rw [r.1] at hv; simp at hv; rw [hv]; rfl
  ·obtain ⟨o,cap,e,_⟩:=r; rw [e] at hv; simp at hv; rw [hv]; rfl
 | ptr id off=>obtain ⟨_,b,_,e⟩:=r; rw [e] at hv; simp at hv; rw [hv]; rfl
 | ptrA id off n t i sub=>obtain ⟨_,_,b,_,e⟩:=r; rw [e] at hv; simp at hv; rw [hv]; rfl
 | ptrO id i sub=>obtain ⟨_,_,b,_,e⟩:=r; rw [e] at hv; simp at hv; rw [hv]; rfl
 | ptrR t l i sub=>obtain ⟨_,b,o,_,e,_⟩:=r; rw [e] at hv; simp at hv; rw [hv]; rfl
 | bsl id off n t lo len=>obtain ⟨_,_,b,o,_,e,_⟩:=r; rw [e] at hv; simp at hv; rw [hv]; rfl
 | func f a b=>obtain ⟨A,B,e,_⟩:=r; rw [e] at hv; simp at hv; rw [hv]; rfl
 | mapr id=>obtain ⟨_,b,_,e⟩:=r; rw [e] at hv; simp at hv; rw [hv]; rfl
 | cbox c=>obtain ⟨b,v,e,h1,_⟩:=r; rw [h1] at hv; simp at hv; rw [hv]; rfl
 | iface t ag cs=>obtain ⟨ws,_,x,e,_⟩:=r; rw [e] at hv; simp at hv; rw [hv]; rfl
 | agg cs=>exact r.elim
 | tup cs=>exact r.elim
 | slv t l=>exact a2A.one r.1 v hv
 | _=>rw [show vs=_ from r] at hv; simp at hv; rw [hv]; rfl
theorem b0A.one {E:Env}:∀ {l:List AV} {vs:List Value},b0A E l vs→∀ v∈vs,v.oneCell'=true
 | [],_,r,v,hv=>by rw [show _=[] from r] at hv; simp at hv
 | a::l,vs,r,v,hv=>by
  obtain ⟨u,s,e,r1,r2⟩:=r
  rw [e] at hv
  rcases Ck.1 hv with h | h
  ·exact a6A.one r1 v h
  ·exact b0A.one r2 v h
theorem b0A.app {E:Env}:∀ {l m:List AV} {us vs:List Value},b0A E l us→b0A E m vs→b0A E (g3A l m) (us++vs)
 | [],_,_,_,r,s=>by rw [show _=[] from r]; exact s
 | a::l,m,us,vs,r,s=>by
  obtain ⟨u,t,e,r1,r2⟩:=r
  exact ⟨u,t++vs,by rw [e,Bz],r1,b0A.app r2 s⟩
theorem c2A {α:Type} {b:Bool} {x y:Option α} {z:α} (h:(bif b then x else y)=some z):(b=true∧x=some z)∨(b=false∧y=some z):=by
 cases b
 ·exact .inr ⟨rfl,h⟩
 ·exact .inl ⟨rfl,h⟩
theorem b4A {α β:Type} {x:Option α} {f:α→β} {z:β} (h:oM x f=some z):∃ a,x=some a∧f a=z:=by
 cases x with
 | none=>simp [oM] at h
 | some a=>exact ⟨a,rfl,by simpa [oM] using h⟩
theorem m0A {α β:Type} {x:Option α} {f:α→Option β} {z:β} (h:oB x f=some z):∃ a,x=some a∧f a=some z:=by
 cases x with
 | none=>simp [oB] at h
 | some a=>exact ⟨a,rfl,by simpa [oB] using h⟩
theorem b6D {E:Env}:∀ {cs:List AV} {vs:List Value} {n:Nat} {r:List AV},b0A E cs vs→r0B cs n=some r→n≤vs.length∧b0A E r (vs.drop n)
 | [],vs,n,r,h,e=>by
  simp only [r0B] at e
  rcases c2A e with ⟨hb,e⟩ | ⟨_,e⟩
  ·have hn:n=0:=Ag hb
   subst hn
   cases e; exact ⟨De _,h⟩
  ·cases e
 | c::cs,vs,n,r,h,e=>by
  simp only [r0B] at e
  rcases c2A e with ⟨hb,e⟩ | ⟨hb,e⟩
  ·have hn:n=0:=Ag hb
   subst hn
   cases e; exact ⟨De _,h⟩
  ·rcases c2A e with ⟨hc,e⟩ | ⟨_,e⟩
   ·have hn:c.w≤n:=Bx hc
    obtain ⟨u,s,rfl,r1,r2⟩:=h
    obtain ⟨h1,h2⟩:=b6D r2 e
    have hl:=a6A.length r1
    refine ⟨by rw [Ak]; omega,?_⟩
    rw [List.drop_append,List.drop_eq_nil_of_le (by omega),Cv,hl]; exact h2
   ·cases e
theorem b7D {E:Env}:∀ {cs:List AV} {vs:List Value} {n:Nat} {r:List AV},b0A E cs vs→r1B cs n=some r→n≤vs.length∧b0A E r (vs.take n)
 | [],vs,n,r,h,e=>by
  simp only [r1B] at e
  rcases c2A e with ⟨hb,e⟩ | ⟨_,e⟩
  ·have hn:n=0:=Ag hb
   subst hn
   cases e; exact ⟨De _,by rw [List.take_zero]; rfl⟩
  ·cases e
 | c::cs,vs,n,r,h,e=>by
  simp only [r1B] at e
  rcases c2A e with ⟨hb,e⟩ | ⟨hb,e⟩
  ·have hn:n=0:=Ag hb
   subst hn
   cases e; exact ⟨De _,by rw [List.take_zero]; rfl⟩
  ·rcases c2A e with ⟨hc,e⟩ | ⟨_,e⟩
   ·have hn:c.w≤n:=Bx hc
    obtain ⟨r',e',rfl⟩:=b4A e
    obtain ⟨u,s,rfl,r1,r2⟩:=h
    obtain ⟨h1,h2⟩:=b7D r2 e'
    have hl:=a6A.length r1
    refine ⟨by rw [Ak]; omega,u,s.take (n - c.w),?_,r1,h2⟩
    rw [List.take_append,Bn (by omega),hl]
   ·cases e
theorem a6C {E:Env} {cs:List AV} {vs:List Value} {off n:Nat} {r:List AV} (h:b0A E cs vs) (e:cut cs off n=some r) :
  off+n≤vs.length∧b0A E r ((vs.drop off).take n):=by
 obtain ⟨a,e1,e2⟩:=m0A e
 obtain ⟨h1,h2⟩:=b6D h e1
 obtain ⟨h3,h4⟩:=b7D h2 e2
 rw [Ar] at h3
 exact ⟨by omega,h4⟩
theorem h0B {E:Env} {cs new:List AV} {vs nvs:List Value} {off:Nat} {r:List AV} (h:b0A E cs vs) (hn:b0A E new nvs) (e:d2B cs off new=some r) :
  off+nvs.length≤vs.length∧b0A E r (vs.take off++(nvs++vs.drop (off+nvs.length))):=by
 obtain ⟨a,e1,e2⟩:=m0A e
 obtain ⟨b,e3,rfl⟩:=b4A e2
 obtain ⟨_,h2⟩:=b7D h e1
 rw [←b0A.length hn] at e3
 obtain ⟨h3,h4⟩:=b6D h e3
 exact ⟨h3,b0A.app h2 (b0A.app hn h4)⟩
def mkV (agg:Bool) (vs:List Value):Value:=if agg then .agg vs.toArray else vs.headD undef
theorem l2C {E:Env} {agg:Bool} {cs:List AV} {vs:List Value} {v:AV} (h:b0A E cs vs) (e:l8B agg cs=some v):d6A E v (mkV agg vs):=by
  unfold l8B at e
  split at e
  · cases e; exact ⟨vs,rfl,h⟩
  · cases e
  · rename_i c hc
    cases e
    obtain ⟨u,s,rfl,r1,r2⟩:=h
    rw [show s=[] from r2,Bc]
    have hl:=a6A.length r1
    cases v <;> first
      | exact (hc _ _ _ rfl).elim
      | exact trivial
      | exact r1.elim
      | (have hl:u.length=1:=hl
         match u,hl,r1 with
         | [x],_,r1=>exact r1)
  · cases e
theorem o3A {E:Env}:∀ {t:Ty} {x:den t} {vs:List Value},a2A E t x vs→b0A E (enc t x) vs
 | .int _,_,vs,r=>⟨vs,[],by simp,r,rfl⟩
 | .bool,_,vs,r=>⟨vs,[],by simp,r,rfl⟩
 | .str,_,vs,r=>⟨vs,[],by simp,r,rfl⟩
 | .sl t,l,vs,r=>⟨vs,[],by simp,r,rfl⟩
 | .own _,_,_,r=>r.elim
 | .unit,_,_,r=>r
 | .pair a b,x,vs,r=>by
  obtain ⟨u,v,rfl,r1,r2⟩:=r
  exact b0A.app (o3A r1) (o3A r2)
 | .arr n t,l,vs,r=>⟨vs,[],by simp,r,rfl⟩
theorem t7E {E:Env} (v:Value):x5A v=.top∨a6A E (x5A v) [v]:=by
 unfold x5A
 split <;> first
  | exact .inl rfl
  | exact .inr rfl
theorem t8E {a:AV} {l:List AV} (h:l9B (a::l)=true):a≠.top∧l9B l=true:=by
 cases a <;> first
  | exact ⟨nofun,h⟩
  | exact absurd h (by simp [l9B])
theorem p8D {E:Env}:∀ (vs:List Value),l9B (d5A x5A vs)=true→b0A E (d5A x5A vs) vs
 | [],_=>rfl
 | v::vs,h=>by
  obtain ⟨h1,h2⟩:=t8E h
  exact ⟨[v],vs,rfl,(t7E v).resolve_left h1,p8D vs h2⟩
theorem a6A.toV {E:Env} {a:AV} {v:Value} (r:a6A E a [v]):a.w=1→(∀ n t l,a≠.arr n t l)→d6A E a v:=by
 intro _ h
 cases a <;> first
  | exact (h _ _ _ rfl).elim
  | exact trivial
  | exact r.elim
  | exact r
theorem t9E {E:Env} (v:Value):d6A E (x5A v) v:=by
 unfold x5A
 split <;> first
  | exact trivial
  | exact rfl
theorem u0E {E:Env} (v:Value):d6A E (lit v) v:=by
 unfold lit
 split
 ·rename_i cs
  cases h:l9B (d5A x5A cs.toList) with
  | true=>exact ⟨cs.toList,by simp,p8D _ h⟩
  | false=>exact trivial
 ·exact t9E v
theorem d6A.toS {E:Env} {a:AV} {v:Value} (r:d6A E a v):a3A E a v:=by
 cases a <;> first
  | exact r.elim
  | exact r
theorem b6A {E:Env} {S:St} {a:Act} (h:e0A E S.tmps a.tmps) (x:Operand):a3A E (ev S x) (a.eval x):=by
 cases x with
 | tmp t =>
  simp only [ev,Act.eval,Array.getD_eq_getD_getElem?]
  cases hv:a.tmps[t]? with
  | none =>
   have hl:S.tmps.length≤t:=by rw [h.1]; exact (Array.getElem?_eq_none_iff.1 hv)
   have:∀ (l:List AV) (t:Nat),l.length≤t→b1A l t=.top:=by
    intro l
    induction l with
    | nil=>intro t _; cases t <;> rfl
    | cons a l ih =>
     intro t ht
     cases t with
     | zero=>simp at ht
     | succ t=>exact ih t (by simpa using ht)
   rw [this _ _ hl]; exact trivial
  | some v=>exact h.2 t v hv
 | const v=>exact (u0E v).toS
 | global g=>exact rfl
 | func f=>exact ⟨#[],#[],rfl,rfl,rfl⟩
end Go.Rx
namespace Go.Rx
variable [Inhabited GW]
def l3C:TD→TypeDesc→Prop
 | .bool,d=>d=.bool
 | .int k,d=>d=.int k
 | .str,d=>d=.string
 | .ptr e,d=>d=.pointer e
 | .sl e,d=>d=.slice e
 | .arr n e,d=>d=.array n e
 | .st fs,d=>∃ F:Array Field,d=.struct F∧F.toList.map (fun f=>(f.offset,f.type))=fs
 | .map k e,d=>d=.map k e
 | .fn,d=>∃ a b c,d=.func a b c
 | .other,d=>match d with
  | .struct _=>False
  | .array ..=>False
  | _=>True
structure TOK (P:Program) (t:TypeId) (i:o8A):Prop where
 und:∃ d,P.underlying t=some d∧l3C i.td d
 info:∃ inf,P.info? t=some inf∧inf.size=i.size∧inf.bytes=i.bytes∧∃ z,inf.zero=some z∧(∀ E:Env,b0A E i.zc z.cells.toList) ∧
  (∀ ty,i.ty=some ty→∀ E:Env,a2A E ty (c4A ty) z.cells.toList)∧(if i.td.isAgg then z=.agg z.cells else z.cells = #[z])
 wd:∀ ty,i.ty=some ty→a0A ty=i.size
 eqs : i.eq = true → P.stoodInHeld t = false ∧ P.eqGuardType P.depth t = false ∧ ∀ F, P.underlying t = some (.struct F) → ∀ f ∈ F, f.name ≠ "_"
 fsz:∀ fs,i.td=.st fs→∃ places,fs.mapM (fun f=>(P.info? f.2).map fun i=>(f.1,i.size))=some places
def TabOK (P:Program) (T:Tab):Prop:=∀ t i,d2A t T=some i→TOK P t i
def VR.gives:VR→AV→Prop
 | .val v,u=>v=u
 | .gval b v,u=>b=true∧v=u
 | .no,_=>False
theorem h1B {x:Option AV} {v:AV} (h:(g5B x).gives v):x=some v:=by
 cases x with
 | none=>exact h.elim
 | some u=>exact Cp some h
theorem u1E {b:Bool} {x:Option AV} {v:AV} (h:(p2D b x).gives v):b=true∧x=some v:=by
 cases x with
 | none=>exact h.elim
 | some u=>exact ⟨h.1,Cp some h.2⟩
section
variable {P:Program} {T:Tab} (hT:TabOK P T) {E:Env} {w:World}
theorem c3A {t:TypeId} {d:TypeDesc} (h:P.underlying t=some d):(underlying t).run P w=.ok d w:=by
 simp [underlying,h]
theorem y4A {t:TypeId} {i:TypeInfo} (h:P.info? t=some i):(typeInfo t).run P w=.ok i w:=by
 simp [typeInfo,h]
theorem n1A {t:TypeId} {i:TypeInfo} (h:P.info? t=some i):(sizeOf t).run P w=.ok i.size w:=by
 simp [sizeOf,y4A h]
def p9D:TypeDesc→Bool
 | .struct _=>true
 | .array ..=>true
 | _=>false
theorem a6B {t:TypeId} {d:TypeDesc} (h:P.underlying t=some d):(isAgg t).run P w=.ok (p9D d) w:=by
 simp only [isAgg,Sem.run_bind,c3A h,Result.andThen_ok]
 cases d <;> rfl
theorem u2E {td:TD} {d:TypeDesc} (h:l3C td d):p9D d=td.isAgg:=by
 cases td <;> first
  | (rw [show d=_ from h]; rfl)
  | (obtain ⟨F,e,_⟩:=h; rw [e]; rfl)
  | (obtain ⟨_,_,_,e⟩:=h; rw [e]; rfl)
  | (cases d <;> first
    | rfl
    | exact h.elim)
include hT
theorem f7A {t:TypeId} {td:TD} (h:i0A T t=some td):∃ d,P.underlying t=some d∧l3C td d:=by
 unfold i0A at h
 split at h
 ·rename_i i hi
  cases h
  exact (hT t i hi).und
 ·cases h
theorem t3A {t:TypeId} {i:o8A} (h:d2A t T=some i):(sizeOf t).run P w=.ok i.size w:=by
 obtain ⟨inf,h1,h2,_⟩:=(hT t i h).info
 rw [←h2]; exact n1A h1
theorem s8B {t:TypeId} {i:o8A} (h:d2A t T=some i):(isAgg t).run P w=.ok i.td.isAgg w:=by
 obtain ⟨d,h1,h2⟩:=(hT t i h).und
 rw [←u2E h2]; exact a6B h1
omit hT
theorem a3A.int_inv {k:IntKind} {n:Int} {x:Value} (h:a3A E (.int k n) x):x=.int k n:=by
 have h:[x]=[Value.int k n]:=h
 simpa using h
theorem a3A.bool_inv {b:Bool} {x:Value} (h:a3A E (.bool b) x):x=.bool b:=by
 have h:[x]=[Value.bool b]:=h
 simpa using h
theorem a3A.str_inv {s:ByteArray} {x:Value} (h:a3A E (.str s) x):x=.string s:=by
 have h:[x]=[Value.string s]:=h
 simpa using h
theorem u3E {op:BinOp} {k:IntKind} {a b:Int} {v:AV} (t:TypeId) (h:(x8C op k a b).gives v) :
    ∃ x,(binOp op t (.int k a) (.int k b)).run P w=.ok x w∧a3A E v x:=by
  cases op <;> simp only [x8C,VR.gives] at h <;> first
    | exact h.elim
    | (subst h; exact ⟨_,by simp [binOp,Op.intArith,Op.intCmp,Op.intBits,i5A],rfl⟩)
    | (obtain ⟨hb,rfl⟩:=h
       have hb:¬ b=0:=by simpa using hb
       exact ⟨_,by simp [binOp,Op.intDiv,hb],rfl⟩)
theorem b8D {op:BinOp} {t:TypeId} {p q:Operand} {k k':IntKind} {a b:Int}:(eqGuard op t p q (.int k a) (.int k' b)).run P w=.ok () w:=by
 cases op <;> rfl
theorem b9D {op:BinOp} {t:TypeId} {p q:Operand} {a b:ByteArray}:(eqGuard op t p q (.string a) (.string b)).run P w=.ok () w:=by
 cases op <;> rfl
theorem q0D {op:BinOp} {t:TypeId} {p q:Operand} {a b:Bool}:(eqGuard op t p q (.bool a) (.bool b)).run P w=.ok () w:=by
 cases op <;> rfl
theorem u4E {t:TypeId} (hu:P.underlying t=some .bool) {a b:Bool} (d:Nat):(Op.equalIn (d+1) t (.bool a) (.bool b)).run P w=.ok (a==b) w:=by
 simp only [Op.equalIn,Sem.run_bind,c3A hu,Result.andThen_ok]
 rfl
theorem l4C {t:TypeId} (hu:P.underlying t=some .bool) {a b:Bool}:(Op.equal t (.bool a) (.bool b)).run P w=.ok (a==b) w:=
 u4E hu 9999
theorem l5C {op:BinOp} {t:TypeId} {p q:Operand} {a a':Option Addr} {n n' c c':Nat}:(eqGuard op t p q (.slice a n c) (.slice a' n' c')).run P w=.ok () w:=by
 cases op <;> rfl
theorem u5E {t:TypeId} {a b c} (hu:P.underlying t=some (.func a b c)) (f A B) (d:Nat):(Op.equalIn (d+1) t (.func f A B) .nilFunc).run P w=.ok false w:=by
 simp only [Op.equalIn,Sem.run_bind,c3A hu,Result.andThen_ok]
 rfl
theorem q1D {t:TypeId} {a b c} (hu:P.underlying t=some (.func a b c)) (f A B):(Op.equal t (.func f A B) .nilFunc).run P w=.ok false w:=u5E hu f A B 9999
theorem u6E {t:TypeId} {a b c} (hu:P.underlying t=some (.func a b c)) (d:Nat):(Op.equalIn (d+1) t .nilFunc .nilFunc).run P w=.ok true w:=by
 simp only [Op.equalIn,Sem.run_bind,c3A hu,Result.andThen_ok]
 rfl
theorem q2D {t:TypeId} {a b c} (hu:P.underlying t=some (.func a b c)):(Op.equal t .nilFunc .nilFunc).run P w=.ok true w:=u6E hu 9999
theorem q3D (op:BinOp) (t:TypeId) (p q:Operand) (f A B):(eqGuard op t p q (.func f A B) .nilFunc).run P w=.ok () w:=by
 cases op <;> rfl
theorem q4D (op:BinOp) (t:TypeId) (p q:Operand):(eqGuard op t p q .nilFunc .nilFunc).run P w=.ok () w:=by
 cases op <;> rfl
theorem u7E {t e:TypeId} (hu:P.underlying t=some (.slice e)) {a:Option Addr} {n c:Nat} (d:Nat):(Op.equalIn (d+1) t (.slice a n c) (.slice none 0 0)).run P w=.ok a.isNone w:=by
 simp only [Op.equalIn,Sem.run_bind,c3A hu,Result.andThen_ok]
 cases a <;> rfl
theorem l6C {t e:TypeId} (hu:P.underlying t=some (.slice e)) {a:Option Addr} {n c:Nat}:(Op.equal t (.slice a n c) (.slice none 0 0)).run P w=.ok a.isNone w:=
 u7E hu 9999
include hT
theorem l7C {t:TypeId} (h:z8A T t=true):∃ e,P.underlying t=some (.slice e):=by
 unfold z8A at h
 split at h
 ·rename_i i hi
  split at h
  ·rename_i e htd
   obtain ⟨d,h1,h2⟩:=(hT t i hi).und
   rw [htd] at h2
   exact ⟨e,by rw [h1,show d=.slice e from h2]⟩
  ·cases h
 ·cases h
theorem l8C {t:TypeId} (h:z9A T t=true):∃ a b c,P.underlying t=some (.func a b c):=by
 unfold z9A at h
 split at h
 ·rename_i i hi
  split at h
  ·rename_i htd
   obtain ⟨d,h1,h2⟩:=(hT t i hi).und
   rw [htd] at h2
   obtain ⟨a,b,c,h2⟩:=h2
   exact ⟨a,b,c,by rw [h1,h2]⟩
  ·cases h
 ·cases h
def q5D (P:Program) (T:Tab) (E:Env) (w:World) (t:TypeId):Prop:=
 ∀ xs ys b,i5C T t xs ys=some b→∀ us vs:List Value,b0A E xs us→b0A E ys vs →
  P.eqGuardType P.depth t=false∧(Op.equal t (.agg us.toArray) (.agg vs.toArray)).run P w=.ok b w
theorem u8E {t:TypeId} {op:BinOp} {a b v:AV} {x y:Value} (hagg:q5D P T E w t) (h:(x9C T t op a b).gives v) (hx:a3A E a x) (hy:a3A E b y) (p q:Operand) :
  ∃ z,(do eqGuard op t p q x y; binOp op t x y:Sem Value).run P w=.ok z w∧a3A E v z:=by
 unfold x9C at h
 split at h
 ·rename_i k a yk b
  obtain ⟨hb,rfl⟩:=h
  rw [hx.int_inv,hy.int_inv]
  replace hb:=Dl hb
  refine ⟨.int k (l4A k a b),?_,rfl⟩
  rw [Sem.run_bind,b8D,Result.andThen_ok]
  simp [binOp,Op.shift,Int.not_lt.2 hb,l4A]
 ·rename_i k a yk b
  obtain ⟨hb,rfl⟩:=h
  rw [hx.int_inv,hy.int_inv]
  replace hb:=Dl hb
  refine ⟨.int k (g4A k a b),?_,rfl⟩
  rw [Sem.run_bind,b8D,Result.andThen_ok]
  simp [binOp,Op.shift,Int.not_lt.2 hb,g4A]
 ·split at h
  ·rename_i hk
   subst hk
   rw [hx.int_inv,hy.int_inv,Sem.run_bind,b8D,Result.andThen_ok]
   exact u3E t h
  ·exact h.elim
 ·rename_i a b
  obtain ⟨hb,rfl⟩:=h
  replace hb:=Dl hb
  rw [hx.str_inv,hy.str_inv,Sem.run_bind,b9D,Result.andThen_ok]
  refine ⟨.string (a++b),?_,rfl⟩
  have:¬ ((a.size+b.size:Nat):Int)>IntKind.i64.max:=by omega
  simp only [binOp,Op.stringOp,Ae this]
  rfl
 ·cases h
  rw [hx.str_inv,hy.str_inv,Sem.run_bind,b9D,Result.andThen_ok]
  exact ⟨_,rfl,rfl⟩
 ·cases h
  rw [hx.str_inv,hy.str_inv,Sem.run_bind,b9D,Result.andThen_ok]
  exact ⟨_,rfl,rfl⟩
 ·cases hB:r3B T t with
  | false=>rw [hB] at h; exact h.elim
  | true =>
   rw [hB] at h
   cases h
   have hu:P.underlying t=some .bool:=by
    unfold r3B at hB
    split at hB
    ·rename_i i hi
     split at hB
     ·rename_i htd
      obtain ⟨d,h1,h2⟩:=(hT t i hi).und
      rw [htd] at h2
      rw [h1,show d=.bool from h2]
     ·cases hB
    ·cases hB
   rw [hx.bool_inv,hy.bool_inv,Sem.run_bind,q0D,Result.andThen_ok]
   rename_i a b
   refine ⟨_,?_,rfl⟩
   first
    | (change (do pure (Value.bool (←Op.equal t (.bool a) (.bool b))):Sem Value).run P w=_; rw [Sem.run_bind,l4C hu]; rfl)
    | (change (do pure (Value.bool (!(←Op.equal t (.bool a) (.bool b)))):Sem Value).run P w=_; rw [Sem.run_bind,l4C hu]; rfl)
 ·cases hB:r3B T t with
  | false=>rw [hB] at h; exact h.elim
  | true =>
   rw [hB] at h
   cases h
   have hu:P.underlying t=some .bool:=by
    unfold r3B at hB
    split at hB
    ·rename_i i hi
     split at hB
     ·rename_i htd
      obtain ⟨d,h1,h2⟩:=(hT t i hi).und
      rw [htd] at h2
      rw [h1,show d=.bool from h2]
     ·cases hB
    ·cases hB
   rw [hx.bool_inv,hy.bool_inv,Sem.run_bind,q0D,Result.andThen_ok]
   rename_i a b
   refine ⟨_,?_,rfl⟩
   first
    | (change (do pure (Value.bool (←Op.equal t (.bool a) (.bool b))):Sem Value).run P w=_; rw [Sem.run_bind,l4C hu]; rfl)
    | (change (do pure (Value.bool (!(←Op.equal t (.bool a) (.bool b)))):Sem Value).run P w=_; rw [Sem.run_bind,l4C hu]; rfl)
 ·cases hB:z8A T t with
  | false=>rw [hB] at h; exact h.elim
  | true =>
   rw [hB] at h
   cases h
   obtain ⟨e,hu⟩:=l7C hT hB
   obtain ⟨_,a,n,c,e1⟩:=(show a6A E (.slv _ _) [x] from hx)
   have e2:[y]=[Value.slice none 0 0]:=hy
   cases e1; cases e2
   rw [Sem.run_bind,l5C,Result.andThen_ok]
   refine ⟨_,?_,rfl⟩
   change (do pure (Value.bool (←Op.equal t (.slice (some a) n c) (.slice none 0 0))):Sem Value).run P w=_
   rw [Sem.run_bind,l6C hu]; rfl
 ·cases hB:z8A T t with
  | false=>rw [hB] at h; exact h.elim
  | true =>
   rw [hB] at h
   cases h
   obtain ⟨e,hu⟩:=l7C hT hB
   obtain ⟨_,a,n,c,e1⟩:=(show a6A E (.slv _ _) [x] from hx)
   have e2:[y]=[Value.slice none 0 0]:=hy
   cases e1; cases e2
   rw [Sem.run_bind,l5C,Result.andThen_ok]
   refine ⟨_,?_,rfl⟩
   change (do pure (Value.bool (!(←Op.equal t (.slice (some a) n c) (.slice none 0 0)))):Sem Value).run P w=_
   rw [Sem.run_bind,l6C hu]; rfl
 ·cases hB:z8A T t with
  | false=>rw [hB] at h; exact h.elim
  | true =>
   rw [hB] at h
   cases h
   obtain ⟨e,hu⟩:=l7C hT hB
   have e1:[x]=[Value.slice none 0 0]:=hx
   have e2:[y]=[Value.slice none 0 0]:=hy
   cases e1; cases e2
   rw [Sem.run_bind,l5C,Result.andThen_ok]
   refine ⟨_,?_,rfl⟩
   change (do pure (Value.bool (←Op.equal t (.slice none 0 0) (.slice none 0 0))):Sem Value).run P w=_
   rw [Sem.run_bind,l6C hu]; rfl
 ·cases hB:z8A T t with
  | false=>rw [hB] at h; exact h.elim
  | true =>
   rw [hB] at h
   cases h
   obtain ⟨e,hu⟩:=l7C hT hB
   have e1:[x]=[Value.slice none 0 0]:=hx
   have e2:[y]=[Value.slice none 0 0]:=hy
   cases e1; cases e2
   rw [Sem.run_bind,l5C,Result.andThen_ok]
   refine ⟨_,?_,rfl⟩
   change (do pure (Value.bool (!(←Op.equal t (.slice none 0 0) (.slice none 0 0)))):Sem Value).run P w=_
   rw [Sem.run_bind,l6C hu]; rfl
 ·cases hB:z9A T t with
  | false=>rw [hB] at h; exact h.elim
  | true =>
   rw [hB] at h
   cases h
   obtain ⟨a,b,c,hu⟩:=l8C hT hB
   obtain ⟨A,B,e1,_⟩:=(show a6A E (.func _ _ _) [x] from hx)
   have e2:[y]=[Value.nilFunc]:=hy
   cases e1; cases e2
   rw [Sem.run_bind,q3D,Result.andThen_ok]
   refine ⟨_,?_,rfl⟩
   change (do pure (Value.bool (←Op.equal t (.func (.func _) A B) .nilFunc)):Sem Value).run P w=_
   rw [Sem.run_bind,q1D hu]; rfl
 ·cases hB:z9A T t with
  | false=>rw [hB] at h; exact h.elim
  | true =>
   rw [hB] at h
   cases h
   obtain ⟨a,b,c,hu⟩:=l8C hT hB
   obtain ⟨A,B,e1,_⟩:=(show a6A E (.func _ _ _) [x] from hx)
   have e2:[y]=[Value.nilFunc]:=hy
   cases e1; cases e2
   rw [Sem.run_bind,q3D,Result.andThen_ok]
   refine ⟨_,?_,rfl⟩
   change (do pure (Value.bool (!(←Op.equal t (.func (.func _) A B) .nilFunc))):Sem Value).run P w=_
   rw [Sem.run_bind,q1D hu]; rfl
 ·cases hB:z9A T t with
  | false=>rw [hB] at h; exact h.elim
  | true =>
   rw [hB] at h
   cases h
   obtain ⟨a,b,c,hu⟩:=l8C hT hB
   have e1:[x]=[Value.nilFunc]:=hx
   have e2:[y]=[Value.nilFunc]:=hy
   cases e1; cases e2
   rw [Sem.run_bind,q4D,Result.andThen_ok]
   refine ⟨_,?_,rfl⟩
   change (do pure (Value.bool (←Op.equal t .nilFunc .nilFunc)):Sem Value).run P w=_
   rw [Sem.run_bind,q2D hu]; rfl
 ·cases hB:z9A T t with
  | false=>rw [hB] at h; exact h.elim
  | true =>
   rw [hB] at h
   cases h
   obtain ⟨a,b,c,hu⟩:=l8C hT hB
   have e1:[x]=[Value.nilFunc]:=hx
   have e2:[y]=[Value.nilFunc]:=hy
   cases e1; cases e2
   rw [Sem.run_bind,q4D,Result.andThen_ok]
   refine ⟨_,?_,rfl⟩
   change (do pure (Value.bool (!(←Op.equal t .nilFunc .nilFunc))):Sem Value).run P w=_
   rw [Sem.run_bind,q2D hu]; rfl
 ·rename_i xs ys
  obtain ⟨r,hr,rfl⟩:=b4A (h1B h)
  obtain ⟨us,rfl,r1⟩:=hx
  obtain ⟨vs,rfl,r2⟩:=hy
  obtain ⟨h1,h2⟩:=hagg _ _ _ hr _ _ r1 r2
  refine ⟨.bool r,?_,rfl⟩
  rw [Sem.run_bind,show (eqGuard .eql t p q (.agg us.toArray) (.agg vs.toArray)).run P w=.ok () w by simp [eqGuard,h1],Result.andThen_ok]
  change (do pure (Value.bool (←Op.equal t (.agg us.toArray) (.agg vs.toArray))):Sem Value).run P w=_
  rw [Sem.run_bind,h2]; rfl
 ·rename_i xs ys
  obtain ⟨r,hr,rfl⟩:=b4A (h1B h)
  obtain ⟨us,rfl,r1⟩:=hx
  obtain ⟨vs,rfl,r2⟩:=hy
  obtain ⟨h1,h2⟩:=hagg _ _ _ hr _ _ r1 r2
  refine ⟨.bool (!r),?_,rfl⟩
  rw [Sem.run_bind,show (eqGuard .neq t p q (.agg us.toArray) (.agg vs.toArray)).run P w=.ok () w by simp [eqGuard,h1],Result.andThen_ok]
  change (do pure (Value.bool (!(←Op.equal t (.agg us.toArray) (.agg vs.toArray)))):Sem Value).run P w=_
  rw [Sem.run_bind,h2]; rfl
 ·exact h.elim
omit hT
theorem u9E {op:UnOp} {a v:AV} {x:Value} (h:(unV op a).gives v) (hx:a3A E a x):∃ z,(Op.unary op x).run P w=.ok z w∧a3A E v z:=by
 unfold unV at h
 split at h
 ·cases h; rw [hx.int_inv]; exact ⟨_,rfl,rfl⟩
 ·cases h; rw [hx.int_inv]; exact ⟨_,rfl,rfl⟩
 ·cases h; rw [hx.bool_inv]; exact ⟨_,rfl,rfl⟩
 ·exact h.elim
theorem v0E {c:Bool} {a b v:AV} {y z:Value} (h:(y0C c a b).gives v) (ha:a3A E a y) (hb:a3A E b z):a3A E v (if c then y else z):=by
 unfold y0C at h
 split at h
 ·cases h
  rw [ha.bool_inv,hb.bool_inv]
  cases c <;> rfl
 ·split at h
  ·rename_i hk
   subst hk
   cases h
   rw [ha.int_inv,hb.int_inv]
   cases c <;> rfl
  ·exact h.elim
 ·cases c
  ·cases h; exact hb
  ·cases h; exact ha
theorem v1E {c a b v:AV} {x y z:Value} (h:(y1C c a b).gives v) (hc:a3A E c x) (ha:a3A E a y) (hb:a3A E b z) :
  ∃ u,(do pure (if ←asBool x then y else z):Sem Value).run P w=.ok u w∧a3A E v u:=by
 unfold y1C at h
 split at h
 ·rename_i c
  rw [hc.bool_inv]
  exact ⟨if c then y else z,rfl,v0E h ha hb⟩
 ·exact h.elim
end
end Go.Rx
namespace Go.Rx
variable [Inhabited GW]
def l9C:List (Nat×TypeId)→List Field→Bool
 | [],[]=>true
 | (o,t)::l,f::m=>Nat.beq f.offset o&&Nat.beq f.type t&&l9C l m
 | _,_=>false
theorem q6D:∀ {l:List (Nat×TypeId)} {m:List Field},l9C l m=true→m.map (fun f=>(f.offset,f.type))=l
 | [],[],_=>rfl
 | (o,t)::l,f::m,h=>by
  simp only [l9C,Ac] at h
  rw [List.map_cons,q6D h.2,Ag h.1.1,Ag h.1.2]
 | [],_::_,h=>nomatch h
 | _::_,[],h=>nomatch h
def a7C:TD→TypeDesc→Bool
 | .bool,.bool=>true
 | .int k,.int k'=>decide (k'=k)
 | .str,.string=>true
 | .ptr e,.pointer e'=>Nat.beq e' e
 | .sl e,.slice e'=>Nat.beq e' e
 | .arr n e,.array n' e'=>Nat.beq n' n&&Nat.beq e' e
 | .st fs,.struct F=>l9C fs F.toList
 | .map k e,.map k' e'=>Nat.beq k' k&&Nat.beq e' e
 | .fn,.func ..=>true
 | .other,.struct _=>false
 | .other,.array ..=>false
 | .other,_=>true
 | _,_=>false
theorem v2E {td:TD} {d:TypeDesc} (h:a7C td d=true):l3C td d:=by
 cases td <;> cases d <;> first
  | (cases h; done)
  | rfl
  | exact True.intro
  | (simp only [a7C] at h; rw [Dl h]; rfl)
  | (simp only [a7C] at h; rw [Ag h]; rfl)
  | (simp only [a7C,Ac] at h; rw [Ag h.1,Ag h.2]; rfl)
  | exact ⟨_,rfl,q6D h⟩
  | exact ⟨_,_,_,rfl⟩
def eqZ:Value→Value→Bool
 | .int k n,.int k' n'=>decide (k=k')&&decide (n=n')
 | .bool b,.bool b'=>b==b'
 | .string s,.string s'=>Nat.beq s.size 0&&Nat.beq s'.size 0
 | .slice none 0 0,.slice none 0 0=>true
 | .pointer none,.pointer none=>true
 | .nilFunc,.nilFunc=>true
 | .nilIface,.nilIface=>true
 | .map none,.map none=>true
 | _,_=>false
theorem m0C {s:ByteArray} (h:Nat.beq s.size 0=true):s=ByteArray.empty:=by
 have h:=Ag h
 cases s with
 | mk d=>exact Cp ByteArray.mk (Array.eq_empty_of_size_eq_zero h)
theorem v3E {v w:Value} (h:eqZ v w=true):v=w:=by
 unfold eqZ at h
 split at h <;> first
  | rfl
  | (cases h; done)
  | (simp only [Ac,Au] at h; rw [h.1,h.2])
  | (simp only [Cw] at h; rw [h])
  | (simp only [Ac] at h; rw [m0C h.1,m0C h.2])
def m1C:List Value→List Value→Bool
 | [],[]=>true
 | v::l,w::m=>eqZ v w&&m1C l m
 | _,_=>false
theorem q7D:∀ {l m:List Value},m1C l m=true→l=m
 | [],[],_=>rfl
 | v::l,w::m,h=>by
  simp only [m1C,Ac] at h
  rw [v3E h.1,q7D h.2]
 | [],_::_,h=>nomatch h
 | _::_,[],h=>nomatch h
def h2B {α:Type} (l:List α):Nat→List α
 | 0=>[]
 | n+1=>l++h2B l n
theorem c0D {α:Type} (l:List α):∀ n,(h2B l n).length=n*l.length
 | 0=>by simp [h2B]
 | n+1=>by simp only [h2B,Ak,c0D l n,Dw]; omega
theorem q8D {α:Type} (l:List α) {j:Nat} {v:α} (h:l[j]? = some v):∀ (n i:Nat),i<n→(h2B l n)[i*l.length+j]? = some v
 | n+1,0,_=>by
  have hj:j<l.length:=(Cl.1 h).1
  rw [h2B,Eb,Dk,Bd hj,h]
 | n+1,i+1,hi=>by
  rw [h2B,List.getElem?_append_right (by rw [Dw]; omega),show (i+1)*l.length+j - l.length=i*l.length+j from by rw [Dw]; omega]
  exact q8D l h n i (Nat.lt_of_succ_lt_succ hi)
def y5A:Ty→Option (List Value)
 | .int k=>some [.int k 0]
 | .bool=>some [.bool false]
 | .str=>some [.string ByteArray.empty]
 | .sl _=>some [.slice none 0 0]
 | .own _=>none
 | .unit=>some []
 | .pair a b=>match y5A a,y5A b with
  | some u,some v=>some (u++v)
  | _,_=>none
 | .arr n t=>match y5A t with
  | some u=>some (h2B u n)
  | none=>none
theorem m2C:∀ {t:Ty} {vs:List Value},y5A t=some vs→vs.length=a0A t
 | .int _,_,h=>by cases h; rfl
 | .bool,_,h=>by cases h; rfl
 | .str,_,h=>by cases h; rfl
 | .sl _,_,h=>by cases h; rfl
 | .own _,_,h=>nomatch h
 | .unit,_,h=>by cases h; rfl
 | .pair a b,vs,h=>by
  simp only [y5A] at h
  split at h
  ·rename_i u v h1 h2
   cases h
   rw [Ak,m2C h1,m2C h2]; rfl
  ·cases h
 | .arr n t,vs,h=>by
  simp only [y5A] at h
  split at h
  ·rename_i u h1
   cases h
   rw [c0D,m2C h1]; rfl
  ·cases h
theorem a8C {E:Env}:∀ {t:Ty} {vs:List Value},y5A t=some vs→a2A E t (c4A t) vs
 | .int _,_,h=>by cases h; exact rfl
 | .bool,_,h=>by cases h; exact rfl
 | .str,_,h=>by cases h; exact rfl
 | .sl _,_,h=>by cases h; exact ⟨none,0,rfl,⟨Ay _,fun _=>rfl⟩,.inl rfl⟩
 | .own _,_,h=>nomatch h
 | .unit,_,h=>by cases h; exact rfl
 | .pair a b,vs,h=>by
  simp only [y5A] at h
  split at h
  ·rename_i u v h1 h2
   cases h
   exact ⟨u,v,rfl,a8C h1,a8C h2⟩
  ·cases h
 | .arr n t,vs,h=>by
  simp only [y5A] at h
  split at h
  ·rename_i u h1
   cases h
   have hl:=m2C h1
   refine ⟨Ed,by rw [c0D,hl],fun i hi=>⟨u,?_,fun j v hj => ?_⟩⟩
   ·have:(c4A (.arr n t))[i]=c4A t:=List.getElem_replicate ..
    rw [this]
    exact a8C h1
   ·rw [←hl]
    exact q8D u hj n i (by rw [show (c4A (.arr n t)).length=n from Ed] at hi; exact hi)
  ·cases h
def eqD:(t:Ty)→den t→den t→Bool
 | .int _,x,y=>decide (x=y)
 | .bool,x,y=>x==y
 | .str,x,y=>Nat.beq x.size 0&&Nat.beq y.size 0
 | .sl t,x,y=>go (eqD t) x y
 | .own _,_,_=>false
 | .unit,_,_=>true
 | .pair a b,x,y=>eqD a x.1 y.1&&eqD b x.2 y.2
 | .arr _ t,x,y=>go (eqD t) x y
where
 go {α:Type} (f:α→α→Bool):List α→List α→Bool
  | [],[]=>true
  | a::l,b::m=>f a b&&go f l m
  | _,_=>false
theorem c1D {α:Type} {f:α→α→Bool} (hf:∀ a b,f a b=true→a=b):∀ {l m:List α},eqD.go f l m=true→l=m
 | [],[],_=>rfl
 | a::l,b::m,h=>by
  simp only [eqD.go,Ac] at h
  rw [hf _ _ h.1,c1D hf h.2]
 | [],_::_,h=>nomatch h
 | _::_,[],h=>nomatch h
theorem a9C:∀ (t:Ty) (x y:den t),eqD t x y=true→x=y
 | .int _,_,_,h=>Dl h
 | .bool,_,_,h=>Cw.1 h
 | .str,x,y,h=>by
  simp only [eqD,Ac] at h
  rw [m0C h.1,m0C h.2]
 | .sl t,_,_,h=>c1D (a9C t) h
 | .own _,_,_,h=>nomatch h
 | .unit,_,_,_=>rfl
 | .pair a b,x,y,h=>by
  simp only [eqD,Ac] at h
  exact Prod.ext (a9C a _ _ h.1) (a9C b _ _ h.2)
 | .arr _ t,_,_,h=>c1D (a9C t) h
def c2D:AV→Option (List Value)
 | .int k n=>some [.int k n]
 | .bool b=>some [.bool b]
 | .str s=>some [.string s]
 | .nilsl=>some [.slice none 0 0]
 | .nilp=>some [.pointer none]
 | .nilf=>some [.nilFunc]
 | .nilm=>some [.map none]
 | .nili=>some [.nilIface]
 | .arr n t l=>bif eqD (.arr n t) l (c4A (.arr n t)) then y5A (.arr n t) else none
 | _=>none
theorem v4E {E:Env}:∀ {a:AV} {vs:List Value},c2D a=some vs→a6A E a vs:=by
 intro a vs h
 cases a <;> first
  | (cases h; exact rfl)
  | (cases h; done)
  | skip
 rename_i n t l
 simp only [c2D,cond_eq_ite] at h
 split at h
 ·rename_i he
  rw [a9C _ _ _ he]
  exact a8C h
 ·cases h
def m3C:List AV→Option (List Value)
 | []=>some []
 | a::l=>match c2D a,m3C l with
  | some u,some v=>some (u++v)
  | _,_=>none
theorem q9D {E:Env}:∀ {l:List AV} {vs:List Value},m3C l=some vs→b0A E l vs
 | [],_,h=>by cases h; exact rfl
 | a::l,vs,h=>by
  simp only [m3C] at h
  split at h
  ·rename_i u v h1 h2
   cases h
   exact ⟨u,v,rfl,v4E h1,q9D h2⟩
  ·cases h
def m4C (P:Program):List (Nat×TypeId)→Bool
 | []=>true
 | f::l=>(P.info? f.2).isSome&&m4C P l
theorem r0D {P:Program}:∀ {fs:List (Nat×TypeId)},m4C P fs=true→∃ places,fs.mapM (fun f=>(P.info? f.2).map fun i=>(f.1,i.size))=some places
 | [],_=>⟨[],rfl⟩
 | f::l,h=>by
  simp only [m4C,Ac] at h
  obtain ⟨places,hp⟩:=r0D h.2
  obtain ⟨i,hi⟩:=Dn.1 h.1
  refine ⟨(f.1,i.size)::places,?_⟩
  rw [List.mapM_cons,hi,hp]; rfl
def eqO (x:Option (List Value)) (vs:List Value):Bool:=
 match x with
 | some u=>m1C u vs
 | none=>false
theorem r1D {x:Option (List Value)} {vs:List Value} (h:eqO x vs=true):x=some vs:=by
 cases x with
 | none=>exact nomatch h
 | some u=>exact Cp some (q7D h)
def r2D (agg:Bool):Value→Bool
 | .agg _=>agg
 | _=>!agg
theorem v5E {agg:Bool} {z:Value} (h:r2D agg z=true):if agg then z=.agg z.cells else z.cells = #[z]:=by
 cases agg <;> cases z <;> first
  | rfl
  | exact nomatch h
def c3D (P:Program) (t:TypeId) (i:o8A):Bool:=
  (match P.underlying t with
   | some d=>a7C i.td d
   | none=>false) &&
  (match P.info? t with
   | some inf=>Nat.beq inf.size i.size&&Nat.beq inf.bytes i.bytes&&(match inf.zero with
     | some z=>eqO (m3C i.zc) z.cells.toList&&(match i.ty with
       | some ty=>eqO (y5A ty) z.cells.toList&&Nat.beq (a0A ty) i.size
       | none=>true)&&r2D i.td.isAgg z
     | none=>false)
   | none=>false) &&
  (match i.td with
   | .st fs=>m4C P fs
   | _=>true) &&
  (bif i.eq then (!P.stoodInHeld t&&!P.eqGuardType P.depth t&&(match P.underlying t with
     | some (.struct F) => F.toList.all fun f => f.name != "_"
     | _=>true)) else true)
theorem v6E {P:Program} {t:TypeId} {i:o8A} (h:c3D P t i=true):TOK P t i:=by
 simp only [c3D,Ac] at h
 obtain ⟨⟨⟨h1,h2⟩,h3⟩,h9⟩:=h
 split at h1
 ·rename_i d hd
  split at h2
  ·rename_i inf hi
   simp only [Ac] at h2
   obtain ⟨⟨h4,h5⟩,h6⟩:=h2
   split at h6
   ·rename_i z hz
    simp only [Ac] at h6
    obtain ⟨⟨h7,h8⟩,h11⟩:=h6
    refine ⟨⟨d,hd,v2E h1⟩,⟨inf,hi,Ag h4,Ag h5,z,hz,fun E=>q9D (r1D h7),fun ty hty E => ?_,v5E h11⟩,fun ty hty => ?_,fun he => ?_,fun fs hfs => ?_⟩
    ·rw [hty] at h8
     simp only [Ac] at h8
     exact a8C (r1D h8.1)
    ·rw [hty] at h8
     simp only [Ac] at h8
     exact Ag h8.2
    ·rw [he] at h9
     simp only [Al,Ac,Ew] at h9
     refine ⟨h9.1.1,h9.1.2,fun F hF f hf => ?_⟩
     have h10:=h9.2
     rw [hF] at h10
     have:=List.all_eq_true.1 h10 f (Array.mem_toList_iff.2 hf)
     simpa using this
    ·rw [hfs] at h3
     exact r0D h3
   ·cases h6
  ·cases h2
 ·cases h1
def c4D (P:Program):Tab→Bool
 | []=>true
 | (t,i)::l=>c3D P t i&&c4D P l
theorem r4C {P:Program}:∀ {T:Tab},c4D P T=true→TabOK P T
 | [],_=>fun t i h=>nomatch h
 | (t,i)::l,h=>by
  simp only [c4D,Ac] at h
  intro t' i' h'
  simp only [d2A,cond_eq_ite] at h'
  split at h'
  ·rename_i he
   cases h'
   rw [←Ag he]
   exact v6E h.1
  ·exact r4C h.2 t' i' h'
end Go.Rx
namespace Go.Rx
variable [Inhabited GW]
theorem v0A (b o j:Nat):(⟨b,o,none⟩:Addr).add j=⟨b,o+j,none⟩:=by
 unfold Addr.add
 split
 ·rename_i h; subst h; rfl
 ·rfl
def At (w:World) (b o:Nat) (vs:List Value):Prop:=∀ j v,vs[j]? = some v→w.cell? ⟨b,o+j,none⟩=some v
theorem At.cut {w:World} {b o:Nat} {vs:List Value} (h:At w b o vs) (off n:Nat):At w b (o+off) ((vs.drop off).take n):=fun j v e=>by
 rw [Bt] at e
 split at e
 ·rw [Bl] at e
  rw [Dj]; exact h _ _ e
 ·cases e
theorem At.of_row {w:World} {b:Nat} {vs:Array Value} {e:TypeId} {fz:Nat×Nat} (h:w.heap[b]? = some (.cells vs e fz)):At w b 0 vs.toList:=fun j v hj=>by
 rw [Dk,cell_of_row w b j vs e fz h]
 simpa using hj
section
variable {P:Program} {T:Tab} (hT:TabOK P T) {E:Env} {w:World}
theorem c5D {agg:Bool} {cs:List AV} {vs:List Value} {v:AV} (h:b0A E cs vs) (e:l8B agg cs=some v):agg=true∨vs.length=1:=by
 unfold l8B at e
 split at e
 ·exact .inl rfl
 ·cases e
 ·rename_i c hc
  right
  obtain ⟨u,s,rfl,r1,r2⟩:=h
  rw [show s=[] from r2,Bc,a6A.length r1]
  cases c <;> first
   | rfl
   | exact (hc _ _ _ rfl).elim
 ·cases e
include hT
theorem v7E {t:TypeId} {i:o8A} (hi:d2A t T=some i) {b off:Nat} {vs:List Value} (hl:vs.length=i.size) (hc:At w b off vs) (h1:i.td.isAgg=true∨vs.length=1) :
  (loadVar t ⟨b,off,none⟩).run P w=.ok (mkV i.td.isAgg vs) w:=by
 simp only [loadVar,Sem.run_bind,s8B hT hi,Result.andThen_ok]
 cases ha:i.td.isAgg with
 | true =>
  simp only [Ep,Sem.run_bind,t3A hT hi,Result.andThen_ok]
  rw [←hl,run_loadCells_list w ⟨b,off,none⟩ vs (fun j v e=>by rw [v0A]; exact hc j v e)]
  simp [mkV]
 | false =>
  have h1:vs.length=1:=h1.resolve_left (by rw [ha]; nofun)
  match vs,h1,hc with
  | [x],_,hc =>
   have:=hc 0 x rfl
   simp only [Dx] at this
   simp [this,mkV]
theorem h3B {t:TypeId} {i:o8A} (hi:d2A t T=some i) {cs:List AV} {vs:List Value} {b o off:Nat} {v:AV} (hc:b0A E cs vs) (ha:At w b o vs)
  (h:(r3A i cs off).gives v):∃ x,(loadVar t ⟨b,o+off,none⟩).run P w=.ok x w∧d6A E v x:=by
 obtain ⟨r,e1,e2⟩:=m0A (h1B h)
 obtain ⟨h1,h2⟩:=a6C hc e1
 have hl:((vs.drop off).take i.size).length=i.size:=by rw [Ap,Ar]; omega
 refine ⟨_,v7E hT hi hl (ha.cut off i.size) (c5D h2 e2),l2C h2 e2⟩
omit hT
theorem n2A {t' t:Ty} {l:List (den t')} {m:List (den t)} (h:j1A t' t l=some m):∃ e:t'=t,e▸l=m:=by
 unfold j1A at h
 split at h
 ·rename_i e; exact ⟨e,Bp h⟩
 ·cases h
theorem b0C {cs:List AV} {vs:List Value} {off n:Nat} {ty:Ty} {l:List (den ty)} (hc:b0A E cs vs) (h:m1B cs off n ty=some l) :
  off+n*a0A ty≤vs.length∧a2A E (.arr n ty) l ((vs.drop off).take (n*a0A ty)):=by
 unfold m1B at h
 split at h
 ·rename_i n' ty' l' e
  rcases c2A h with ⟨hb,h⟩ | ⟨_,h⟩
  ·obtain ⟨rfl,e'⟩:=n2A h
   have e':l'=l:=e'
   subst e'
   have hn:n'=n:=Ag hb
   subst hn
   obtain ⟨h1,h2⟩:=a6C hc e
   obtain ⟨u,s,e,r1,r2⟩:=h2
   rw [e,show s=[] from r2,Bc]
   exact ⟨h1,r1⟩
  ·cases h
 ·cases h
theorem m5C {n:Nat} {ty:Ty} {l:List (den ty)} {vs:List Value} {b o k:Nat} (h:a2A E (.arr n ty) l vs) (ha:At w b o vs) (hk:k<n) :
  ∃ cs,a2A E ty (l.getD k (c4A ty)) cs∧At w b (o+k*a0A ty) cs:=by
 obtain ⟨e1,_,r⟩:=h
 obtain ⟨cs,r1,r2⟩:=r k (by omega)
 refine ⟨cs,by rw [Cd,Aq (by omega)]; exact r1,fun j v e => ?_⟩
 rw [Dj]; exact ha _ _ (r2 j v e)
theorem h4B {id off:Nat} {x:Value} (h:a3A E (.ptr id off) x):id<E.N∧∃ b,(E.M id).blk=some b∧x=.pointer (some ⟨b,off,none⟩):=by
 obtain ⟨h0,b,h1,h2⟩:=(show a6A E (.ptr id off) [x] from h)
 exact ⟨h0,b,h1,by simpa using h2⟩
theorem m6C {id off n i sub:Nat} {t:Ty} {x:Value} (h:a3A E (.ptrA id off n t i sub) x) :
  id<E.N∧i<n∧∃ b,(E.M id).blk=some b∧x=.pointer (some ⟨b,off+i*a0A t+sub,none⟩):=by
 obtain ⟨h0,hi,b,h1,h2⟩:=(show a6A E (.ptrA id off n t i sub) [x] from h)
 exact ⟨h0,hi,b,h1,by simpa using h2⟩
theorem n4B {id i sub:Nat} {x:Value} (h:a3A E (.ptrO id i sub) x) :
  id<E.N∧i<(E.M id).len∧∃ b,(E.M id).blk=some b∧x=.pointer (some ⟨b,(E.M id).base+i*(E.M id).wd+sub,none⟩):=by
 obtain ⟨h0,hi,b,h1,h2⟩:=(show a6A E (.ptrO id i sub) [x] from h)
 exact ⟨h0,hi,b,h1,by simpa using h2⟩
theorem c6D {t:Ty} {l:List (den t)} {i sub:Nat} {x:Value} (h:a3A E (.ptrR t l i sub) x) :
  i<l.length∧∃ b o,E.ro b∧x=.pointer (some ⟨b,o+i*a0A t+sub,none⟩)∧u8A E t l b o:=by
 obtain ⟨hi,b,o,h1,h2,h3⟩:=(show a6A E (.ptrR t l i sub) [x] from h)
 exact ⟨hi,b,o,h1,by simpa using h2,h3⟩
theorem m7C {g:Nat} {x:Value} (h:a3A E (.gptr g) x):x=.pointer (some ⟨g,0,none⟩):=by
 have h:[x]=[Value.pointer (some ⟨g,0,none⟩)]:=h
 simpa using h
theorem v8E {m:MI} {ty:Ty} {l:List (den ty)} {b k:Nat} (h:c5A E m (.arr ty l)) (hb:m.blk=some b) (hk:k<m.len) :
  ∃ cs,a2A E ty (l.getD k (c4A ty)) cs∧At E.w b (m.base+k*a0A ty) cs:=by
 obtain ⟨h1,h2,h⟩:=h
 rw [hb] at h
 obtain ⟨vs,e,h3,h5,h6,h7⟩:=h
 obtain ⟨cs,r1,r2⟩:=h7 k (by omega)
 refine ⟨cs,by rw [Cd,Aq (by omega)]; exact r1,fun j v hj => ?_⟩
 rw [cell_of_row E.w b _ vs e _ h3]
 exact r2 j v hj
omit [Inhabited GW] in
theorem r3D {b:Bool} {x:VR} {v:AV} (h:(gV b x).gives v):b=true∧x.gives v:=by
 cases x with
 | val u=>exact h
 | gval c u=>exact h.elim
 | no=>exact h.elim
theorem c7D {m:MI} {ty:Ty} {l:List (den ty)} {g:Nat} {cs:List AV} {far:Bool} (h:c5A E m (.hol ty l g cs far)):m.len=l.length∧m.wd=a0A ty∧∃ b vs e,m.blk=some b∧E.w.heap[b]? = some (.cells vs e (0,0))∧l.length≤m.cap ∧
  m.base+m.cap*a0A ty≤vs.size∧a5B E ty l g cs ((vs.toList.drop m.base).take (l.length*a0A ty))∧At E.w b m.base ((vs.toList.drop m.base).take (l.length*a0A ty)):=by
 obtain ⟨h1,h2,b,vs,e,h3,h4,h5,h6,h7⟩:=h
 refine ⟨h1,h2,b,vs,e,h3,h4,h5,h6,h7,?_⟩
 have:=(At.of_row h4).cut m.base (l.length*a0A ty)
 rwa [Dk] at this
include hT
theorem r4D {keep:Nat→Prop} {S:St} {t:TypeId} {a v:AV} {x:Value} (hm:a4A E keep S.objs) (h:(y6B T S t a).gives v) (hx:a3A E a x) :
  ∃ y,(Instr.loadAt t x).run P E.w=.ok y E.w∧d6A E v y:=by
 unfold y6B at h
 split at h
 ·exact h.elim
 ·rename_i i hi
  split at h
  ·rename_i id off
   split at h
   ·rename_i cs hl
    obtain ⟨_,b,hb,rfl⟩:=h4B hx
    obtain ⟨_,b',vs,e,h1,h2,h4⟩:=hm.rep _ _ hl
    rw [hb] at h1; cases h1
    obtain ⟨y,h5,h6⟩:=h3B hT hi (w:=E.w) (o:=0) h4 (At.of_row h2) h
    rw [Dk] at h5
    exact ⟨y,by simpa [Instr.loadAt,Instr.sureAddr] using h5,h6⟩
   ·exact h.elim
  ·rename_i id off n ty k sub
   split at h
   ·rename_i cs hl
    split at h
    ·rename_i l hA
     obtain ⟨_,hk,b,hb,rfl⟩:=m6C hx
     obtain ⟨_,b',vs,e,h1,h2,h4⟩:=hm.rep _ _ hl
     rw [hb] at h1; cases h1
     obtain ⟨_,h5⟩:=b0C h4 hA
     obtain ⟨cs',r1,r2⟩:=m5C (w:=E.w) h5 ((At.of_row h2).cut off (n*a0A ty)) hk
     obtain ⟨y,h5,h6⟩:=h3B hT hi (o3A r1) r2 h
     rw [Dk] at h5
     exact ⟨y,by simpa [Instr.loadAt,Instr.sureAddr] using h5,h6⟩
    ·exact h.elim
   ·exact h.elim
  ·rename_i id k sub
   split at h
   ·rename_i ty l hl
    obtain ⟨_,hk,b,hb,rfl⟩:=n4B hx
    obtain ⟨_,ho⟩:=hm.rep _ _ hl
    have hwd:(E.M id).wd=a0A ty:=ho.2.1
    obtain ⟨cs',r1,r2⟩:=v8E ho hb hk
    obtain ⟨y,h5,h6⟩:=h3B hT hi (o3A r1) r2 h
    rw [←hwd] at h5
    exact ⟨y,by simpa [Instr.loadAt,Instr.sureAddr] using h5,h6⟩
   ·rename_i ty l g cs far hl
    obtain ⟨_,hk,b,hb,rfl⟩:=n4B hx
    obtain ⟨_,ho⟩:=hm.rep _ _ hl
    obtain ⟨hlen,hwd,b',vs,e,hb',hh,_,_,⟨_,hg,hel,us,hus,hul,huj⟩,hAt⟩:=c7D ho
    rw [hb] at hb'; cases hb'
    split at h
    ·obtain ⟨hkg,hgv⟩:=r3D h
     have hkg:=Ag hkg
     subst hkg
     obtain ⟨y,h5,h6⟩:=h3B hT hi (w:=E.w) (b:=b) (o:=(E.M id).base+k*a0A ty) hus (fun j v hj=>by
      have:=hAt _ _ (huj j v hj)
      rwa [←Dj] at this) hgv
     rw [←hwd] at h5
     exact ⟨y,by simpa [Instr.loadAt,Instr.sureAddr] using h5,h6⟩
    ·obtain ⟨hkg,hgv⟩:=r3D h
     have hkg:k≠g:=fun e=>by rw [e,Cn] at hkg; cases hkg
     have hk2:k<l.length:=by omega
     obtain ⟨us,r1,r2⟩:=hel k hk2 hkg
     rw [Cd,Aq hk2] at hgv
     obtain ⟨y,h5,h6⟩:=h3B hT hi (w:=E.w) (b:=b) (o:=(E.M id).base+k*a0A ty) (o3A r1) (fun j v hj=>by
      have:=hAt _ _ (r2 j v hj)
      rwa [←Dj] at this) hgv
     rw [←hwd] at h5
     exact ⟨y,by simpa [Instr.loadAt,Instr.sureAddr] using h5,h6⟩
   ·exact h.elim
  ·rename_i ty l k sub
   obtain ⟨hk,b,o,hb,rfl,h1⟩:=c6D hx
   obtain ⟨cs',r1,r2⟩:=h1 k hk
   have e:l.getD k (c4A ty)=l[k]:=by rw [Cd,Aq hk]; rfl
   rw [e] at h
   obtain ⟨y,h5,h6⟩:=h3B hT hi (w:=E.w) (o3A r1) (fun j v e=>r2 j v e) h
   exact ⟨y,by simpa [Instr.loadAt,Instr.sureAddr] using h5,h6⟩
  ·rename_i g
   split at h
   ·rename_i gx hg
    obtain ⟨_,hb,h1⟩:=hm.gl.elems g gx.1 gx.2 hg
    have hx:=m7C hx
    subst hx
    obtain ⟨cs',r1,r2⟩:=h1 0 (Fg)
    obtain ⟨y,h5,h6⟩:=h3B hT hi (w:=E.w) (b:=g) (o:=0) (o3A r1) (fun j v e=>by have:=r2 j v e; rwa [Eb,Dx] at this) h
    exact ⟨y,by simpa [Instr.loadAt,Instr.sureAddr] using h5,h6⟩
   ·exact h.elim
  ·rename_i c
   obtain ⟨b,cv,e,h1,h2,h3,h4,h7⟩:=(show a6A E (.cbox c) [x] from hx)
   have h1:x=.pointer (some ⟨b,0,none⟩):=by simpa using h1
   subst h1
   obtain ⟨y,h5,h6⟩:=h3B hT hi (w:=E.w) (b:=b) (o:=0) (cs:=[c]) (vs:=[cv]) ⟨[cv],[],rfl,h7,rfl⟩ (At.of_row h3) h
   exact ⟨y,by simpa [Instr.loadAt,Instr.sureAddr] using h5,h6⟩
  ·exact h.elim
end
end Go.Rx
namespace Go.Rx
variable [Inhabited GW]
theorem r5D {E:Env}:∀ {l:List AV} {vs:List Value} {i:Nat} {v:AV},j2A E l vs→x7C l i=some v→∃ x,vs[i]? = some x∧d6A E v x
 | [],_,i,v,_,h=>by cases i <;> cases h
 | a::l,vs,0,v,r,h=>by
  obtain ⟨x,s,rfl,r1,_⟩:=r
  cases h; exact ⟨x,rfl,r1⟩
 | a::l,vs,i+1,v,r,h=>by
  obtain ⟨x,s,rfl,_,r2⟩:=r
  exact r5D (l:=l) (i:=i) r2 h
theorem m8C:∀ (l:List (Nat×TypeId)) (i:Nat),r2B l i=l[i]?
 | [],i=>by cases i <;> rfl
 | f::l,0=>rfl
 | f::l,i+1=>by rw [Co]; exact m8C l i
theorem y6A {E:Env} {v:AV} {x:Value} {cs:List AV} (h:a3A E v x) (e:k3A v=some cs):b0A E cs x.cells.toList:=by
  cases v <;> simp only [k3A] at e <;> first
    | (cases e; done)
    | (cases e
       obtain ⟨vs,rfl,h⟩:=h
       simpa [Value.cells] using h)
    | (cases e
       have hc:a6A E _ [x]:=h
       have h1:=a6A.one hc x (by simp)
       have:x.cells = #[x]:=by cases x <;> first | rfl | (simp [Value.oneCell'] at h1)
       rw [this]
       exact ⟨[x],[],rfl,hc,rfl⟩)
theorem m9C {E:Env} {v:AV} {x:Value} (h:a3A E v x) (e:i6A v=true):a6A E v [x]:=by
 cases v <;> first
  | (cases e; done)
  | exact h
theorem c8D {E:Env} {S:St} {a:Act} (h:e0A E S.tmps a.tmps):∀ (l:List Operand),x6A (d5A (ev S) l)=true→e5A E (d5A (ev S) l) (l.map a.eval)
 | [],_=>rfl
 | x::l,hc=>by
  simp only [d5A,x6A,Ac] at hc
  exact ⟨a.eval x,l.map a.eval,rfl,hc.1,m9C (b6A h x) hc.1,c8D h l hc.2⟩
section
variable {P:Program} {T:Tab} (hT:TabOK P T) {E:Env} {w:World}
theorem n0C {α:Type} {a:Array α} {x:α} (h:a.toList=[x]):a = #[x]:=by
 have:a=a.toList.toArray:=by simp
 rw [this,h]
theorem b1C {α:Type} {a:Array α} {x y:α} (h:a.toList=[x,y]):a = #[x,y]:=by
 have:a=a.toList.toArray:=by simp
 rw [this,h]
include hT
theorem v9E {keep:Nat→Prop} {objs:Objs} (hm:a4A E keep objs) {t:TypeId} {a v:AV} {x:Value} {f:Nat} (h:(y2C T t a f).gives v) (hx:a3A E a x) :
  ∃ y,(Instr.fieldAt t x f).run P w=.ok y w∧d6A E v y:=by
 unfold y2C at h
 split at h
 ·rename_i fs htd
  split at h
  ·rename_i o ft hn
   split at h
   ·rename_i fi hfi
    obtain ⟨d,hu,F,rfl,rfl⟩:=f7A hT htd
    rw [m8C,List.getElem?_map] at hn
    cases hF:F.toList[f]? with
    | none=>rw [hF] at hn; cases hn
    | some g =>
     rw [hF] at hn
     cases hn
     have hF:F[f]? = some g:=by simpa using hF
     cases hz:Nat.beq fi.size 0 with
     | true=>rw [hz] at h; exact h.elim
     | false =>
      rw [hz] at h
      have hz:¬ fi.size=0:=fun e=>by rw [e] at hz; cases hz
      have key:∀ b o',(Instr.fieldAt t (.pointer (some ⟨b,o',none⟩)) f).run P w=.ok (.pointer (some ⟨b,o'+g.offset,none⟩)) w:=by
       intro b o'
       simp [Instr.fieldAt,c3A hu,hF,Instr.sureAddr,fieldPlace,t3A hT hfi,hz,v0A]
      simp only [Ai] at h
      split at h
      ·cases h
       obtain ⟨h0,b,h1,rfl⟩:=h4B hx
       exact ⟨_,key _ _,h0,b,h1,rfl⟩
      ·cases h
       obtain ⟨h0,hi,b,h1,rfl⟩:=m6C hx
       exact ⟨_,key _ _,h0,hi,b,h1,by rw [Dj]⟩
      ·cases h
       obtain ⟨h0,hi,b,h1,rfl⟩:=n4B hx
       exact ⟨_,key _ _,h0,hi,b,h1,by rw [Dj]⟩
      ·cases h
       obtain ⟨hi,b,o,h1,rfl,h3⟩:=c6D hx
       exact ⟨_,key _ _,hi,b,o,h1,by rw [Dj],h3⟩
      ·rename_i gg
       split at h
       ·rename_i gx hg
        cases h
        obtain ⟨_,hb,h1⟩:=hm.gl.elems gg gx.1 gx.2 hg
        have hx:=m7C hx
        subst hx
        exact ⟨_,key _ _,Fg,gg,0,hb,by rw [Eb],h1⟩
       ·exact h.elim
      ·exact h.elim
   ·exact h.elim
  ·exact h.elim
 ·exact h.elim
theorem r6D {t:TypeId} {i:o8A} (hi:d2A t T=some i) {cs:List AV} {vs:List Value} {off:Nat} {v:AV} (hc:b0A E cs vs) (h:(r3A i cs off).gives v) :
  ∃ y,(part t vs.toArray off).run P w=.ok y w∧d6A E v y:=by
 obtain ⟨r,e1,e2⟩:=m0A (h1B h)
 obtain ⟨h1,h2⟩:=a6C hc e1
 refine ⟨_,?_,l2C h2 e2⟩
 have h3:=c5D h2 e2
 simp only [part,Sem.run_bind,s8B hT hi,Result.andThen_ok]
 cases ha:i.td.isAgg with
 | true =>
  simp only [Ep,Sem.run_bind,t3A hT hi,Result.andThen_ok,Sem.run_pure,mkV,List.extract_toArray]
  congr 3
  rw [List.extract_eq_take_drop,Nat.add_sub_cancel_left]
 | false =>
  have h3:=h3.resolve_left (by rw [ha]; nofun)
  rw [Ap,Ar] at h3
  have hlt:off<vs.length:=by omega
  simp only [Cf,Fb,Da,Aq hlt,Sem.run_pure,mkV]
  congr 1
  rw [List.headD_eq_head?_getD,List.head?_take,Ae (by omega),List.head?_drop,Aq hlt]; rfl
theorem w0E {t:TypeId} {a v:AV} {x:Value} {f:Nat} (h:(y3C T t a f).gives v) (hx:a3A E a x) :
  ∃ y,(Instr.field t x f).run P w=.ok y w∧d6A E v y:=by
 unfold y3C at h
 split at h
 ·rename_i fs cs htd
  split at h
  ·rename_i o ft hn
   split at h
   ·rename_i fi hfi
    obtain ⟨d,hu,F,rfl,rfl⟩:=f7A hT htd
    rw [m8C,List.getElem?_map] at hn
    cases hF:F.toList[f]? with
    | none=>rw [hF] at hn; cases hn
    | some g =>
     rw [hF] at hn
     cases hn
     have hF:F[f]? = some g:=by simpa using hF
     obtain ⟨vs,rfl,hc⟩:=hx
     obtain ⟨y,h1,h2⟩:=r6D hT (w:=w) hfi hc h
     exact ⟨y,by simp [Instr.field,c3A hu,hF,asAgg,h1],h2⟩
   ·exact h.elim
  ·exact h.elim
 ·exact h.elim
omit hT
theorem h5B {i:Int} {n:Nat} (h:a7A i n=true):0≤i∧i<n:=by
 simpa [a7A] using h
include hT
theorem n5B {e:TypeId} {ty:Ty} (h:o9A T e ty=true):(sizeOf e).run P w=.ok (a0A ty) w:=by
 unfold o9A at h
 split at h
 ·rename_i i hi
  rw [t3A hT hi,Ag h]
 ·cases h
omit hT
theorem c9D {keep:Nat→Prop} {S:St} {e:TypeId} {id n:Nat} (hm:a4A E keep S.objs) (h:y7B T S e id=some n):∃ ty,o9A T e ty=true∧(E.M id).len=n∧(E.M id).wd=a0A ty:=by
 unfold y7B at h
 split at h
 ·rename_i ty l hl
  rcases c2A h with ⟨hb,h⟩ | ⟨_,h⟩
  ·cases h
   obtain ⟨_,h1,h2,_⟩:=hm.rep _ _ hl
   exact ⟨ty,hb,h1,h2⟩
  ·cases h
 ·rename_i ty l _ _ _ hl
  rcases c2A h with ⟨hb,h⟩ | ⟨_,h⟩
  ·cases h
   obtain ⟨_,h1,h2,_⟩:=hm.rep _ _ hl
   exact ⟨ty,hb,h1,h2⟩
  ·cases h
 ·cases h
theorem n1C (r:Option (Nat×Nat)) (i:Nat):i6C r i=d1A r+i:=by
 cases r with
 | none=>simp [i6C,d1A]
 | some p=>rfl
theorem d5B {id:Nat} {r:Option (Nat×Nat)} {x:Value} (h:a3A E (.oref id r) x):id<E.N∧match (E.M id).blk with
  | none=>x=.slice none 0 0∧d1A r=0∧e9A (E.M id).len r=0
  | some b=>∃ o cap,x=.slice (some ⟨b,o,none⟩) (e9A (E.M id).len r) cap∧e9A (E.M id).len r≤cap∧d1A r+e9A (E.M id).len r≤(E.M id).len ∧
    (cap=0∨(o=(E.M id).base+d1A r*(E.M id).wd∧d1A r+cap≤(E.M id).cap)):=by
 obtain ⟨h0,h⟩:=(show a6A E (.oref id r) [x] from h)
 refine ⟨h0,?_⟩
 cases hb:(E.M id).blk with
 | none =>
  rw [hb] at h
  exact ⟨by simpa using h.1,h.2⟩
 | some b =>
  rw [hb] at h
  obtain ⟨o,cap,e,r⟩:=h
  exact ⟨o,cap,by simpa using e,r⟩
include hT
theorem w1E {keep:Nat→Prop} {S:St} {t:TypeId} {a ix v:AV} {x y:Value} (hm:a4A E keep S.objs) (h:(y4C T S t a ix).gives v) (hx:a3A E a x) (hy:a3A E ix y) :
  ∃ z,(Instr.indexAt t x y).run P w=.ok z w∧d6A E v z:=by
 unfold y4C at h
 split at h
 ·rename_i n e id off k i htd
  obtain ⟨d,hu,rfl⟩:=f7A hT htd
  split at h
  ·rename_i ei cs hei hl
   split at h
   ·rename_i n' ty l hcut
    cases hb:Nat.beq ei.size (a0A ty) with
    | false=>rw [hb] at h; exact h.elim
    | true =>
     rw [hb] at h
     obtain ⟨hw,rfl⟩:=h
     have hw:=h5B hw
     have hsz:=Ag hb
     obtain ⟨h0,b,h1,rfl⟩:=h4B hx
     rw [hy.int_inv]
     refine ⟨.pointer (some ⟨b,off+i.toNat*a0A ty+0,none⟩),?_,h0,by omega,b,h1,rfl⟩
     simp [Instr.indexAt,asIntOf,c3A hu,Instr.sureAddr,hw.1,hw.2,t3A hT hei,v0A,hsz]
   ·exact h.elim
  ·exact h.elim
 ·rename_i n e g k i htd
  obtain ⟨d,hu,rfl⟩:=f7A hT htd
  split at h
  ·rename_i n' ty l hg
   cases hb:Nat.beq n' n&&o9A T e ty with
   | false=>rw [hb] at h; exact h.elim
   | true =>
    rw [hb] at h
    obtain ⟨hw,rfl⟩:=h
    have hw:=h5B hw
    simp only [Ac] at hb
    obtain ⟨_,hro,h1⟩:=hm.gl.elems g _ _ hg
    have hx:=m7C hx
    subst hx
    rw [hy.int_inv]
    obtain ⟨cs,⟨e1,e2,r1⟩,r2⟩:=h1 0 Fg
    have e1:l.length=n':=e1
    have en:=Ag hb.1
    refine ⟨.pointer (some ⟨g,0+i.toNat*a0A ty+0,none⟩),?_,by omega,g,0,hro,rfl,fun k hk => ?_⟩
    ·simp [Instr.indexAt,asIntOf,c3A hu,Instr.sureAddr,hw.1,hw.2,n5B hT hb.2,v0A]
    ·obtain ⟨ck,q1,q2⟩:=r1 k hk
     refine ⟨ck,q1,fun j v hj => ?_⟩
     have:=r2 (k*a0A ty+j) v (q2 j v hj)
     rwa [Eb,Dx,←Dj] at this
  ·exact h.elim
 ·rename_i e ty l k i htd
  obtain ⟨d,hu,rfl⟩:=f7A hT htd
  cases hb:o9A T e ty with
  | false=>rw [hb] at h; exact h.elim
  | true =>
   rw [hb] at h
   obtain ⟨hw,rfl⟩:=h
   have hw:=h5B hw
   obtain ⟨a,cap,e1,hc,r⟩:=(show a2A E (.sl ty) l [x] from hx)
   have e1:x=.slice a l.length cap:=by simpa using e1
   subst e1
   rw [hy.int_inv]
   obtain ⟨b,o,rfl,hro,r⟩:=r.resolve_left (by omega)
   refine ⟨.pointer (some ⟨b,o+i.toNat*a0A ty+0,none⟩),?_,by omega,b,o,hro,rfl,r⟩
   simp [Instr.indexAt,asIntOf,c3A hu,hw.1,hw.2,n5B hT hb,v0A]
 ·rename_i e id rg k i htd
  obtain ⟨d,hu,rfl⟩:=f7A hT htd
  split at h
  ·rename_i n hn
   obtain ⟨ty,hb,hlen,hwd⟩:=c9D hm hn
   obtain ⟨hw,rfl⟩:=h
   have hw:=h5B hw
   obtain ⟨h0,r⟩:=d5B hx
   rw [hy.int_inv]
   rw [←hlen] at hw
   split at r
   ·omega
   ·rename_i b hblk
    obtain ⟨o,cap,rfl,hc,hl2,hcap⟩:=r
    have hcap:=hcap.resolve_left (by omega)
    refine ⟨.pointer (some ⟨b,(E.M id).base+(d1A rg+i.toNat)*(E.M id).wd+0,none⟩),?_,h0,by rw [n1C]; omega,b,hblk,by rw [n1C]⟩
    simp [Instr.indexAt,asIntOf,c3A hu,hw.1,hw.2,n5B hT hb,v0A,hcap.1,hwd,Ca,Dj]
  ·exact h.elim
 ·rename_i e id off n ty lo len k i htd
  obtain ⟨d,hu,rfl⟩:=f7A hT htd
  cases hb:o9A T e ty with
  | false=>rw [hb] at h; exact h.elim
  | true =>
   rw [hb] at h
   obtain ⟨hw,rfl⟩:=h
   have hw:=h5B hw
   obtain ⟨h0,hn,b,o,h1,e1,ho⟩:=(show a6A E (.bsl id off n ty lo len) [x] from hx)
   cases e1
   rw [hy.int_inv]
   have ho:=ho.resolve_left (by omega)
   refine ⟨.pointer (some ⟨b,off+(i.toNat+lo)*a0A ty+0,none⟩),?_,h0,by omega,b,h1,rfl⟩
   simp [Instr.indexAt,asIntOf,c3A hu,hw.1,hw.2,n5B hT hb,v0A,ho,Ca,Dj,Nat.add_comm (i.toNat*a0A ty)]
 ·exact h.elim
end
end Go.Rx
namespace Go.Rx
variable [Inhabited GW]
section
variable {P:Program} {T:Tab} (hT:TabOK P T) {E:Env} {w:World}
def n6B (d:Nat) (e:TypeId) (n:Nat) (xs ys:Array Value):List Nat→Sem Bool
 | []=>pure true
 | i::l=>do
   let a ←part e xs (i*n)
   let b ←part e ys (i*n)
   let r ←Op.equalIn d e a b
   if (!r)=true then pure false else n6B d e n xs ys l
theorem w2E (w:World) (d:Nat) (t e:TypeId) (len n:Nat) (xs ys:Array Value) (ht:P.underlying t=some (.array len e)) (hn:∀ w,(sizeOf e).run P w=.ok n w) :
  (Op.equalIn (d+1) t (.agg xs) (.agg ys)).run P w=(n6B d e n xs ys (List.range' 0 len)).run P w:=by
 simp only [Op.equalIn,Sem.run_bind,c3A ht,Result.andThen_ok,hn]
 simp only [Std.Legacy.Range.forIn_eq_forIn_range',Std.Legacy.Range.size,Nat.sub_zero,Nat.add_one_sub_one,Nat.div_one]
 generalize List.range' 0 len=l
 clear ht hn
 induction l generalizing w with
 | nil=>simp [n6B]
 | cons i l ih =>
  simp only [List.forIn_cons,n6B,Sem.run_bind,Sem.run_ite]
  generalize (part e xs (i*n)).run P w=r1
  cases r1 with
  | ok a w1 =>
   simp only [Result.andThen_ok]
   generalize (part e ys (i*n)).run P w1=r2
   cases r2 with
   | ok b w2 =>
    simp only [Result.andThen_ok]
    generalize (Op.equalIn d e a b).run P w2=r3
    cases r3 with
    | ok r w3 =>
     cases r
     ·simp only [Result.andThen_ok,Cr,Ep,Sem.run_pure]
     ·simp only [Result.andThen_ok,Cc,Cf,Fb,Sem.run_pure]
      exact ih w3
    | halt x w3=>simp [Result.andThen]
   | halt x w2=>simp [Result.andThen]
  | halt x w1=>simp [Result.andThen]
def isV (i:o8A) (us:List Value) (x:Value):Prop:=if i.td.isAgg=true then x=.agg us.toArray else us=[x]
theorem w3E {l m:List Int} (h:l.length=m.length) (i:Nat) (hi:i<l.length):(l.drop i==m.drop i)=((l.getD i 0==m.getD i 0)&&(l.drop (i+1)==m.drop (i+1))):=by
 rw [List.drop_eq_getElem_cons hi,List.drop_eq_getElem_cons (show i<m.length by omega)]
 rw [List.cons_beq_cons]
 congr 2
 ·rw [Cd,Aq hi]; rfl
 ·rw [Cd,Aq (show i<m.length by omega)]; rfl
include hT
theorem r7D {t:TypeId} {i:o8A} (hi:d2A t T=some i) {us:List Value} {off:Nat} (hl:off+i.size≤us.length) (h1:i.td.isAgg=false→i.size=1) :
  ∃ x,(part t us.toArray off).run P w=.ok x w∧isV i ((us.drop off).take i.size) x:=by
 simp only [part,Sem.run_bind,s8B hT hi,Result.andThen_ok]
 cases ha:i.td.isAgg with
 | true =>
  refine ⟨.agg (us.toArray.extract off (off+i.size)),by simp [t3A hT hi],?_⟩
  unfold isV
  rw [Aj ha]
  congr 1
  apply Array.toList_inj.1
  simp
 | false =>
  have hs:=h1 ha
  have hlt:off<us.length:=by omega
  refine ⟨us[off],by simp [hlt],?_⟩
  unfold isV
  rw [Ae (by rw [ha]; simp),hs,List.drop_eq_getElem_cons hlt]; rfl
theorem w4E {e:TypeId} {i:o8A} (hi:d2A e T=some i) {k0:IntKind} (hk:i.td=.int k0) (hs:i.size=1) {k:IntKind} {n:Nat} {l m:List Int} {us vs:List Value} (hu:a2A E (.arr n (.int k)) l us) (hv:a2A E (.arr n (.int k)) m vs) (D:Nat) :
  ∀ (c s:Nat),s+c=n→(n6B (D+1) e 1 us.toArray vs.toArray (List.range' s c)).run P w=.ok (l.drop s==m.drop s) w:=by
 obtain ⟨u1,u2,u3⟩:=hu
 obtain ⟨v1,v2,v3⟩:=hv
 have hw:a0A (.int k)=1:=rfl
 have hden:P.underlying e=some (.int k0):=by
  obtain ⟨d,h1,h2⟩:=(hT e i hi).und
  rw [hk] at h2
  rw [h1,show d=.int k0 from h2]
 intro c
 induction c with
 | zero =>
  intro s hs'
  rw [List.range'_zero,List.drop_eq_nil_of_le (by omega),List.drop_eq_nil_of_le (by omega)]
  simp [n6B]
 | succ c ih =>
  intro s hs'
  have get:∀ {l:List Int} {us:List Value},l.length=n→(∀ i,(h:i<l.length)→∃ cs,a2A E (.int k) l[i] cs∧∀ j v,cs[j]? = some v→us[i*a0A (.int k)+j]? = some v) →
    us[s]? = some (.int k (l.getD s 0)):=by
   intro l us h1 h3
   obtain ⟨cs,r1,r2⟩:=h3 s (by omega)
   have r1:cs=[.int k l[s]]:=r1
   subst r1
   have:=r2 0 _ rfl
   rw [hw] at this
   have hs3:s<l.length:=by rw [h1]; omega
   rw [Cd,Aq hs3]
   simpa using this
  have gu:=get u1 u3
  have gv:=get v1 v3
  have hp:∀ {us:List Value} {x:Int},us[s]? = some (.int k x)→(part e us.toArray (s*1)).run P w=.ok (.int k x) w:=by
   intro us x hx
   simp only [part,Sem.run_bind,s8B hT hi,hk,TD.isAgg,Result.andThen_ok,Nat.mul_one,Da,hx]
   rfl
  rw [List.range'_succ]
  simp only [n6B,Sem.run_bind,hp gu,hp gv,Result.andThen_ok,run_equalIn_int w D e k k0 _ _ hden]
  rw [w3E (by omega) s (by omega)]
  cases hb:(l.getD s 0==m.getD s 0) with
  | false=>simp
  | true =>
   simp only [Cc,Cf,Fb,Cs]
   exact ih (s+1) (by omega)
theorem n2C:∀ (d:Nat) (t:TypeId) (xs ys:List AV) (b:Bool),eqC T d t xs ys=some b→∀ us vs:List Value,b0A E xs us→b0A E ys vs →
  ∃ i,d2A t T=some i∧(i.td.isAgg=false→us.length=1∧vs.length=1)∧∀ x y,isV i us x→isV i vs y→∀ D,d+2≤D→(Op.equalIn D t x y).run P w=.ok b w
 | 0,t,xs,ys,b,h=>by cases h
 | d+1,t,xs,ys,b,h=>by
  intro us vs hu hv
  simp only [eqC] at h
  split at h
  ·cases h
  rename_i i hi
  refine ⟨i,hi,?_⟩
  obtain ⟨de,hund,htd⟩:=(hT t i hi).und
  split at h
  ·rename_i a c htdi
   cases h
   rw [htdi] at htd
   have htd:de=.bool:=htd
   subst htd
   obtain ⟨_,_,rfl,r1,r2⟩:=hu
   obtain ⟨_,_,rfl,r3,r4⟩:=hv
   have r1:_=[Value.bool _]:=r1
   have r3:_=[Value.bool _]:=r3
   have r2:_=[]:=r2
   have r4:_=[]:=r4
   subst r1; subst r2; subst r3; subst r4
   refine ⟨fun _=>⟨rfl,rfl⟩,fun x y hx hy D hD => ?_⟩
   simp only [isV,htdi,TD.isAgg,Cf,Fb,Bc,List.cons.injEq,and_true] at hx hy
   subst hx; subst hy
   obtain ⟨D,rfl⟩:∃ D',D=D'+1:=⟨D - 1,by omega⟩
   exact run_equalIn_bool' w D t _ _ hund
  ·rename_i k0 k a k' c htdi
   split at h
   ·rename_i hk
    subst hk
    cases h
    rw [htdi] at htd
    have htd:de=.int k0:=htd
    subst htd
    obtain ⟨_,_,rfl,r1,r2⟩:=hu
    obtain ⟨_,_,rfl,r3,r4⟩:=hv
    have r1:_=[Value.int _ _]:=r1
    have r3:_=[Value.int _ _]:=r3
    have r2:_=[]:=r2
    have r4:_=[]:=r4
    subst r1; subst r2; subst r3; subst r4
    refine ⟨fun _=>⟨rfl,rfl⟩,fun x y hx hy D hD => ?_⟩
    simp only [isV,htdi,TD.isAgg,Cf,Fb,Bc,List.cons.injEq,and_true] at hx hy
    subst hx; subst hy
    obtain ⟨D,rfl⟩:∃ D',D=D'+1:=⟨D - 1,by omega⟩
    exact run_equalIn_int w D t k _ _ _ hund
   ·cases h
  ·rename_i a c htdi
   cases h
   rw [htdi] at htd
   have htd:de=.string:=htd
   subst htd
   obtain ⟨_,_,rfl,r1,r2⟩:=hu
   obtain ⟨_,_,rfl,r3,r4⟩:=hv
   have r1:_=[Value.string _]:=r1
   have r3:_=[Value.string _]:=r3
   have r2:_=[]:=r2
   have r4:_=[]:=r4
   subst r1; subst r2; subst r3; subst r4
   refine ⟨fun _=>⟨rfl,rfl⟩,fun x y hx hy D hD => ?_⟩
   simp only [isV,htdi,TD.isAgg,Cf,Fb,Bc,List.cons.injEq,and_true] at hx hy
   subst hx; subst hy
   obtain ⟨D,rfl⟩:∃ D',D=D'+1:=⟨D - 1,by omega⟩
   exact run_equalIn_string w D t _ _ hund
  ·rename_i n e n1 k1 l1 n2 k2 l2 htdi
   split at h
   ·rename_i hc
    obtain ⟨rfl,rfl,rfl,he⟩:=hc
    cases h
    rw [htdi] at htd
    have htd:de=.array _ e:=htd
    subst htd
    obtain ⟨_,_,rfl,r1,r2⟩:=hu
    obtain ⟨_,_,rfl,r3,r4⟩:=hv
    have r2:_=[]:=r2
    have r4:_=[]:=r4
    subst r2; subst r4
    refine ⟨fun ha=>(by rw [htdi] at ha; cases ha),fun x y hx hy D hD => ?_⟩
    simp only [isV,htdi,TD.isAgg,Ep,Bc] at hx hy
    subst hx; subst hy
    unfold i4C at he
    split at he
    ·rename_i ei hei
     split at he
     ·rename_i k0 hek
      have hes:=Ag he
      obtain ⟨D,rfl⟩:∃ D',D=D'+1+1:=⟨D - 2,by omega⟩
      rw [w2E w (D+1) t e _ 1 _ _ hund (fun w=>by rw [t3A hT hei,hes])]
      have:=w4E hT (w:=w) hei hek hes r1 r3 D _ 0 (Dk _)
      simpa using this
     ·cases he
    ·cases he
   ·cases h
  ·rename_i xs ys _ _ _ fs htdi
   rcases c2A h with ⟨hq,h⟩ | ⟨_,h⟩
   ·obtain ⟨hs1,hs2,hs3⟩:=(hT t i hi).eqs hq
    rw [htdi] at htd
    obtain ⟨F,rfl,rfl⟩:=htd
    refine ⟨fun ha=>(by rw [htdi] at ha; cases ha),fun x y hx hy D hD => ?_⟩
    simp only [isV,htdi,TD.isAgg,Ep] at hx hy
    subst hx; subst hy
    obtain ⟨D,rfl⟩:∃ D',D=D'+1:=⟨D - 1,by omega⟩
    have hfo:P.fieldsOf t=F:=by simp only [Program.fieldsOf,hund]
    rw [run_equalIn_struct w D t _ _ (by rw [hfo]; exact hund) hs1,hfo]
    have key : ∀ (l : List Field) (b : Bool), (∀ f ∈ l, f.name ≠ "_") → i3C T (eqC T d) xs ys (l.map fun f => (f.offset, f.type)) = some b → (Op.eqFields D us.toArray vs.toArray l).run P w = .ok b w := by
     intro l
     induction l with
     | nil=>intro b _ h; cases h; simp [Op.eqFields]
     | cons f l ih =>
      intro b hn h
      simp only [List.map_cons,i3C] at h
      split at h
      ·rename_i fi hfi
       split at h
       ·rename_i ca cb hca hcb
        split at h
        ·rename_i r hr
         split at h
         ·rename_i s hs
          cases h
          obtain ⟨g1,g2⟩:=a6C hu hca
          obtain ⟨g3,g4⟩:=a6C hv hcb
          obtain ⟨fi',hfi',hone,heq⟩:=n2C d f.type ca cb r hr _ _ g2 g4
          rw [hfi] at hfi'; cases hfi'
          have hsz:fi.td.isAgg=false→fi.size=1:=fun ha=>by
           have:=(hone ha).1
           rw [Ap,Ar] at this; omega
          obtain ⟨x,hx1,hx2⟩:=r7D hT (w:=w) hfi g1 hsz
          obtain ⟨y,hy1,hy2⟩:=r7D hT (w:=w) hfi g3 hsz
          simp only [Op.eqFields,Aj (hn f Ax),Sem.run_bind,hx1,hy1,Result.andThen_ok,heq x y hx2 hy2 D (by omega)]
          cases r with
          | false=>simp
          | true =>
           simp only [Cc,Cf,Fb,Cs]
           exact ih s (fun f' hf'=>hn f' (Bb _ hf')) hs
         ·cases h
        ·cases h
       ·cases h
      ·cases h
    exact key _ _ (fun f hf=>hs3 F hund f (Array.mem_toList_iff.1 hf)) h
   ·cases h
  ·cases h
theorem w5E {t:TypeId}:q5D P T E w t:=by
 intro xs ys b h us vs hu hv
 unfold i5C at h
 split at h
 ·rename_i i hi
  rcases c2A h with ⟨hq,h⟩ | ⟨_,h⟩
  ·rw [Ac] at hq
   obtain ⟨hs1,hs2,hs3⟩:=(hT t i hi).eqs hq.1
   obtain ⟨i',hi',hone,heq⟩:=n2C hT (w:=w) 8 t xs ys b h us vs hu hv
   rw [hi] at hi'; cases hi'
   refine ⟨hs2,?_⟩
   exact heq _ _ (by rw [isV,Aj hq.2]) (by rw [isV,Aj hq.2]) 10000 (by omega)
  ·cases h
 ·cases h
end
end Go.Rx
namespace Go.Rx
variable [Inhabited GW]
section
variable {P:Program} {T:Tab} (hT:TabOK P T) {E:Env} {w:World}
def i1A {A V:Type} (eq:A→Bool):List (Nat×(A×V))→Option Nat
 | []=>none
 | p::es=>bif eq p.2.1 then some 0 else oM (i1A eq es) (·+1)
omit [Inhabited GW] in
theorem d0D {A V:Type} (eq:A→Bool):∀ es:List (Nat×(A×V)),(i1A eq es).isSome=(l8A eq es).isSome
 | []=>rfl
 | p::es=>by
  unfold i1A l8A
  cases eq p.2.1 with
  | true=>rfl
  | false =>
   simp only [Ai]
   rw [←d0D eq es]
   cases i1A eq es <;> rfl
def b2C (t:Bool×Ty):Prop:=(∃ k,t=(false,.int k))∨∃ n k,t=(true,.arr n (.int k))
omit [Inhabited GW] in
theorem r8D {t:Bool×Ty} (ht:b2C t) (x y:den t.2):f0A t.2 x y=true↔x=y:=by
 rcases ht with ⟨k,rfl⟩ | ⟨n,k,rfl⟩
 ·show ((x:Int)==y)=true↔x=y
  exact Cw
 ·show ((x:List Int)==y)=true↔x=y
  exact Cw
theorem d7A.int_inv {k:IntKind} {x:Int} {v:Value} (h:d7A E (false,.int k) x v):v=.int k x:=by
 obtain ⟨cs,h1,h2⟩:=h
 have h1:cs=[.int k x]:=h1
 rw [Ae Fc,h1] at h2
 exact (List.cons.inj h2).1.symm
theorem w6E {n:Nat} {k:IntKind} {l:List Int} {cs:List Value} (h:a2A E (.arr n (.int k)) l cs):cs=l.map (Value.int k):=by
 obtain ⟨h1,h2,h3⟩:=h
 have h2:cs.length=n*1:=h2
 apply List.ext_getElem?
 intro i
 by_cases hi:i<l.length
 ·obtain ⟨c,r1,r2⟩:=h3 i hi
  have r1:c=[.int k l[i]]:=r1
  have:=r2 0 (.int k l[i]) (by rw [r1]; rfl)
  rw [List.getElem?_map,Aq hi]
  rw [show i*a0A (.int k)+0=i by simp [a0A]] at this
  exact this
 ·rw [Bq (by omega),Bq (by rw [List.length_map]; omega)]
theorem d7A.arr_inv {n:Nat} {k:IntKind} {l:List Int} {v:Value} (h:d7A E (true,.arr n (.int k)) l v):l.length=n∧v=.agg (l.map (Value.int k)).toArray:=by
 obtain ⟨cs,h1,h2⟩:=h
 rw [Aj rfl,w6E h1] at h2
 exact ⟨h1.1,h2⟩
theorem d7A.uniq {t:Bool×Ty} (ht:b2C t) {x:den t.2} {v v':Value} (h:d7A E t x v) (h':d7A E t x v'):v=v':=by
 rcases ht with ⟨k,rfl⟩ | ⟨n,k,rfl⟩
 ·rw [h.int_inv,h'.int_inv]
 ·rw [h.arr_inv.2,h'.arr_inv.2]
omit [Inhabited GW] in
theorem r9D (d:Nat) (k:IntKind):∀ l:List Int,((l.map (Value.int k)).zip (l.map (Value.int k))).all (fun (x,y)=>Instr.sameBits d x y)=true
 | []=>rfl
 | a::l=>by
  simp only [List.map_cons,List.zip_cons_cons,List.all_cons,Ac]
  refine ⟨?_,r9D d k l⟩
  cases d <;> simp [Instr.sameBits]
theorem s0D {t:Bool×Ty} (ht:b2C t) {x:den t.2} {v:Value} (h:d7A E t x v):(Instr.keyThatStays v v).run P w=.ok v w:=by
 have:Instr.sameBits 10000 v v=true:=by
  rcases ht with ⟨k,rfl⟩ | ⟨n,k,rfl⟩
  ·rw [h.int_inv]; simp [Instr.sameBits]
  ·rw [h.arr_inv.2]
   show (_==_&&_)=true
   rw [Ac]
   exact ⟨by simp,by simpa using r9D 9999 k x⟩
 unfold Instr.keyThatStays
 rw [Aj this]; rfl
theorem b3C {b:Bool} {n:Nat} {t:TypeId} {k:IntKind} {v:Value} {w:World} (h:P.underlying t=some (.int k)):(Instr.checkKey b (n+1) t v).run P w=.ok () w:=by
 simp [Instr.checkKey,c3A h]
structure b4C (P:Program) (T:Tab) (K:TypeId) (t:Bool×Ty):Prop where
 ty:b2C t
 ok:∃ i,d2A K T=some i∧m3B T i.td t.2=true∧t.1=i.td.isAgg
include hT
theorem w7E {K:TypeId} {t:Bool×Ty} (hK:b4C P T K t) {x y:den t.2} {v v':Value} (h:d7A E t x v) (h':d7A E t y v'):(Op.equal K v v').run P w=.ok (f0A t.2 x y) w:=by
 obtain ⟨ht,i,hi,hok,hag⟩:=hK
 rcases ht with ⟨k,rfl⟩ | ⟨n,k,rfl⟩
 ·unfold m3B at hok
  split at hok
  ·rename_i k0 k1 htd e
   cases e
   rw [h.int_inv,h'.int_inv]
   have hC:eqC T 1 K [.int k x] [.int k y]=some ((x:Int)==y):=by
    simp only [eqC,hi,htd,Ep]
   obtain ⟨j,hj,_,he⟩:=n2C hT (E:=E) (w:=w) 1 K _ _ _ hC [.int k x] [.int k y] ⟨_,[],rfl,rfl,rfl⟩ ⟨_,[],rfl,rfl,rfl⟩
   rw [hi] at hj; cases hj
   exact he _ _ (by simp [isV,htd,TD.isAgg]) (by simp [isV,htd,TD.isAgg]) 10000 (by omega)
  ·rename_i e; cases e
  ·cases hok
 ·unfold m3B at hok
  split at hok
  ·rename_i e; cases e
  ·rename_i m e n1 k1 htd e1
   cases e1
   rw [Ac] at hok
   have hm:=Ag hok.1
   subst hm
   obtain ⟨c1,r1,s1⟩:=h
   obtain ⟨c2,r2,s2⟩:=h'
   rw [Aj rfl] at s1 s2
   subst s1 s2
   have hC:eqC T 1 K [.arr m (.int k) x] [.arr m (.int k) y]=some ((x:List Int)==y):=by
    simp only [eqC,hi,htd]
    simp [hok.2]
   obtain ⟨j,hj,_,he⟩:=n2C hT (E:=E) (w:=w) 1 K _ _ _ hC c1 c2 ⟨_,[],(Bc _).symm,r1,rfl⟩ ⟨_,[],(Bc _).symm,r2,rfl⟩
   rw [hi] at hj; cases hj
   exact he _ _ (by simp [isV,htd,TD.isAgg]) (by simp [isV,htd,TD.isAgg]) 10000 (by omega)
  ·cases hok
omit hT
theorem s1D {K:TypeId} {k0:IntKind} {b:Bool} {d sz:Nat} {xs:Array Value} (hu:P.underlying K=some (.int k0)) (hs:∀ w,(sizeOf K).run P w=.ok sz w) :
  ∀ (l:List Nat),(∀ i∈l,∃ x,(part K xs (i*sz)).run P w=.ok x w)→(forIn l PUnit.unit fun i _=>(do Instr.checkKey b (d+1) K (←part K xs (i*(←sizeOf K))); pure (ForInStep.yield PUnit.unit):Sem (ForInStep PUnit))).run P w=.ok PUnit.unit w
 | [],_=>rfl
 | i::l,h=>by
  obtain ⟨x,hx⟩:=h i Ax
  simp only [List.forIn_cons,Sem.run_bind,hs,Result.andThen_ok,hx,b3C hu,Sem.run_pure]
  exact s1D hu hs l fun j hj=>h j (Bb _ hj)
include hT
theorem w8E {K:TypeId} {t:Bool×Ty} (hK:b4C P T K t) {x:den t.2} {v:Value} (h:d7A E t x v) (b:Bool) (n0:Nat):(Instr.checkKey b (n0+1+1) K v).run P w=.ok () w:=by
 obtain ⟨ht,i,hi,hok,hag⟩:=hK
 obtain ⟨d,hd,htd⟩:=(hT K i hi).und
 rcases ht with ⟨k,rfl⟩ | ⟨n,k,rfl⟩
 ·unfold m3B at hok
  split at hok
  ·rename_i k0 k1 htdi e
   rw [htdi] at htd
   have htd:d=.int k0:=htd
   subst htd
   exact b3C hd
  ·rename_i e; cases e
  ·cases hok
 ·unfold m3B at hok
  split at hok
  ·rename_i e; cases e
  ·rename_i m e n1 k1 htdi e1
   cases e1
   rw [Ac] at hok
   have hm:=Ag hok.1
   subst hm
   rw [htdi] at htd
   have htd:d=.array m e:=htd
   subst htd
   obtain ⟨hl,rfl⟩:=h.arr_inv
   have he:=hok.2
   unfold i4C at he
   split at he
   ·rename_i ei hei
    split at he
    ·rename_i k0 hek
     have hes:=Ag he
     obtain ⟨d',hd',htd'⟩:=(hT e ei hei).und
     rw [hek] at htd'
     have htd':d'=.int k0:=htd'
     subst htd'
     unfold Instr.checkKey
     simp only [Sem.run_bind,c3A hd,Result.andThen_ok]
     simp only [Std.Legacy.Range.forIn_eq_forIn_range',Std.Legacy.Range.size,Nat.sub_zero,Nat.add_one_sub_one,Nat.div_one]
     rw [s1D hd' (fun w=>by rw [t3A hT hei,hes]) _ fun j hj => ?_]
     ·rfl
     have hj:j<m:=by simpa using hj
     refine ⟨.int k (x.getD j 0),?_⟩
     simp only [part,Sem.run_bind,s8B hT hei,hek,TD.isAgg,Result.andThen_ok,Nat.mul_one,Da]
     have hj2:j<(x:List Int).length:=by rw [hl]; exact hj
     rw [List.getElem?_map,Aq hj2,Cd,Aq hj2]
     rfl
    ·cases he
   ·cases he
  ·cases hok
theorem n3C {K:TypeId} {t:Bool×Ty} (hK:b4C P T K t) {x:den t.2} {v:Value} (h:d7A E t x v) (b:Bool):(Instr.checkKey b 10000 K v).run P w=.ok () w:=w8E hT hK h b 9998
theorem n4C {K:TypeId} {kt vt:Bool×Ty} (hK:b4C P T K kt) {x:den kt.2} {v:Value} (h:d7A E kt x v) {es:List (Nat×(den kt.2×den vt.2))} {ms:List MapEntry} (hm:b5A E kt vt es ms) :
  (Instr.findKey K v ms).run P w=.ok (oB (i1A (f0A kt.2 x) es) fun i=>oM ms[i]? fun e=>(i,e.val)) w:=by
 obtain ⟨d,hd,htd⟩:∃ d,P.underlying K=some d∧True:=by
  obtain ⟨i,hi,_⟩:=hK.ok
  obtain ⟨d,hd,_⟩:=(hT K i hi).und
  exact ⟨d,hd,trivial⟩
 have ask:∀ {es:List (Nat×(den kt.2×den vt.2))} {ms:List MapEntry} (n:Nat),b5A E kt vt es ms→(Instr.findAsking K v ms n).run P w=.ok (oB (i1A (f0A kt.2 x) es) fun i=>oM ms[i]? fun e=>(n+i,e.val)) w:=by
  intro es
  induction es with
  | nil=>intro ms n hm; have hm:ms=[]:=hm; subst hm; rfl
  | cons p es ih =>
   intro ms n hm
   obtain ⟨e,r,rfl,h1,h2,h3,h4⟩:=hm
   simp only [Instr.findAsking,Sem.run_bind,w7E hT hK h h2,Result.andThen_ok]
   unfold i1A
   cases f0A kt.2 x p.2.1 with
   | true=>rfl
   | false =>
    simp only [Cf,Fb,Ai]
    rw [ih (n+1) h4]
    cases i1A (f0A kt.2 x) es with
    | none=>rfl
    | some i=>simp only [oM,oB,Co]; rw [show n+1+i=n+(i+1) by omega]
 have now:∀ {es:List (Nat×(den kt.2×den vt.2))} {ms:List MapEntry} (n:Nat),b5A E kt vt es ms→Instr.findNow d v ms n=some (oB (i1A (f0A kt.2 x) es) fun i=>oM ms[i]? fun e=>(n+i,e.val))∨Instr.findNow d v ms n=none:=by
  intro es
  induction es with
  | nil=>intro ms n hm; have hm:ms=[]:=hm; subst hm; exact .inl rfl
  | cons p es ih =>
   intro ms n hm
   obtain ⟨e,r,rfl,h1,h2,h3,h4⟩:=hm
   have hs:Instr.sameNow d v e.key=some (f0A kt.2 x p.2.1)∨Instr.sameNow d v e.key=none:=by
    rcases hK.ty with ⟨k,rfl⟩ | ⟨m,k,rfl⟩
    ·rw [h.int_inv,h2.int_inv]
     cases d <;> first
      | exact .inr rfl
      | exact .inl (by simp only [Instr.sameNow,Ep]; rfl)
    ·rw [h.arr_inv.2,h2.arr_inv.2]
     cases d <;> exact .inr rfl
   unfold Instr.findNow i1A
   rcases hs with hs | hs
   ·rw [hs]
    cases f0A kt.2 x p.2.1 with
    | true=>exact .inl rfl
    | false =>
     simp only [Ai]
     rcases ih (n+1) h4 with hi | hi
     ·left
      rw [hi]
      cases i1A (f0A kt.2 x) es with
      | none=>rfl
      | some i=>simp only [oM,oB,Co]; rw [show n+1+i=n+(i+1) by omega]
     ·exact .inr hi
   ·rw [hs]; exact .inr rfl
 simp only [Instr.findKey,Sem.run_bind,c3A hd,Result.andThen_ok]
 rcases now 0 hm with h1 | h1
 ·rw [h1]; simp
 ·rw [h1]
  have:=ask 0 hm
  simpa using this
omit hT
theorem b5A.length {kt vt:Bool×Ty}:∀ {es:List (Nat×(den kt.2×den vt.2))} {ms:List MapEntry},b5A E kt vt es ms→ms.length=es.length
 | [],ms,h=>by rw [show ms=[] from h]; rfl
 | p::es,ms,h=>by
  obtain ⟨e,r,rfl,_,_,_,h4⟩:=h
  rw [Be,Be,b5A.length h4]
theorem b5A.at {kt vt:Bool×Ty} (eq:den kt.2→Bool):∀ {es:List (Nat×(den kt.2×den vt.2))} {ms:List MapEntry} {i:Nat},b5A E kt vt es ms→i1A eq es=some i →
  ∃ (e:MapEntry) (p:Nat×(den kt.2×den vt.2)),ms[i]? = some e∧l8A eq es=some p.2.2∧m2B eq 0 es=e.born∧(∀ ck,m2B eq ck es=e.born)∧eq p.2.1=true∧d7A E kt p.2.1 e.key∧d7A E vt p.2.2 e.val
 | [],ms,i,h,hi=>by cases hi
 | p::es,ms,i,h,hi=>by
  obtain ⟨e,r,rfl,h1,h2,h3,h4⟩:=h
  unfold i1A at hi
  unfold l8A m2B
  cases hb:eq p.2.1 with
  | true =>
   rw [hb] at hi
   cases hi
   exact ⟨e,p,rfl,rfl,h1.symm,fun _=>h1.symm,hb,h2,h3⟩
  | false =>
   rw [hb] at hi
   obtain ⟨j,hj,rfl⟩:=b4A hi
   obtain ⟨e',p',g1,g2,g3,g4,g5⟩:=b5A.at eq h4 hj
   exact ⟨e',p',by rw [Co]; exact g1,g2,g3,g4,g5⟩
theorem b5A.miss {A V:Type} {eq:A→Bool}:∀ {es:List (Nat×(A×V))},i1A eq es=none→l8A eq es=none∧∀ ck,m2B eq ck es=ck
 | [],_=>⟨rfl,fun _=>rfl⟩
 | p::es,h=>by
  unfold i1A at h
  unfold l8A m2B
  cases hb:eq p.2.1 with
  | true=>rw [hb] at h; cases h
  | false =>
   rw [hb] at h
   have:i1A eq es=Option.none:=by
    cases hj:i1A eq es with
    | none=>rfl
    | some j=>rw [hj] at h; cases h
   exact b5A.miss this
theorem n7B {t:Bool×Ty} {x:den t.2} {v:Value} (hp:t.2.pure=true) (hs:(t.1||t.2.scalar)=true) (h:d7A E t x v):d6A E (a0B t x) v:=by
 obtain ⟨cs,h1,h2⟩:=h
 obtain ⟨ag,t⟩:=t
 unfold a0B
 cases ag with
 | true =>
  rw [Aj rfl] at h2
  rw [Aj rfl]
  exact ⟨cs,h2,o3A h1⟩
 | false =>
  rw [Ae Fc] at h2
  rw [Ae Fc]
  subst h2
  have hs:t.scalar=true:=by simpa using hs
  cases t <;> first
   | exact h1
   | (simp [Ty.scalar] at hs; done)
   | (simp [Ty.pure] at hp; done)
theorem n5C {t:Bool×Ty} (ht:b2C t) {k:AV} {x:den t.2} {v:Value} (h:z3B t k=some x) (hv:a3A E k v):d7A E t x v:=by
 rcases ht with ⟨i,rfl⟩ | ⟨n,i,rfl⟩
 ·cases k with
  | int k2 m =>
   have h:(if k2=i then some m else none)=some x:=h
   split at h
   ·rename_i hk
    cases h
    subst hk
    exact ⟨[.int k2 x],rfl,by rw [Ae Fc]; rw [show v=.int k2 x by simpa [a3A,d6A,a6A] using hv]⟩
   ·cases h
  | _=>cases h
 ·cases k with
  | agg cs =>
   match cs,h,hv with
   | [.arr n2 t2 l],h,hv =>
    have h:(if n2=n then j1A t2 (.int i) l else none)=some x:=h
    split at h
    ·rename_i hn
     subst hn
     obtain ⟨rfl,e⟩:=n2A h
     have e:l=x:=e
     subst e
     obtain ⟨vs,rfl,u,r,rfl,r1,r2⟩:=hv
     have r2:r=[]:=r2
     subst r2
     refine ⟨u,r1,?_⟩
     rw [Aj rfl,Bc]
    ·cases h
  | _=>cases h
include hT
theorem b5C {t:TypeId} {kt vt:Bool×Ty} (h:u1A T t kt vt=true):∃ K e,P.underlying t=some (.map K e)∧b4C P T K kt∧vt.2.pure=true∧(vt.1||vt.2.scalar)=true ∧
  ∃ z,(∀ w,(zeroValue e).run P w=.ok z w)∧∀ E:Env,d7A E vt (c4A vt.2) z:=by
 unfold u1A at h
 split at h
 ·rename_i p hp
  simp only [Ac,Au] at h
  obtain ⟨rfl,rfl⟩:=h
  unfold z2C at hp
  split at hp
  ·rename_i K e htd
   obtain ⟨d,hu,hd⟩:=f7A hT htd
   have hd:d=.map K e:=hd
   subst hd
   split at hp
   ·rename_i ki ei hki hei
    split at hp
    ·rename_i tk tv hk hv
     rcases c2A hp with ⟨hc,hp⟩ | ⟨_,hp⟩
     ·cases hp
      simp only [Ac] at hc
      obtain ⟨inf,i1,i2,i3,z,i4,i5,i6,i7⟩:=(hT e ei hei).info
      refine ⟨K,e,hu,⟨?_,ki,hki,hc.1,rfl⟩,hc.2.1,hc.2.2,z,fun w=>by simp [zeroValue,y4A i1,i4],fun E=>⟨z.cells.toList,i6 _ hv E,?_⟩⟩
      ·have hk0:=hc.1
       unfold m3B at hk0
       split at hk0
       ·rename_i k k' htd
        exact .inl ⟨k',by simp only [htd,TD.isAgg]⟩
       ·rename_i n e n' k htd
        exact .inr ⟨n',k,by simp only [htd,TD.isAgg]⟩
       ·cases hk0
      ·cases hag:ei.td.isAgg with
       | true =>
        rw [hag,Aj rfl] at i7
        rw [Aj rfl]
        rw [Array.toArray_toList]; exact i7
       | false =>
        rw [hag,Ae Fc] at i7
        rw [Ae Fc,i7]
     ·cases hp
    ·cases hp
   ·cases hp
  ·cases hp
 ·cases h
theorem s2D {kt vt:Bool×Ty} (n:Nat):∀ {es:List (Nat×(den kt.2×den vt.2))} {ms:List MapEntry} {x:den kt.2×den vt.2},b5A E kt vt es ms→r4B n es=some x→∃ e,ms.find? (fun e=>e.born==n)=some e∧d7A E kt x.1 e.key∧d7A E vt x.2 e.val
 | [],_,_,_,h=>by cases h
 | p::es,ms,x,hm,h=>by
  obtain ⟨e,r,rfl,h1,h2,h3,h4⟩:=hm
  rw [r4B] at h
  cases hb:Nat.beq p.1 n with
  | true =>
   rw [hb] at h
   cases h
   have:(e.born==n)=true:=by rw [h1]; exact Cw.2 (Ag hb)
   exact ⟨e,by rw [List.find?_cons,this],h2,h3⟩
  | false =>
   rw [hb] at h
   have:(e.born==n)=false:=by
    rw [h1]
    exact Bg fun he=>by rw [he,Cn] at hb; cases hb
   obtain ⟨e',g1,g2⟩:=s2D n h4 h
   exact ⟨e',by rw [List.find?_cons,this]; exact g1,g2⟩
theorem w9E {keep:Nat→Prop} {S:St} (hm:a4A E keep S.objs) {it r:AV} {v:Value} (h:(z4C S it).gives r) (hx:a3A E it v):∃ x,(Instr.entry v).run P E.w=.ok x E.w∧a3A E r x:=by
 unfold z4C at h
 split at h
 ·rename_i id off
  split at h
  ·split at h
   ·rename_i m since seen last hl
    split at h
    ·rename_i kt vt es ck hl2
     cases hc:(kt.2.pure&&(kt.1||kt.2.scalar))&&(vt.2.pure&&(vt.1||vt.2.scalar)) with
     | false=>rw [hc] at h; exact h.elim
     | true =>
      rw [hc] at h
      obtain ⟨hg,rfl⟩:=h
      simp only [Ac] at hc hg
      obtain ⟨hg1,hg2,hg3⟩:=hg
      have hck:=Ag hg1
      subst hck
      obtain ⟨e,he⟩:=Dn.1 hg3
      obtain ⟨_,b,hb,rfl⟩:=(show id<E.N∧∃ b,(E.M id).blk=some b∧v=.pointer (some ⟨b,0,none⟩) by
       obtain ⟨h1,b,h2,h3⟩:=(show a6A E (.ptr id 0) [v] from hx)
       exact ⟨h1,b,h2,by simpa using h3⟩)
      obtain ⟨_,b',mb,i1,_,i3,i4⟩:=hm.rep _ _ hl
      rw [hb] at i1; cases i1
      obtain ⟨_,b2,ms,j1,j2,j3⟩:=hm.rep _ _ hl2
      rw [i3] at j1; cases j1
      have hgi:(getObj b).run P E.w=.ok (.mapIter (some mb) since seen.toArray ck) E.w:=by simp [getObj,Sem.run,i4]
      have hgm:(getObj mb).run P E.w=.ok (.map ms ck) E.w:=by simp [getObj,Sem.run,j2]
      have hback:seen.toArray.back? = some (seen.getLastD 0):=by
       cases seen with
       | nil=>cases hg2
       | cons a l =>
        rw [List.getLastD_cons]
        simp [Array.back?,List.getLast?_eq_getElem?,List.getLastD_eq_getLast?]
        cases l with
        | nil=>rfl
        | cons b l=>simp [List.getLast?_eq_getElem?]
      generalize seen.getLastD 0=n at *
      obtain ⟨e',f1,f2,f3⟩:=s2D hT n j3 he
      have hfind:ms.find? (fun e=>e.born==n)=some e':=by rw [←Array.find?_toList]; exact f1
      refine ⟨.tuple #[e'.key,e'.val],?_,?_⟩
      ·simp [Instr.entry,Sem.run_bind,hgi,hgm,hback,hfind,Result.andThen_ok]
      ·rw [he]
       exact ⟨[e'.key,e'.val],rfl,_,_,rfl,n7B hc.1.1 hc.1.2 f2,_,_,rfl,n7B hc.2.1 hc.2.2 f3,rfl⟩
    ·exact h.elim
   ·exact h.elim
  ·exact h.elim
 ·exact h.elim
theorem x0E {keep:Nat→Prop} {S:St} (hm:a4A E keep S.objs) {t:TypeId} {ok:Bool} {m k r:AV} {vm vk:Value} (h:(z3C T S t ok m k).gives r) (hxm:a3A E m vm) (hxk:a3A E k vk) :
  ∃ x,(Instr.lookup t vm vk ok).run P E.w=.ok x E.w∧a3A E r x:=by
 unfold z3C at h
 split at h
 ·rename_i id
  split at h
  ·rename_i kt vt es ck hl
   cases hc:u1A T t kt vt with
   | false=>rw [hc] at h; exact h.elim
   | true =>
    rw [hc] at h
    obtain ⟨K,e,hu,hK,hp,hs,z,hz,hzr⟩:=b5C hT hc
    simp only [Al] at h
    split at h
    ·rename_i x hx
     have hxr:=n5C hK.ty hx hxk
     obtain ⟨_,b,hb,rfl⟩:=(show id<E.N∧∃ b,(E.M id).blk=some b∧vm=.map (some b) by
      obtain ⟨h1,b,h2,h3⟩:=(show a6A E (.mapr id) [vm] from hxm)
      exact ⟨h1,b,h2,by simpa using h3⟩)
     obtain ⟨_,b',ms,h1,h2,h3⟩:=hm.rep _ _ hl
     rw [hb] at h1; cases h1
     have hg:(getObj b).run P E.w=.ok (.map ms ck) E.w:=by simp [getObj,Sem.run,h2]
     have hf:=n4C hT (w:=E.w) hK hxr h3
     have hck:=n3C hT (w:=E.w) hK hxr ms.isEmpty
     have key:∃ v,(Instr.lookup t (.map (some b)) vk ok).run P E.w=.ok (if ok=true then .tuple #[v,.bool (l8A (f0A kt.2 x) es).isSome] else v) E.w∧d7A E vt ((l8A (f0A kt.2 x) es).getD (c4A vt.2)) v:=by
      cases hi:i1A (f0A kt.2 x) es with
      | none =>
       rw [hi] at hf
       have hn:=(b5A.miss hi).1
       refine ⟨z,?_,by rw [hn]; exact hzr E⟩
       simp only [Instr.lookup,Sem.run_bind,c3A hu,Result.andThen_ok,hg,hck,hf,oB,hz,Sem.run_pure,hn,Option.isSome_none]
      | some i =>
       rw [hi] at hf
       obtain ⟨e',p,g1,g2,_,_,_,_,g7⟩:=h3.at (f0A kt.2 x) hi
       refine ⟨e'.val,?_,by rw [g2]; exact g7⟩
       simp only [Instr.lookup,Sem.run_bind,c3A hu,Result.andThen_ok,hg,hck,hf,oB,oM,g1,Sem.run_pure,g2,Option.isSome_some]
     obtain ⟨v,hrun,hv⟩:=key
     have hv:=n7B hp hs hv
     split at h
     ·cases h
      refine ⟨_,hrun,?_⟩
      rw [Aj rfl]
      exact ⟨[v,.bool _],rfl,_,_,rfl,hv,_,_,rfl,rfl,rfl⟩
     ·cases h
      refine ⟨_,hrun,?_⟩
      rw [Ae Fc]
      refine (a3A.iff_V ?_).2 hv
      obtain ⟨ag,ty⟩:=vt
      unfold a0B
      cases ag with
      | true=>rfl
      | false =>
       have hs:ty.scalar=true:=by simpa using hs
       cases ty <;> first
        | rfl
        | (simp [Ty.scalar] at hs; done)
        | (simp [Ty.pure] at hp; done)
    ·exact h.elim
  ·exact h.elim
 ·exact h.elim
end
end Go.Rx
namespace Go.Rx
variable [Inhabited GW]
section
variable {P:Program} {T:Tab} (hT:TabOK P T) {E:Env} {w:World}
include hT
theorem x1E {t:TypeId} {a ix v:AV} {x y:Value} (h:(y5C T t a ix).gives v) (hx:a3A E a x) (hy:a3A E ix y) :
  ∃ z,(Instr.index t x y).run P w=.ok z w∧d6A E v z:=by
 unfold y5C at h
 split at h
 ·rename_i n e n' ty l k i htd
  obtain ⟨d,hu,rfl⟩:=f7A hT htd
  split at h
  ·rename_i ei hei
   rcases hb:(Nat.beq n' n&&Nat.beq ei.size (a0A ty)) with _ | _
   ·rw [hb] at h; exact h.elim
   ·rw [hb] at h
    obtain ⟨hw,hv⟩:=u1E h
    have hw:=h5B hw
    rw [Ac] at hb
    have hn:n'=n:=Ag hb.1
    have hsz:=Ag hb.2
    subst hn
    obtain ⟨vs,rfl,u,s,rfl,r1,rfl⟩:=hx
    rw [Bc]
    obtain ⟨e1,e2,r⟩:=(show a2A E (.arr n' ty) l u from r1)
    obtain ⟨cs,r1,r2⟩:=r i.toNat (by omega)
    rw [hy.int_inv]
    have hg:l.getD i.toNat (c4A ty)=l[i.toNat]'(by omega):=by rw [Cd,Aq (by omega)]; rfl
    rw [hg] at hv
    have hc:=o3A r1
    have hcl:=a2A.length r1
    have hcut:(r3A ei (g3A (enc ty (l[i.toNat]'(by omega))) []) 0).gives v∨True:=.inr trivial
    have hseg:(u.drop (i.toNat*a0A ty)).take (a0A ty)=cs:=by
     apply List.ext_getElem?
     intro j
     rw [Bt]
     by_cases hj:j<a0A ty
     ·rw [Aj hj,Bl]
      have hj':j<cs.length:=by omega
      rw [Aq hj',r2 j _ (Aq hj')]
     ·rw [Ae hj,Bq (by omega)]
    have h3:=c5D hc hv
    refine ⟨_,?_,l2C hc hv⟩
    simp only [Instr.index,asIntOf,Sem.run_bind,Sem.run_pure,Result.andThen_ok,c3A hu]
    rw [Aj ⟨hw.1,by omega⟩]
    simp only [Sem.run_bind,t3A hT hei,Result.andThen_ok,part,s8B hT hei,hsz]
    cases ha:ei.td.isAgg with
    | true =>
     simp only [Ep,Sem.run_bind,t3A hT hei,Result.andThen_ok,Sem.run_pure,mkV,List.extract_toArray,hsz]
     congr 3
     rw [List.extract_eq_take_drop,Nat.add_sub_cancel_left]; exact hseg
    | false =>
     have h3:=h3.resolve_left (by rw [ha]; nofun)
     have:=r2 0 (cs[0]'(by omega)) (Aq (by omega))
     simp only [Dx] at this
     simp only [Cf,Fb,Da,this,Sem.run_pure,mkV]
     congr 1
     match cs,h3 with
     | [c],_=>rfl
  ·exact h.elim
 ·rename_i s k i htd
  obtain ⟨d,hu,rfl⟩:=f7A hT htd
  obtain ⟨hw,rfl⟩:=h
  have hw:=h5B hw
  rw [hx.str_inv,hy.int_inv]
  have hlt:i.toNat<s.size:=by omega
  refine ⟨.int .u8 ((s.data.getD i.toNat 0).toNat:Int),?_,rfl⟩
  have e:s[i.toNat]? = some (s.data.getD i.toNat 0):=by
   rw [getElem?_pos s i.toNat hlt]
   congr 1
   have hlt:i.toNat<s.data.size:=hlt
   rw [Array.getD_eq_getD_getElem?,Array.getElem?_eq_getElem hlt]
   rfl
  simp [Instr.index,asIntOf,c3A hu,hw.1,e]
 ·rename_i n e cs k i _ htd
  obtain ⟨d,hu,rfl⟩:=f7A hT htd
  split at h
  ·rename_i ei hei
   split at h
   ·rename_i v' hv'
    obtain ⟨hw,rfl⟩:=h
    have hw:=h5B hw
    obtain ⟨vs,rfl,r1⟩:=hx
    rw [hy.int_inv]
    obtain ⟨z,g1,g2⟩:=r6D hT (w:=w) hei r1 (show (r3A ei cs (i.toNat*ei.size)).gives v' by rw [hv']; rfl)
    refine ⟨z,?_,g2⟩
    simp only [Instr.index,asIntOf,Sem.run_bind,Sem.run_pure,Result.andThen_ok,c3A hu]
    rw [Aj ⟨hw.1,by omega⟩]
    simp only [Sem.run_bind,t3A hT hei,Result.andThen_ok,g1]
   ·exact h.elim
  ·exact h.elim
 ·exact h.elim
omit hT
theorem b6C {S:St} {a:Act} (hs:e0A E S.tmps a.tmps) {isSlice:Bool} {len cap:Nat} {lo hi:Option Operand} {l h:Int}
  (hl:loB S lo=some l) (hh:hiB S len hi=some h) (h0:0≤l) (h1:l≤h) (h2:h≤cap) :
  (Instr.sliceBounds isSlice len cap (lo.map a.eval) (hi.map a.eval) none).run P w=.ok (l.toNat,h.toNat,cap) w:=by
 have eh:∃ x,hi.map a.eval=x∧((x=none∧h=len)∨∃ k,x=some (.int k h)):=by
  cases hi with
  | none=>exact ⟨none,rfl,.inl ⟨rfl,by simpa [hiB] using hh.symm⟩⟩
  | some x =>
   refine ⟨_,rfl,.inr ?_⟩
   simp only [hiB] at hh
   split at hh
   ·rename_i k i e
    cases hh
    have:=b6A hs x
    rw [e] at this
    exact ⟨k,by simp [this.int_inv]⟩
   ·cases hh
 have el:∃ x,lo.map a.eval=x∧((x=none∧l=0)∨∃ k,x=some (.int k l)):=by
  cases lo with
  | none=>exact ⟨none,rfl,.inl ⟨rfl,by simpa [loB] using hl.symm⟩⟩
  | some x =>
   refine ⟨_,rfl,.inr ?_⟩
   simp only [loB] at hl
   split at hl
   ·rename_i k i e
    cases hl
    have:=b6A hs x
    rw [e] at this
    exact ⟨k,by simp [this.int_inv]⟩
   ·cases hl
 obtain ⟨xh,e1,eh⟩:=eh
 obtain ⟨xl,e2,el⟩:=el
 rw [e1,e2]
 have hb:((h.toNat:Nat):Int)=h:=by omega
 rcases eh with ⟨rfl,rfl⟩ | ⟨k,rfl⟩ <;> rcases el with ⟨rfl,rfl⟩ | ⟨k',rfl⟩
 ·simp [Instr.sliceBounds]
 ·simp [Instr.sliceBounds,run_sliceBound w k' l len _ h0 (by omega)]
 ·simp [Instr.sliceBounds,run_sliceBound w k h cap _ (by omega) h2]
 ·simp [Instr.sliceBounds,run_sliceBound w k h cap _ (by omega) h2,run_sliceBound w k' l h.toNat _ h0 (by omega)]
theorem s3D (p:Nat×Nat):d1A (some p)=p.1:=rfl
theorem s4D (n:Nat) (p:Nat×Nat):e9A n (some p)=p.2:=rfl
theorem n6C {lo hi:Int} {n:Nat} (h:f3A lo hi n=true):0≤lo∧lo≤hi∧hi≤n:=by
 simp only [f3A,Ac,Au] at h
 exact ⟨h.1.1,h.1.2,h.2⟩
include hT
theorem x2E {keep:Nat→Prop} {S:St} {a:Act} {t:TypeId} {b v:AV} {x:Value} {lo hi:Option Operand} (hm:a4A E keep S.objs) (hs:e0A E S.tmps a.tmps)
  (h:(y6C T S t b lo hi).gives v) (hx:a3A E b x):∃ z,(Instr.sliceAt t x (lo.map a.eval) (hi.map a.eval) none).run P w=.ok z w∧d6A E v z:=by
 unfold y6C at h
 split at h
 ·rename_i s htd
  obtain ⟨d,hu,rfl⟩:=f7A hT htd
  split at h
  ·rename_i l hh hl hhi
   obtain ⟨hg,rfl⟩:=h
   obtain ⟨h0,h1,h2⟩:=n6C hg
   rw [hx.str_inv]
   refine ⟨.string (s.extract l.toNat hh.toNat),?_,rfl⟩
   simp [Instr.sliceAt,Instr.slice,c3A hu,b6C hs hl hhi h0 h1 h2]
  ·exact h.elim
 ·rename_i e ty xs htd
  obtain ⟨d,hu,rfl⟩:=f7A hT htd
  split at h
  ·rename_i l hh hl hhi
   cases hb:o9A T e ty with
   | false=>rw [hb] at h; exact h.elim
   | true =>
    rw [hb] at h
    obtain ⟨hg,rfl⟩:=h
    obtain ⟨h0,h1,h2⟩:=n6C hg
    obtain ⟨ad,cap,e1,hc,r⟩:=(show a2A E (.sl ty) xs [x] from hx)
    have e1:x=.slice ad xs.length cap:=by simpa using e1
    subst e1
    refine ⟨.slice (if cap=l.toNat then ad else ad.map (·.add (l.toNat*a0A ty))) (hh.toNat - l.toNat) (cap - l.toNat),?_,?_⟩
    ·simp [Instr.sliceAt,Instr.slice,c3A hu,b6C hs hl hhi h0 h1 (show hh≤cap by have:=hc.1; omega),n5B hT hb]
    ·have hlen:((xs.take hh.toNat).drop l.toNat).length=hh.toNat - l.toNat:=by rw [Ar,Ap]; omega
     refine ⟨_,_,by rw [hlen],⟨by have:=hc.1; rw [hlen]; omega,fun hn => ?_⟩,?_⟩
     ·by_cases hcl:cap=l.toNat
      ·omega
      ·rw [Ae hcl] at hn
       have:=hc.2 (by simpa using hn)
       omega
     by_cases hz:hh.toNat - l.toNat=0
     ·exact .inl (by rw [hlen]; exact hz)
     ·right
      obtain ⟨bb,o,rfl,hro,r⟩:=r.resolve_left (by omega)
      rw [Ae (by omega)]
      refine ⟨bb,o+l.toNat*a0A ty,by simp [v0A],hro,fun i hi => ?_⟩
      obtain ⟨cs,r1,r2⟩:=r (l.toNat+i) (by omega)
      refine ⟨cs,by rw [List.getElem_drop,List.getElem_take]; exact r1,fun j v hj => ?_⟩
      have:=r2 j v hj
      rw [Ca] at this
      rw [show o+l.toNat*a0A ty+i*a0A ty+j=o+(l.toNat*a0A ty+i*a0A ty)+j by omega]; exact this
  ·exact h.elim
 ·rename_i e id rg htd
  obtain ⟨d,hu,rfl⟩:=f7A hT htd
  split at h
  ·rename_i n hn
   obtain ⟨ty,hb,hlen,hwd⟩:=c9D hm hn
   split at h
   ·rename_i l hh hl hhi
    obtain ⟨hg,rfl⟩:=h
    obtain ⟨h0,h1,h2⟩:=n6C hg
    obtain ⟨hid,r⟩:=d5B hx
    rw [←hlen] at h2 hhi
    split at r
    ·rename_i hblk
     obtain ⟨rfl,e2,e3⟩:=r
     have hl0:l.toNat=0:=by omega
     have hh0:hh.toNat=0:=by omega
     refine ⟨.slice none 0 0,?_,hid,?_⟩
     ·rw [e3] at hhi
      simp [Instr.sliceAt,Instr.slice,c3A hu,b6C hs hl hhi h0 h1 (show hh≤(0:Nat) by omega),n5B hT hb,hl0,hh0]
     ·rw [hblk]; exact ⟨rfl,by rw [s3D,n1C]; omega,by rw [s4D]; omega⟩
    ·rename_i bb hblk
     obtain ⟨o,cap,rfl,hc,hl2,hcap⟩:=r
     refine ⟨.slice (if cap=l.toNat then some ⟨bb,o,none⟩ else (some (⟨bb,o,none⟩:Addr)).map (·.add (l.toNat*a0A ty))) (hh.toNat - l.toNat) (cap - l.toNat),?_,hid,?_⟩
     ·simp [Instr.sliceAt,Instr.slice,c3A hu,b6C hs hl hhi h0 h1 (show hh≤cap by omega),n5B hT hb]
     ·rw [hblk]
      simp only [s3D,s4D,n1C]
      by_cases hcl:cap=l.toNat
      ·refine ⟨o,cap - l.toNat,by rw [Aj hcl],by omega,by omega,.inl (by omega)⟩
      ·have hcap:=hcap.resolve_left (by omega)
       refine ⟨o+l.toNat*a0A ty,cap - l.toNat,by rw [Ae hcl]; simp [v0A],by omega,by omega,.inr ⟨?_,by omega⟩⟩
       rw [hcap.1,←hwd,Ca]; omega
   ·exact h.elim
  ·exact h.elim
 ·rename_i n e id off htd
  obtain ⟨d,hu,rfl⟩:=f7A hT htd
  split at h
  ·rename_i cs ei hlook hei
   split at h
   ·rename_i n' ty lst hcut
    split at h
    ·rename_i l hh hl hhi
     cases hb:(Nat.beq n' n&&Nat.beq ei.size (a0A ty)) with
     | false=>rw [hb] at h; exact h.elim
     | true =>
      rw [hb] at h
      obtain ⟨hg,rfl⟩:=h
      rw [Ac] at hb
      have hsz:=Ag hb.2
      obtain ⟨h0,h1,h2⟩:=n6C hg
      obtain ⟨hid,bb,hblk,rfl⟩:=h4B hx
      refine ⟨.slice (some (if n=l.toNat then (⟨bb,off,none⟩:Addr) else (⟨bb,off,none⟩:Addr).add (l.toNat*a0A ty))) (hh.toNat - l.toNat) (n - l.toNat),?_,hid,by omega,bb,if n=l.toNat then off else off+l.toNat*a0A ty,hblk,?_,?_⟩
      ·simp [Instr.sliceAt,c3A hu,Instr.sureAddr,b6C hs hl hhi h0 h1 h2,t3A hT hei,hsz]
      ·by_cases hc:n=l.toNat
       ·rw [Aj hc,Aj hc]
       ·rw [Ae hc,Ae hc]; simp [v0A]
      ·by_cases hc:n=l.toNat
       ·exact .inl hc.symm
       ·right; rw [Ae hc]
    ·exact h.elim
   ·exact h.elim
  ·exact h.elim
 ·exact h.elim
theorem x3E {keep:Nat→Prop} {S:St} (hm:a4A E keep S.objs) (hwE:w=E.w) {t ty:TypeId} {a v:AV} {x:Value} (h:(y7C T S t a).gives v) (hx:a3A E a x):∃ z,(Builtin.len_ #[t] ty #[x]).run P w=.ok z w∧d6A E v z:=by
 unfold y7C at h
 split at h
 ·rename_i s htd
  obtain ⟨d,hu,rfl⟩:=f7A hT htd
  cases h
  rw [hx.str_inv]
  exact ⟨_,by simp [Builtin.len_,c3A hu]; rfl,rfl⟩
 ·rename_i e ty l htd
  obtain ⟨d,hu,rfl⟩:=f7A hT htd
  cases h
  obtain ⟨ad,cap,e1,_⟩:=(show a2A E (.sl ty) l [x] from hx)
  have e1:x=.slice ad l.length cap:=by simpa using e1
  subst e1
  exact ⟨_,by simp [Builtin.len_,c3A hu]; rfl,rfl⟩
 ·rename_i e htd
  obtain ⟨d,hu,rfl⟩:=f7A hT htd
  cases h
  have e1:x=.slice none 0 0:=by simpa using (show [x]=[Value.slice none 0 0] from hx)
  subst e1
  exact ⟨_,by simp [Builtin.len_,c3A hu]; rfl,rfl⟩
 ·rename_i e id off n ty lo len htd
  obtain ⟨d,hu,rfl⟩:=f7A hT htd
  cases h
  obtain ⟨_,_,b,o,_,e1,_⟩:=(show a6A E (.bsl id off n ty lo len) [x] from hx)
  cases e1
  exact ⟨_,by simp [Builtin.len_,c3A hu]; rfl,rfl⟩
 ·rename_i e id rg htd
  obtain ⟨d,hu,rfl⟩:=f7A hT htd
  split at h
  ·rename_i n hn
   obtain ⟨ty,hb,hlen,_⟩:=c9D hm hn
   cases h
   obtain ⟨hid,r⟩:=d5B hx
   rw [hlen] at r
   split at r
   ·obtain ⟨rfl,_,e3⟩:=r
    exact ⟨_,by simp [Builtin.len_,c3A hu]; rfl,by rw [e3]; rfl⟩
   ·obtain ⟨o,cap,rfl,_⟩:=r
    exact ⟨_,by simp [Builtin.len_,c3A hu]; rfl,rfl⟩
  ·exact h.elim
 ·rename_i n e _ htd
  obtain ⟨d,hu,rfl⟩:=f7A hT htd
  cases h
  exact ⟨_,by simp [Builtin.len_,c3A hu]; rfl,rfl⟩
 ·rename_i kt et id htd
  obtain ⟨d,hu,rfl⟩:=f7A hT htd
  split at h
  ·rename_i k v es ck hl
   cases h
   obtain ⟨_,b,hb,e1⟩:=(show id<E.N∧∃ b,(E.M id).blk=some b∧[x]=[Value.map (some b)] from hx)
   have e1:x=.map (some b):=by simpa using e1
   subst e1
   obtain ⟨_,b',ms,h1,h2,h3⟩:=hm.rep _ _ hl
   rw [hb] at h1; cases h1
   have hg:(getObj b).run P w=.ok (.map ms ck) w:=by rw [hwE]; simp [getObj,Sem.run,h2]
   have hn:ms.size=es.length:=by rw [←An,b5A.length h3]
   exact ⟨_,by simp [Builtin.len_,c3A hu,hg]; rfl,by rw [hn]; rfl⟩
  ·exact h.elim
 ·exact h.elim
end
end Go.Rx
namespace Go.Rx
variable [Inhabited GW]
section
variable {P:Program} {T:Tab} (hT:TabOK P T) {E:Env} {w:World}
theorem d1D {S:St} {a:Act} (h:e0A E S.tmps a.tmps):∀ (l:List Operand) (i:Nat) (y:Value),(l.map a.eval)[i]? = some y→∃ b,(d5A (ev S) l)[i]? = some b∧a3A E b y
 | [],i,y,e=>by simp at e
 | x::l,0,y,e=>by
  simp only [List.map_cons,Fa,Option.some.injEq] at e
  subst e
  exact ⟨_,rfl,b6A h x⟩
 | x::l,i+1,y,e=>by
  simp only [List.map_cons,Co] at e
  exact d1D h l i y e
theorem d2D {S:St}:∀ (l:List Operand),(d5A (ev S) l).length=l.length
 | []=>rfl
 | _::l=>by simp only [d5A,Be,d2D l]
theorem a3A.cell_int {k:IntKind} {n:Int}:a3A E (.int k n) (.int k n):=rfl
theorem d3D (mx:Bool):∀ (l:List AV) (a v:AV) (x:Value) (xs:List Value),(y8B mx a l).gives v→a3A E a x→(∀ (i:Nat) (y:Value),xs[i]? = some y→∃ b,l[i]? = some b∧a3A E b y)→xs.length=l.length →
  ∃ z,(xs.foldlM (if mx then Builtin.max2 else Builtin.min2) x).run P w=.ok z w∧a3A E v z
 | [],a,v,x,xs,h,hx,_,hl=>by
  match xs,hl with
  | [],_=>cases h; exact ⟨x,rfl,hx⟩
 | b::l,a,v,x,xs,h,hx,hxs,hl=>by
  match xs,hl,hxs with
  | y::ys,hl,hxs =>
   obtain ⟨b',e,hy⟩:=hxs 0 y rfl
   cases e
   have ha:(∃ k n,a=.int k n)∧(∃ k m,b=.int k m):=by
    cases a <;> cases b <;> first
     | exact h.elim
     | exact ⟨⟨_,_,rfl⟩,_,_,rfl⟩
   obtain ⟨⟨k,n,rfl⟩,k',m,rfl⟩:=ha
   replace h:VR.gives (if k=k' then y8B mx (.int k (bif mx then (if n<m then m else n) else (if m<n then m else n))) l else .no) v:=h
   split at h
   ·rename_i hk
    subst hk
    rw [hx.int_inv,hy.int_inv]
    obtain ⟨z,h1,h2⟩:=d3D mx l _ v _ ys h a3A.cell_int (fun i y e=>hxs (i+1) y e) (by simpa using hl)
    refine ⟨z,?_,h2⟩
    rw [List.foldlM_cons,Sem.run_bind]
    cases mx
    ·simp only [Cf,Fb,Builtin.min2,Sem.run_pure,Result.andThen_ok,Ai] at h1 ⊢; exact h1
    ·simp only [Ep,Builtin.max2,Sem.run_pure,Result.andThen_ok,gt_iff_lt,Al] at h1 ⊢; exact h1
   ·exact h.elim
theorem s5D (place:Nat→Option (Nat×Nat)) (i off size:Nat) (v:Value) (rest:List (Nat×Value)) (cells:Array Value) (hp:place i=some (off,size)) (hs:v.cells.size=size) (hl:off+size≤cells.size) :
  Instr.fill place cells ((i,v)::rest)=Instr.fill place (cells.toList.take off++(v.cells.toList++cells.toList.drop (off+v.cells.size))).toArray rest:=by
 conv=>lhs; unfold Instr.fill
 simp only [hp]
 rw [Ae (by simp; omega)]
 congr 1
 obtain ⟨g1,g2⟩:=Great.foldl_set off v.cells.toList 0 cells
 have e:v.cells.zipIdx.foldl (fun cs (x:Value×Nat)=>cs.setIfInBounds (off+x.2) x.1) cells=(v.cells.toList.zipIdx 0).foldl (fun cs (x:Value×Nat)=>cs.setIfInBounds (off+x.2) x.1) cells:=by
  rw [←Array.foldl_toList,Array.toList_zipIdx]
 refine Eq.trans e ?_
 apply Array.ext_getElem?
 intro k
 rw [g2 k]
 simp only [Dx,An,Da]
 by_cases h1:k<off
 ·rw [Ae (by omega),Bd (by rw [Ap,An]; omega),Bt,Aj h1]; simp
 ·have ht:(List.take off cells.toList).length=off:=by rw [Ap,An]; omega
  rw [List.getElem?_append_right (by omega),ht]
  by_cases h2:k<off+v.cells.size
  ·rw [Aj ⟨by omega,h2,by omega⟩,Bd (by rw [An]; omega)]
  ·rw [Ae (by omega),List.getElem?_append_right (by rw [An]; omega),Bl,An]
   simp only [Dr]
   congr 1
   omega
theorem d4D {pl:Nat→Option (Nat×Nat)} {place:Nat→Option (Nat×Nat)} (hpl:∀ i x,pl i=some x→place i=some x) {S:St} {a:Act} (hs:e0A E S.tmps a.tmps) :
  ∀ (parts:List (Nat×Operand)) (cs:List AV) (cells:Array Value) (r:List AV),b0A E cs cells.toList→y9B pl cs (f1A S parts)=some r →
   ∃ out,Instr.fill place cells (parts.map fun p=>(p.1,a.eval p.2))=some out∧b0A E r out.toList
 | [],cs,cells,r,hc,h=>by
  cases h
  exact ⟨cells,rfl,hc⟩
 | (i,x)::rest,cs,cells,r,hc,h=>by
  simp only [f1A,y9B] at h
  split at h
  ·rename_i off size new hp hn
   rcases c2A h with ⟨hb,h⟩ | ⟨_,h⟩
   ·have hb:=Ag hb
    obtain ⟨cs',e1,e2⟩:=m0A h
    have hnew:=y6A (b6A hs x) hn
    obtain ⟨h1,h2⟩:=h0B hc hnew e1
    have hlen:=b0A.length hnew
    simp only [An] at h1 h2 hlen
    have:=s5D place i off size (a.eval x) (rest.map fun p=>(p.1,a.eval p.2)) cells (hpl i _ hp) (by omega) (by omega)
    obtain ⟨out,h3,h4⟩:=d4D hpl hs rest cs' (cells.toList.take off++((a.eval x).cells.toList++cells.toList.drop (off+(a.eval x).cells.size))).toArray r (by simpa using h2) e2
    exact ⟨out,by rw [List.map_cons,this,h3],h4⟩
   ·cases h
  ·cases h
theorem x4E {ty:Ty} {v:AV} {x:den ty} {y:Value} (h:y8C ty v=some x) (hv:a3A E v y):a0A ty=1∧a2A E ty x y.cells.toList∧y.cells.size=1:=by
 unfold y8C at h
 split at h
 ·split at h
  ·rename_i hk
   subst hk; cases h
   rw [hv.int_inv]; exact ⟨rfl,rfl,rfl⟩
  ·cases h
 ·cases h; rw [hv.bool_inv]; exact ⟨rfl,rfl,rfl⟩
 ·cases h; rw [hv.str_inv]; exact ⟨rfl,rfl,rfl⟩
 ·cases h
theorem s6D {n:Nat} {ty:Ty} {S:St} {a:Act} (hs:e0A E S.tmps a.tmps) :
  ∀ (parts:List (Nat×Operand)) (l:List (den ty)) (cells:Array Value) {l':List (den ty)},a2A E (.arr n ty) l cells.toList→i7C ty l (f1A S parts)=some l' →
   ∃ out,Instr.fill (fun i=>some (i*a0A ty,a0A ty)) cells (parts.map fun p=>(p.1,a.eval p.2))=some out∧a2A E (.arr n ty) l' out.toList
 | [],l,cells,l',hc,h=>by
  cases h
  exact ⟨cells,rfl,hc⟩
 | (i,x)::rest,l,cells,l',hc,h=>by
  simp only [f1A,i7C] at h
  rcases c2A h with ⟨hb,h⟩ | ⟨_,h⟩
  ·have hi:i<l.length:=Bx hb
   split at h
   ·rename_i y hy
    obtain ⟨h1,h2,h3⟩:=x4E hy (b6A hs x)
    obtain ⟨c1,c2,c3⟩:=hc
    rw [h1,Nat.mul_one,An] at c2
    have hf:=s5D (fun i=>some (i*a0A ty,a0A ty)) i (i*a0A ty) (a0A ty) (a.eval x) (rest.map fun p=>(p.1,a.eval p.2)) cells rfl (by rw [h1]; exact h3) (by rw [h1]; omega)
    have hv1:(a.eval x).cells.toList.length=1:=by rw [An]; exact h3
    obtain ⟨v,hv⟩:∃ v,(a.eval x).cells.toList=[v]:=by
     match hvl:(a.eval x).cells.toList,hv1 with
     | [v],_=>exact ⟨v,rfl⟩
    have hcells:(cells.toList.take (i*a0A ty)++((a.eval x).cells.toList++cells.toList.drop (i*a0A ty+(a.eval x).cells.size)))=cells.toList.set i v:=by
     rw [h1,h3,Nat.mul_one,hv,List.set_eq_take_append_cons_drop,Aj (by rw [An]; omega)]
     rfl
    rw [hcells] at hf
    have hr:a2A E (.arr n ty) (l.set i y) (cells.toList.set i v).toArray.toList:=by
     refine ⟨by rw [Em]; exact c1,by simp [h1,c2],fun j hj => ?_⟩
     rw [Em] at hj
     obtain ⟨cs,r1,r2⟩:=c3 j hj
     by_cases e:i=j
     ·subst e
      refine ⟨[v],by rw [List.getElem_set_self]; rw [←hv]; exact h2,fun k u hk => ?_⟩
      cases k with
      | zero =>
       cases hk
       rw [h1,Nat.mul_one,Dx]
       show (cells.toList.set i v)[i]? = some v
       rw [List.getElem?_set_self (by rw [An]; omega)]
      | succ k=>cases hk
     ·refine ⟨cs,by rw [List.getElem_set_ne e]; exact r1,fun k u hk => ?_⟩
      have hk0:k=0:=by
       have:=a2A.length r1
       rw [h1] at this
       have:=(Cl.1 hk).1
       omega
      subst hk0
      have:=r2 0 u hk
      rw [h1,Nat.mul_one,Dx] at this ⊢
      show (cells.toList.set i v)[j]? = some u
      rw [List.getElem?_set_ne e]; exact this
    obtain ⟨out,g1,g2⟩:=s6D hs rest (l.set i y) (cells.toList.set i v).toArray hr h
    exact ⟨out,by rw [List.map_cons,hf,g1],g2⟩
   ·cases h
  ·cases h
include hT
theorem x5E {S:St} {a:Act} (hs:e0A E S.tmps a.tmps) {t:TypeId} {parts:Array (Nat×Operand)} {v:AV} (h:(y9C T t (f1A S parts.toList)).gives v) :
  ∃ z,(Instr.build t (parts.map fun (i,x)=>(i,a.eval x))).run P w=.ok z w∧d6A E v z:=by
 unfold y9C at h
 split at h
 ·rename_i i hi
  split at h
  ·rename_i fs htd
   obtain ⟨r,e1,rfl⟩:=b4A (h1B h)
   obtain ⟨inf,hinf,_,_,z,hz,hzc,_⟩:=(hT t i hi).info
   obtain ⟨d,hu,hd⟩:=(hT t i hi).und
   rw [htd] at hd
   obtain ⟨F,rfl,rfl⟩:=hd
   obtain ⟨places,hp⟩:=(hT t i hi).fsz _ htd
   rw [List.mapM_map] at hp
   have hpl:∀ j x,(oB (r2B (F.toList.map fun f=>(f.offset,f.type)) j) fun f=>oM (d2A f.2 T) fun fi=>(f.1,fi.size))=some x→places.toArray[j]? = some x:=by
    intro j x hx
    obtain ⟨f,hf,hx⟩:=m0A hx
    obtain ⟨fi,hfi,rfl⟩:=b4A hx
    rw [m8C,List.getElem?_map] at hf
    cases hF:F.toList[j]? with
    | none=>rw [hF] at hf; cases hf
    | some g =>
     rw [hF] at hf
     cases hf
     have key:∀ (l:List Field) (r:List (Nat×Nat)) (j:Nat) (g:Field),l.mapM (fun f=>(P.info? f.type).map fun i=>(f.offset,i.size))=some r→l[j]? = some g →
       ∃ y,r[j]? = some y∧(P.info? g.type).map (fun i=>(g.offset,i.size))=some y:=by
      intro l
      induction l with
      | nil=>intro r j g _ hj; cases hj
      | cons f l ih =>
       intro r j g hr hj
       simp only [List.mapM_cons,Option.bind_eq_bind,Option.pure_def] at hr
       cases hi:(P.info? f.type).map (fun i=>(f.offset,i.size)) with
       | none=>rw [hi] at hr; cases hr
       | some u =>
        cases hr2:l.mapM (fun f=>(P.info? f.type).map fun i=>(f.offset,i.size)) with
        | none=>rw [hi,hr2] at hr; cases hr
        | some r2 =>
         rw [hi,hr2] at hr
         cases hr
         cases j with
         | zero=>cases hj; exact ⟨u,rfl,hi⟩
         | succ j=>exact ih r2 j g hr2 hj
     obtain ⟨y,h1,h2⟩:=key _ _ j g hp hF
     obtain ⟨finf,hfinf,hfs,_⟩:=(hT _ _ hfi).info
     rw [hfinf] at h2
     cases h2
     rw [←hfs]
     simpa using h1
   obtain ⟨out,h1,h2⟩:=d4D (E:=E) hpl hs parts.toList i.zc z.cells r (hzc E) e1
   refine ⟨_,run_build w t _ out ?_,?_⟩
   ·have hp':F.toList.mapM (fun f=>(P.info? f.type).map fun i=>(f.offset,i.size))=some places:=hp
    simp only [Program.built,hinf,hu,hz,hp']
    rw [Array.toList_map]
    exact h1
   ·exact ⟨out.toList,by simp,h2⟩
  ·rename_i n e htd
   split at h
   ·rename_i n' ty l hzc
    cases hb:(Nat.beq n' n&&o9A T e ty) with
    | false=>rw [hb] at h; exact h.elim
    | true =>
     rw [hb] at h
     rw [Ac] at hb
     have hn:=Ag hb.1
     subst hn
     obtain ⟨l',e1,rfl⟩:=b4A (h1B h)
     obtain ⟨inf,hinf,_,_,z,hz,hzcr,_⟩:=(hT t i hi).info
     obtain ⟨d,hu,hd⟩:=(hT t i hi).und
     rw [htd] at hd
     have hd:d=.array n' e:=hd
     subst hd
     have hzr:a2A E (.arr n' ty) l z.cells.toList:=by
      have:=hzcr E
      rw [hzc] at this
      obtain ⟨u,r,e,r1,r2⟩:=this
      rw [e,show r=[] from r2,Bc]; exact r1
     have hel:∃ ie,P.info? e=some ie∧ie.size=a0A ty:=by
      have h2:=hb.2
      unfold o9A at h2
      split at h2
      ·rename_i i' hi'
       obtain ⟨inf',h3,h4,_⟩:=(hT e i' hi').info
       exact ⟨inf',h3,by rw [h4,Ag h2]⟩
      ·cases h2
     obtain ⟨ie,hie,hies⟩:=hel
     obtain ⟨out,h1,h2⟩:=s6D (E:=E) hs parts.toList l z.cells hzr e1
     refine ⟨_,run_build w t _ out ?_,?_⟩
     ·simp only [Program.built,hinf,hu,hz,hie,hies]
      rw [Array.toList_map]
      exact h1
     ·exact ⟨out.toList,by simp,out.toList,[],by simp,h2,rfl⟩
   ·split at h
    ·rename_i ei hei
     obtain ⟨r,e1,rfl⟩:=b4A (h1B h)
     obtain ⟨inf,hinf,_,_,z,hz,hzcr,_⟩:=(hT t i hi).info
     obtain ⟨d,hu,hd⟩:=(hT t i hi).und
     rw [htd] at hd
     have hd:d=.array n e:=hd
     subst hd
     obtain ⟨ie,hie,hies,_⟩:=(hT e ei hei).info
     obtain ⟨out,h1,h2⟩:=d4D (E:=E) (pl:=fun j=>some (j*ei.size,ei.size)) (place:=fun j=>some (j*ie.size,ie.size)) (fun j x hx=>by rw [hies]; exact hx) hs parts.toList i.zc z.cells r (hzcr E) e1
     refine ⟨_,run_build w t _ out ?_,?_⟩
     ·simp only [Program.built,hinf,hu,hz,hie]
      rw [Array.toList_map]
      exact h1
     ·exact ⟨out.toList,by simp,h2⟩
    ·exact h.elim
  ·exact h.elim
 ·exact h.elim
omit hT
theorem n7C {src dst e:TypeId} (hs:P.underlying src=some (.slice e)) (he:P.underlying e=some (.int .u8)) (hd:P.underlying dst=some .string) {a:Option Addr} {cap:Nat} {l:List Int}
  (h:l=[]∨∃ b o,a=some ⟨b,o,none⟩∧∀ i,(hi:i<l.length)→w.cell? ⟨b,o+i,none⟩=some (.int .u8 l[i])):(convert src dst (.slice a l.length cap)).run P w=.ok (.string (i8C l)) w:=by
 rcases h with rfl | ⟨b,o,rfl,h⟩
 ·cases a with
  | none=>rw [run_convert_bytes_string w src dst e _ _ cap hs he hd]; simp [Conv.bytesToString]; rfl
  | some a =>
   have hl:(loadCells a 0).run P w=.ok (([]:List Int).map (Value.int .u8)).toArray w:=run_loadCells_list (P:=P) w a [] fun j v hj=>by simp at hj
   rw [run_convert_bytes_string w src dst e _ _ cap hs he hd]
   exact run_bytesToString w a 0 cap [] hl
 ·exact run_convert_bytes_arg w src e hs he b o l.length cap l rfl (fun i hi=>by
   rw [h i hi]
   simp [List.getD,Aq hi]) dst hd
include hT
theorem n8C {e:TypeId} (h:g6B T e=true):P.underlying e=some (.int .u8):=by
 unfold g6B i0A at h
 cases hi:d2A e T with
 | none=>rw [hi] at h; cases h
 | some i =>
  rw [hi] at h
  split at h
  ·rename_i h'
   obtain ⟨d,hu,hd⟩:=(hT _ _ hi).und
   have h':i.td=.int .u8:=by simpa using h'
   rw [h'] at hd
   rw [hu,show d=_ from hd]
  ·cases h
theorem x6E {keep:Nat→Prop} {S:St} (hm:a4A E keep S.objs) {src dst:TypeId} {a v:AV} {x:Value} (h:(z0C T S src dst a).gives v) (hx:a3A E a x):∃ z,(convert src dst x).run P E.w=.ok z E.w∧d6A E v z:=by
 unfold z0C at h
 split at h
 ·rename_i i j hi hj
  obtain ⟨d,hu,hd⟩:=(hT _ _ hi).und
  obtain ⟨d',hu',hd'⟩:=(hT _ _ hj).und
  split at h
  ·rename_i k k' n hjk
   cases h
   rw [hjk] at hd'
   rw [show d'=_ from hd'] at hu'
   rw [hx.int_inv]
   exact ⟨.int k (k.wrap n),by cases d <;> simp [convert,c3A hu,c3A hu',Conv.intToInt],rfl⟩
  ·rename_i s hik hjk
   cases h
   rw [hik] at hd
   rw [hjk] at hd'
   rw [show d=_ from hd] at hu
   rw [show d'=_ from hd'] at hu'
   rw [hx.str_inv]
   exact ⟨.string s,by simp [convert,c3A hu,c3A hu'],rfl⟩
  ·rename_i kk n hik hjk
   cases h
   rw [hik] at hd
   rw [hjk] at hd'
   rw [show d=_ from hd] at hu
   rw [show d'=_ from hd'] at hu'
   rw [hx.int_inv]
   exact ⟨.string (Utf8.encode n),by simp [convert,c3A hu,c3A hu',Conv.intToString],rfl⟩
  ·rename_i e l hik hjk
   cases hb:g6B T e with
   | false=>rw [hb] at h; exact h.elim
   | true =>
    rw [hb] at h
    cases h
    rw [hik] at hd
    rw [hjk] at hd'
    rw [show d=_ from hd] at hu
    rw [show d'=_ from hd'] at hu'
    obtain ⟨a,cap,e1,_,h3⟩:=(show a2A E (.sl (.int .u8)) l [x] from hx)
    cases e1
    refine ⟨_,n7C hu (n8C hT hb) hu' (h3.imp (fun h=>Br.1 h) ?_),rfl⟩
    rintro ⟨b,o,rfl,_,h4⟩
    refine ⟨b,o,rfl,fun i hi => ?_⟩
    obtain ⟨cs,r1,r2⟩:=h4 i hi
    have r1:cs=[.int .u8 l[i]]:=r1
    subst r1
    simpa [a0A] using r2 0 _ rfl
  ·rename_i e hik hjk
   cases hb:g6B T e with
   | false=>rw [hb] at h; exact h.elim
   | true =>
    rw [hb] at h
    cases h
    rw [hik] at hd
    rw [hjk] at hd'
    rw [show d=_ from hd] at hu
    rw [show d'=_ from hd'] at hu'
    have e1:[x]=[Value.slice none 0 0]:=hx
    cases e1
    exact ⟨_,n7C (l:=[]) hu (n8C hT hb) hu' (.inl rfl),rfl⟩
  ·rename_i e id rg hik hjk
   split at h
   ·rename_i l hl
    cases hb:g6B T e with
    | false=>rw [hb] at h; exact h.elim
    | true =>
     rw [hb] at h
     cases h
     rw [hik] at hd
     rw [hjk] at hd'
     rw [show d=_ from hd] at hu
     rw [show d'=_ from hd'] at hu'
     obtain ⟨_,hor⟩:=d5B hx
     obtain ⟨hlen,hwd,ho⟩:=(hm.rep _ _ hl).2
     cases hblk:(E.M id).blk with
     | none =>
      rw [hblk] at hor ho
      obtain ⟨rfl,_,_⟩:=hor
      have ho:l=[]:=ho
      subst ho
      have:h3A ([]:List Int) rg=[]:=by cases rg <;> simp [h3A]
      refine ⟨_,n7C (l:=[]) hu (n8C hT hb) hu' (.inl rfl),?_⟩
      rw [show h3A ([]:List (den (.int .u8))) rg=([]:List Int) from this]
      rfl
     | some b =>
      rw [hblk] at hor ho
      obtain ⟨o,cap,rfl,h5,h6,h7⟩:=hor
      obtain ⟨vs,et,h8,h9,h10,h11⟩:=ho
      have hlt:(h3A l rg).length=e9A (E.M id).len rg:=by
       rw [hlen] at h6 ⊢
       cases rg with
       | none=>rfl
       | some p =>
        simp only [h3A,e9A,d1A,Ap,Ar] at h6 ⊢
        omega
      rw [←hlt]
      refine ⟨_,n7C (l:=h3A l rg) hu (n8C hT hb) hu' ?_,rfl⟩
      by_cases hz:h3A l rg=[]
      ·exact .inl hz
      ·right
       have hpos:0<(h3A l rg).length:=List.length_pos_iff.2 hz
       have hc:cap≠0:=by rw [hlt] at hpos; omega
       obtain ⟨h12,h13⟩:=h7.resolve_left hc
       refine ⟨b,o,rfl,fun i hi => ?_⟩
       have hi':d1A rg+i<l.length:=by rw [hlt] at hi; rw [←hlen]; omega
       have hget:(h3A l rg)[i]=l[d1A rg+i]:=by
        cases rg with
        | none=>simp [h3A,d1A]
        | some p=>simp [h3A,d1A]
       obtain ⟨cs,r1,r2⟩:=h11 (d1A rg+i) hi'
       have r1:cs=[.int .u8 l[d1A rg+i]]:=r1
       subst r1
       have:=r2 0 _ rfl
       have e1:(E.M id).base+d1A rg*a0A (.int .u8)+i=(E.M id).base+(d1A rg+i)*a0A (.int .u8)+0:=by simp only [a0A]; omega
       have e2:E.w.cell? ⟨b,o+i,none⟩=vs[o+i]? := by simp [World.cell?,h8]
       rw [e2,h12,hwd,e1,this,hget]
   ·exact h.elim
  ·exact h.elim
 ·exact h.elim
omit hT
theorem x7E {S:St} {a:Act} (hs:e0A E S.tmps a.tmps) {f:FuncId} {first caps:Array Operand} {v:AV} (h:(z1C f (d5A (ev S) first.toList) (d5A (ev S) caps.toList)).gives v) :
  d6A E v (.func (.func f) (first.map a.eval) (caps.map a.eval)):=by
 unfold z1C at h
 cases hb:(x6A (d5A (ev S) first.toList)&&x6A (d5A (ev S) caps.toList)) with
 | false=>rw [hb] at h; exact h.elim
 | true =>
  rw [hb] at h
  cases h
  rw [Ac] at hb
  refine ⟨_,_,rfl,?_,?_⟩
  ·rw [Array.toList_map]; exact c8D hs _ hb.1
  ·rw [Array.toList_map]; exact c8D hs _ hb.2
theorem s7D {a:AV} {x:Value} (h:i6A a=true) (r:a6A E a [x]):d6A E a x:=by
 cases a <;> first
  | exact r
  | exact nomatch h
theorem x8E {a:AV} (h:i6A a=true):a.w=1:=by
 cases a <;> first
  | rfl
  | exact nomatch h
theorem e5A.ofL:∀ {l:List AV} {vs:List Value},x6A l=true→b0A E l vs→e5A E l vs
 | [],_,_,r=>r
 | a::l,vs,h,r=>by
  simp only [x6A,Ac] at h
  obtain ⟨u,s,rfl,r1,r2⟩:=r
  have hu:u.length=1:=by rw [a6A.length r1,x8E h.1]
  match u,hu,r1 with
  | [v],_,r1=>exact ⟨v,s,rfl,h.1,r1,e5A.ofL h.2 r2⟩
theorem e5A.toL:∀ {l:List AV} {vs:List Value},e5A E l vs→b0A E l vs
 | [],_,r=>r
 | a::l,vs,r=>by
  obtain ⟨v,s,rfl,_,r1,r2⟩:=r
  exact ⟨[v],s,rfl,r1,e5A.toL r2⟩
include hT in
theorem s8D {t:TypeId} (h:r5B T t=true):∃ d,P.underlying t=some d∧(∀ m,d≠.interface m)∧∃ i,d2A t T=some i:=by
 unfold r5B i0A at h
 cases hi:d2A t T with
 | none=>rw [hi] at h; exact nomatch h
 | some i =>
  rw [hi] at h
  dsimp only at h
  obtain ⟨d,hd,ht⟩:=(hT t i hi).und
  refine ⟨d,hd,fun m e => ?_,i,rfl⟩
  subst e
  cases htd:i.td with
  | other=>rw [htd] at h; exact nomatch h
  | st fs=>rw [htd] at ht; obtain ⟨_,e,_⟩:=ht; cases e
  | fn=>rw [htd] at ht; obtain ⟨_,_,_,e⟩:=ht; cases e
  | _=>rw [htd] at ht; cases ht
include hT in
theorem x9E {t:TypeId} {a v:AV} {x:Value} (h:(z5C T t a).gives v) (hx:a3A E a x):∃ z,(Instr.makeInterface t x).run P w=.ok z w∧d6A E v z:=by
 unfold z5C at h
 cases hc:r5B T t with
 | false=>rw [hc] at h; exact h.elim
 | true =>
  rw [hc] at h
  obtain ⟨d,hd,hn,_⟩:=s8D hT hc
  have hrun:(Instr.makeInterface t x).run P w=.ok (.iface t x) w:=by
   unfold Instr.makeInterface
   simp only [Sem.run_bind,c3A hd,Result.andThen_ok]
   cases d <;> first
    | rfl
    | exact absurd rfl (hn _)
  refine ⟨_,hrun,?_⟩
  simp only [Al] at h
  split at h
  ·rename_i cs
   cases hac:x6A cs with
   | false=>rw [hac] at h; exact h.elim
   | true =>
    rw [hac] at h
    cases h
    obtain ⟨vs,e,r⟩:=hx
    exact ⟨vs,e5A.ofL hac r,x,rfl,.inl ⟨rfl,e⟩⟩
  ·cases hac:i6A a with
   | false=>rw [hac] at h; exact h.elim
   | true =>
    rw [hac] at h
    cases h
    exact ⟨[x],⟨x,[],rfl,hac,m9C hx hac,rfl⟩,x,rfl,.inr ⟨rfl,rfl⟩⟩
theorem y0E {u:TypeId} {ag:Bool} {cs:List AV} {x:Value} (hx:a3A E (.iface u ag cs) x):∃ y,x=.iface u y∧d6A E (unI ag cs) y:=by
 obtain ⟨ws,r,y,e,h⟩:=(show a6A E (.iface u ag cs) [x] from hx)
 have e:x=.iface u y:=by simpa using e
 refine ⟨y,e,?_⟩
 rcases h with ⟨rfl,hy⟩ | ⟨rfl,hy⟩
 ·exact ⟨ws,hy,e5A.toL r⟩
 ·subst hy
  cases cs with
  | nil=>exact nomatch r
  | cons a l =>
   obtain ⟨v,s,e2,hc,r1,r2⟩:=r
   cases e2
   exact s7D hc r1
include hT in
theorem y1E {t:TypeId} {z:AV} (h:z6C T t=some z):∃ y,(zeroValue t).run P w=.ok y w∧d6A E z y:=by
 unfold z6C at h
 split at h
 ·rename_i i hi
  obtain ⟨inf,h1,_,_,y,h4,h5,_,h7⟩:=(hT t i hi).info
  refine ⟨y,by simp [zeroValue,y4A h1,h4],?_⟩
  have:=l2C (h5 E) h
  unfold mkV at this
  cases ha:i.td.isAgg with
  | true=>rw [ha] at h7 this; simp only [Ep] at h7 this; rw [h7]; simpa using this
  | false=>rw [ha] at h7 this; simp only [Cf,Fb] at h7 this; rw [h7] at this; simpa using this
 ·cases h
include hT in
theorem s9D {t u:TypeId} {ok:Bool} {v:AV} {x:Value} {a b:Option TypeId} {s:String} (h:(j1C T t ok).gives v) :
  ∃ z,((if ok then do pure (.tuple #[←zeroValue t,.bool false]) else runtimePanic (.typeAssertion a b u s):Sem Value)).run P w=.ok z w∧a3A E v z:=by
 unfold j1C at h
 split at h
 ·rename_i z hz
  cases h
  obtain ⟨y,h1,h2⟩:=y1E (E:=E) (w:=w) hT hz
  exact ⟨.tuple #[y,.bool false],by simp [h1],[y,.bool false],rfl,_,_,rfl,h2,_,_,rfl,rfl,rfl⟩
 ·exact h.elim
include hT in
theorem y2E {s t:TypeId} {ok:Bool} {a v:AV} {x:Value} (h:(z7C T t ok a).gives v) (hx:a3A E a x):∃ z,(Instr.typeAssert x s t ok).run P w=.ok z w∧a3A E v z:=by
 unfold z7C at h
 cases hc:r5B T t with
 | false=>rw [hc] at h; exact h.elim
 | true =>
  rw [hc] at h
  obtain ⟨d,hd,hn,_⟩:=s8D hT hc
  simp only [Al] at h
  split at h
  ·rename_i u ag cs
   obtain ⟨y,rfl,hy⟩:=y0E hx
   have hrun : ∀ r : Result Value, (if u = t then (pure (if ok then .tuple #[y, .bool true] else y) : Sem Value) else (if ok then do pure (.tuple #[← zeroValue t, .bool false]) else runtimePanic (.typeAssertion (some s) (some u) t ""))).run P w = r → (Instr.typeAssert (.iface u y) s t ok).run P w = r := fun r hr => by
    rw [←hr]
    unfold Instr.typeAssert
    simp only [Sem.run_bind,c3A hd,Result.andThen_ok]
   cases hb:Nat.beq u t with
   | true =>
    have he:u=t:=Ag hb
    rw [hb] at h
    simp only [Al] at h
    cases ok with
    | true =>
     cases h
     exact ⟨.tuple #[y,.bool true],hrun _ (by rw [Aj he]; rfl),[y,.bool true],rfl,_,_,rfl,hy,_,_,rfl,rfl,rfl⟩
    | false =>
     cases h
     exact ⟨y,hrun _ (by rw [Aj he]; rfl),hy.toS⟩
   | false =>
    have he:u≠t:=fun e=>by rw [e,Cn] at hb; cases hb
    rw [hb] at h
    simp only [Ai] at h
    obtain ⟨z, h1, h2⟩ := s9D (E := E) (w := w) (u := t) (a := some s) (b := some u) (s := "") hT (x := y) h
    exact ⟨z,hrun _ (by rw [Ae he]; exact h1),h2⟩
  ·have e:x=.nilIface:=by
    have:[x]=[.nilIface]:=(show a6A E .nili [x] from hx)
    simpa using this
   subst e
   obtain ⟨z, h1, h2⟩ := s9D (E := E) (w := w) (u := t) (a := some s) (b := none) (s := "") hT (x := .nilIface) h
   refine ⟨z,?_,h2⟩
   rw [←h1]
   unfold Instr.typeAssert
   simp only [Sem.run_bind,c3A hd,Result.andThen_ok]
  ·exact h.elim
theorem i2A {s:Sem Value} {x:Value} {w':World} (h:s.run P w=.ok x w'):(do pure (Next.value (←s)):Sem Next).run P w=.ok (.value x) w':=by
 rw [Sem.run_bind,h]; rfl
include hT
theorem d5D {keep:Nat→Prop} {S:St} {a:Act} (hs:e0A E S.tmps a.tmps) (hm:a4A E keep S.objs) (o:Oper) {v:AV} (h:(m9A T S o.op).gives v) :
  ∃ x,(execOp a.eval o).run P E.w=.ok (.value x) E.w∧a3A E v x:=by
 obtain ⟨dst,op,type,pos,after,guard⟩:=o
 simp only at h
 unfold m9A at h
 split at h
 ·cases h; exact ⟨_,rfl,b6A hs _⟩
 ·cases h; exact ⟨_,rfl,b6A hs _⟩
 ·rename_i c x y
  obtain ⟨z,h1,h2⟩:=v1E (P:=P) (w:=E.w) h (b6A hs c) (b6A hs x) (b6A hs y)
  refine ⟨z,?_,h2⟩
  have:=i2A h1
  simp only [execOp]
  simpa using this
 ·obtain ⟨z,h1,h2⟩:=x5E hT hs h
  exact ⟨z,i2A h1,h2.toS⟩
 ·rename_i t x
  obtain ⟨z,h1,h2⟩:=r4D hT hm h (b6A hs x)
  exact ⟨z,i2A h1,h2.toS⟩
 ·rename_i x
  have hx:=b6A hs x
  simp only [execOp]
  split at h
  ·rename_i id off e
   cases h
   rw [e] at hx
   obtain ⟨_,b,_,e2⟩:=h4B hx
   exact ⟨_,by rw [e2]; rfl,by rw [←e2]; exact hx⟩
  ·rename_i e
   cases h
   rw [e] at hx
   obtain ⟨_,_,b,_,e2⟩:=m6C hx
   exact ⟨_,by rw [e2]; rfl,by rw [←e2]; exact hx⟩
  ·rename_i e
   cases h
   rw [e] at hx
   obtain ⟨_,_,b,_,e2⟩:=n4B hx
   exact ⟨_,by rw [e2]; rfl,by rw [←e2]; exact hx⟩
  ·rename_i e
   cases h
   rw [e] at hx
   obtain ⟨_,b,o,_,e2,_⟩:=c6D hx
   exact ⟨_,by rw [e2]; rfl,by rw [←e2]; exact hx⟩
  ·rename_i e
   cases h
   rw [e] at hx
   have e2:=m7C hx
   exact ⟨_,by rw [e2]; rfl,by rw [←e2]; exact hx⟩
  ·rename_i c e
   cases h
   rw [e] at hx
   obtain ⟨b,cv,ty,e2,_⟩:=(show a6A E _ [a.eval x] from hx)
   have e2:a.eval x=.pointer (some ⟨b,0,none⟩):=by simpa using e2
   exact ⟨_,by rw [e2]; rfl,by rw [←e2]; exact hx⟩
  ·rename_i f l1 l2 e
   cases h
   rw [e] at hx
   obtain ⟨A,B,e2,_⟩:=(show a6A E _ [a.eval x] from hx)
   have e2:a.eval x=.func (.func f) A B:=by simpa using e2
   exact ⟨_,by rw [e2]; rfl,by rw [←e2]; exact hx⟩
  ·exact h.elim
 ·rename_i op t x y _
  obtain ⟨z,h1,h2⟩:=u8E hT (w:=E.w) (w5E hT) h (b6A hs x) (b6A hs y) x y
  exact ⟨z,i2A h1,h2⟩
 ·rename_i op t x
  obtain ⟨z,h1,h2⟩:=u9E (P:=P) (w:=E.w) h (b6A hs x)
  exact ⟨z,i2A h1,h2⟩
 ·rename_i src dst x
  obtain ⟨z,h1,h2⟩:=x6E hT hm h (b6A hs x)
  exact ⟨z,i2A h1,h2.toS⟩
 ·exact ⟨_,rfl,(x7E hs h).toS⟩
 ·rename_i t x lo hi
  obtain ⟨z,h1,h2⟩:=x2E hT (w:=E.w) hm hs h (b6A hs x)
  exact ⟨z,i2A h1,h2.toS⟩
 ·rename_i t x f
  obtain ⟨z,h1,h2⟩:=v9E hT (w:=E.w) hm h (b6A hs x)
  exact ⟨z,i2A h1,h2.toS⟩
 ·rename_i t x f
  obtain ⟨z,h1,h2⟩:=w0E hT (w:=E.w) h (b6A hs x)
  exact ⟨z,i2A h1,h2.toS⟩
 ·rename_i t x ix
  obtain ⟨z,h1,h2⟩:=w1E hT (w:=E.w) hm h (b6A hs x) (b6A hs ix)
  exact ⟨z,i2A h1,h2.toS⟩
 ·rename_i t x ix
  obtain ⟨z,h1,h2⟩:=x1E hT (w:=E.w) h (b6A hs x) (b6A hs ix)
  exact ⟨z,i2A h1,h2.toS⟩
 ·rename_i x ix
  have hx:=b6A hs x
  split at h
  ·rename_i vs e
   rw [e] at hx
   obtain ⟨us,e2,hr⟩:=hx
   obtain ⟨y,h1,h2⟩:=r5D hr (h1B h)
   refine ⟨y,i2A ?_,h2.toS⟩
   rw [e2]
   simp [Instr.extract,h1]
  ·exact h.elim
 ·rename_i args argTypes
  split at h
  ·rename_i x t e1 e2
   have e1:=n0C e1
   have e2:=n0C e2
   subst e1 e2
   obtain ⟨z,h1,h2⟩:=x3E hT (w:=E.w) hm rfl (ty:=type) h (b6A hs x)
   refine ⟨z,?_,h2.toS⟩
   simp [execOp,resolve,invoke,builtin,h1]
  ·exact h.elim
 ·rename_i args argTypes
  cases hl:args.toList with
  | nil=>rw [hl] at h; exact h.elim
  | cons p ps =>
   rw [hl] at h
   obtain ⟨z,h1,h2⟩:=d3D (P:=P) (w:=E.w) false (d5A (ev S) ps) _ v (a.eval p) (ps.map a.eval) h (b6A hs p) (d1D hs ps) (by rw [d2D,List.length_map])
   refine ⟨z,?_,h2⟩
   have e:(args.map a.eval).toList=a.eval p::ps.map a.eval:=by rw [Array.toList_map,hl]; rfl
   have:(Builtin.min_ argTypes type (args.map a.eval)).run P E.w=.ok z E.w:=by
    unfold Builtin.min_
    rw [e]; exact h1
   simp [execOp,resolve,invoke,builtin,this]
 ·rename_i args argTypes
  cases hl:args.toList with
  | nil=>rw [hl] at h; exact h.elim
  | cons p ps =>
   rw [hl] at h
   obtain ⟨z,h1,h2⟩:=d3D (P:=P) (w:=E.w) true (d5A (ev S) ps) _ v (a.eval p) (ps.map a.eval) h (b6A hs p) (d1D hs ps) (by rw [d2D,List.length_map])
   refine ⟨z,?_,h2⟩
   have e:(args.map a.eval).toList=a.eval p::ps.map a.eval:=by rw [Array.toList_map,hl]; rfl
   have:(Builtin.max_ argTypes type (args.map a.eval)).run P E.w=.ok z E.w:=by
    unfold Builtin.max_
    rw [e]; exact h1
   simp [execOp,resolve,invoke,builtin,this]
 ·rename_i t x
  obtain ⟨z,h1,h2⟩:=x9E hT (w:=E.w) h (b6A hs x)
  exact ⟨z,i2A h1,h2.toS⟩
 ·rename_i x s t ok
  obtain ⟨z,h1,h2⟩:=y2E hT (w:=E.w) (s:=s) h (b6A hs x)
  exact ⟨z,i2A h1,h2⟩
 ·rename_i t m k ok
  obtain ⟨z,h1,h2⟩:=x0E hT hm h (b6A hs m) (b6A hs k)
  exact ⟨z,i2A h1,h2⟩
 ·rename_i it
  obtain ⟨z,h1,h2⟩:=w9E hT hm h (b6A hs it)
  exact ⟨z,i2A h1,h2⟩
 ·exact h.elim
end
end Go.Rx
