import Derived.Calls
import Derived.Orders
import Derived.Laws.Sem
import Derived.Laws.World
import Derived.Laws.Cells
import Derived.Laws.Rows
import Derived.Laws.Append
import Derived.Laws.Tables
import Derived.Laws.Slices
import Derived.Great.BuildSlice
import Derived.Laws.StructEq
import Derived.Laws.BytesArg
set_option linter.unusedSimpArgs false
set_option linter.unusedVariables false
set_option linter.unusedSectionVars false
namespace Go.Rx
inductive Ty where
 | int (k : IntKind) | bool | str
 | sl (t : Ty)
 | own (t : Ty)
 | unit
 | pair (a b : Ty)
 | arr (n : Nat) (t : Ty)
 deriving DecidableEq
@[reducible] def den : Ty → Type
 | .int _ => Int
 | .bool => Bool
 | .str => ByteArray
 | .sl t => List (den t)
 | .own t => List (den t)
 | .unit => Unit
 | .pair a b => den a × den b
 | .arr _ t => List (den t)
def a0A : Ty → Nat
 | .unit => 0
 | .pair a b => a0A a + a0A b
 | .arr n t => n * a0A t
 | _ => 1
def Ty.pure : Ty → Bool
 | .int _ | .bool | .str | .unit => true
 | .own _ => false
 | .sl t => t.pure
 | .arr _ t => t.pure
 | .pair a b => a.pure && b.pure
def Ty.scalar : Ty → Bool
 | .unit => false
 | .pair _ _ => false
 | .arr _ _ => false
 | _ => true
def Ty.okp : Ty → Bool
 | .own t => t.pure
 | .pair a b => a.okp && b.okp
 | t => t.pure
def d1A : (t : Ty) → den t
 | .int _ => (0 : Int)
 | .bool => false
 | .str => ByteArray.empty
 | .sl _ => []
 | .own _ => []
 | .unit => ()
 | .pair a b => (d1A a, d1A b)
 | .arr n t => List.replicate n (d1A t)
inductive AV where
 | top
 | int (k : IntKind) (n : Int)
 | bool (b : Bool)
 | str (s : ByteArray)
 | sl (t : Ty) (l : List (den t))
 | slv (t : Ty) (l : List (den t))
 | nilsl
 | arr (n : Nat) (t : Ty) (l : List (den t))
 | oref (id : Nat) (r : Option (Nat × Nat))
 | ptr (id off : Nat)
 | ptrA (id off n : Nat) (t : Ty) (i sub : Nat)
 | ptrO (id i sub : Nat)
 | ptrR (t : Ty) (l : List (den t)) (i sub : Nat)
 | bsl (id off n : Nat) (t : Ty) (lo len : Nat)
 | yld (l : Nat)
 | nilp
 | func (f : FuncId) (first caps : List AV)
 | nilf
 | mapr (id : Nat)
 | nilm
 | iface (t : TypeId) (ag : Bool) (cs : List AV)
 | nili
 | agg (cs : List AV)
 | tup (vs : List AV)
instance : Inhabited AV := ⟨.top⟩
def b9A (l : List AV) (i : Nat) : AV :=
 match l, i with
 | [], _ => .top
 | a :: l, i => match i with
  | 0 => a
  | i + 1 => b9A l i
def f8A (l : List AV) (i : Nat) (v : AV) : List AV :=
 match l, i with
 | [], _ => []
 | a :: l, i => match i with
  | 0 => v :: l
  | i + 1 => a :: f8A l i v
def i2A : List AV → List AV → List AV
 | [], m => m
 | a :: l, m => a :: i2A l m
def g2B : List AV → Nat
 | [] => 0
 | _ :: l => g2B l + 1
def u8A : List AV → AV
 | [] => .top
 | a :: _ => a
def u9A (v : AV) : Nat → List AV
 | 0 => []
 | n + 1 => v :: u9A v n
def d3A {α : Type} (f : α → AV) : List α → List AV
 | [] => []
 | a :: l => f a :: d3A f l
def oB {α β : Type} (x : Option α) (f : α → Option β) : Option β :=
 match x with
 | some a => f a
 | none => none
def oM {α β : Type} (x : Option α) (f : α → β) : Option β :=
 match x with
 | some a => some (f a)
 | none => none
def f0A : Option (Nat × Nat) → Nat
 | none => 0
 | some p => p.1
def j1A (n : Nat) : Option (Nat × Nat) → Nat
 | none => n
 | some p => p.2
def j8A {α : Type} (l : List α) : Option (Nat × Nat) → List α
 | none => l
 | some p => (l.drop p.1).take p.2
def enc : (t : Ty) → den t → List AV
 | .int k, x => [.int k x]
 | .bool, x => [.bool x]
 | .str, x => [.str x]
 | .sl t, x => [.sl t x]
 | .own t, x => [.sl t x]
 | .unit, _ => []
 | .pair a b, x => i2A (enc a x.1) (enc b x.2)
 | .arr n t, x => [.arr n t x]
inductive OC where
 | box (cs : List AV)
 | arr (t : Ty) (l : List (den t))
 | map (es : List (AV × AV))
structure St where
 tmps : List AV
 objs : List (Nat × OC)
 next : Nat
def St.put (S : St) (d : Option Nat) (v : AV) : St :=
 match d with
 | some d => { S with tmps := f8A S.tmps d v }
 | none => S
def a9A (id : Nat) : List (Nat × OC) → Option OC
 | [] => none
 | (j, o) :: r => bif Nat.beq j id then some o else a9A id r
def f3A (id : Nat) (o : OC) : List (Nat × OC) → List (Nat × OC)
 | [] => [(id, o)]
 | (j, p) :: r => bif Nat.beq j id then (id, o) :: r else bif Nat.blt id j then (id, o) :: (j, p) :: r else (j, p) :: f3A id o r
def n2A (id : Nat) : List (Nat × OC) → List (Nat × OC)
 | [] => []
 | (j, p) :: r => bif Nat.beq j id then n2A id r else (j, p) :: n2A id r
end Go.Rx
namespace Go.Rx
inductive TD where
 | bool | int (k : IntKind) | str
 | ptr (e : TypeId) | sl (e : TypeId) | arr (n : Nat) (e : TypeId) | st (fs : List (Nat × TypeId))
 | other
structure s5A where
 td : TD
 size : Nat
 bytes : Nat
 ty : Option Ty
 zc : List AV
 eq : Bool := false
abbrev Tab := List (Nat × s5A)
def f6A (t : TypeId) : Tab → Option s5A
 | [] => none
 | (j, i) :: r => bif Nat.beq j t then some i else f6A t r
def TD.isAgg : TD → Bool
 | .arr .. => true
 | .st .. => true
 | _ => false
def x0A (T : Tab) (t : TypeId) : Option TD :=
 match f6A t T with
 | some i => some i.td
 | none => none
def AV.w : AV → Nat
 | .arr n t _ => n * Rx.a0A t
 | _ => 1
def b7B : List AV → Nat
 | [] => 0
 | c :: cs => c.w + b7B cs
def e8C : List AV → Nat → Option (List AV)
 | [], n => bif Nat.beq n 0 then some [] else none
 | c :: cs, n => bif Nat.beq n 0 then some (c :: cs) else bif Nat.ble c.w n then e8C cs (n - c.w) else none
def e9C : List AV → Nat → Option (List AV)
 | [], n => bif Nat.beq n 0 then some [] else none
 | c :: cs, n => bif Nat.beq n 0 then some [] else bif Nat.ble c.w n then oM (e9C cs (n - c.w)) (c :: ·) else none
def cut (cs : List AV) (off n : Nat) : Option (List AV) := oB (e8C cs off) fun r => e9C r n
def v7B (cs : List AV) (off : Nat) (new : List AV) : Option (List AV) :=
 oB (e9C cs off) fun a => oM (e8C cs (off + b7B new)) fun b => i2A a (i2A new b)
def p9A : AV → Option (List AV)
 | .agg cs => some cs
 | .tup _ => none
 | .top => none
 | .arr .. => none
 | v => some [v]
def v8B (agg : Bool) (cs : List AV) : Option AV :=
 match agg, cs with
 | true, cs => some (.agg cs)
 | false, [.arr ..] => none
 | false, [c] => some c
 | _, _ => none
abbrev Objs := List (Nat × OC)
def v0A (t' t : Ty) (l : List (den t')) : Option (List (den t)) := if h : t' = t then some (h ▸ l) else none
def x1A (t : Ty) (objs : Objs) (id : Nat) (rg : Option (Nat × Nat)) : Option (List (den t) × Objs) :=
 match a9A id objs with
 | some (.arr t' l) => oM (v0A t' t l) fun l => (j8A l rg, n2A id objs)
 | _ => none
def q7A {α : Type} (f : List AV → Objs → Option (α × List AV × Objs)) : Nat → List AV → Objs → Option (List α × List AV × Objs)
 | 0, cs, objs => some ([], cs, objs)
 | n + 1, cs, objs => match f cs objs with
  | some (x, cs, objs) => match q7A f n cs objs with
   | some (xs, cs, objs) => some (x :: xs, cs, objs)
   | none => none
  | none => none
def c0A : (t : Ty) → List AV → Objs → Option (den t × List AV × Objs)
 | .int k, cs, objs => match cs with
  | .int k' n :: r => if k' = k then some (n, r, objs) else none
  | _ => none
 | .bool, cs, objs => match cs with
  | .bool b :: r => some (b, r, objs)
  | _ => none
 | .str, cs, objs => match cs with
  | .str s :: r => some (s, r, objs)
  | _ => none
 | .sl t, cs, objs => match cs with
  | .sl t' l :: r => oM (v0A t' t l) fun l => (l, r, objs)
  | .nilsl :: r => some ([], r, objs)
  | .oref id rg :: r => oM (x1A t objs id rg) fun x => (x.1, r, x.2)
  | _ => none
 | .own t, cs, objs => match cs with
  | .nilsl :: r => some ([], r, objs)
  | .oref id rg :: r => oM (x1A t objs id rg) fun x => (x.1, r, x.2)
  | _ => none
 | .unit, cs, objs => some ((), cs, objs)
 | .pair a b, cs, objs => match c0A a cs objs with
  | some (x, cs, objs) => match c0A b cs objs with
   | some (y, cs, objs) => some ((x, y), cs, objs)
   | none => none
  | none => none
 | .arr n t, cs, objs => match cs with
  | .arr n' t' l :: r => if n' = n then oM (v0A t' t l) fun l => (l, r, objs) else none
  | cs => q7A (c0A t) n cs objs
def o8A (t : Ty) (v : AV) (objs : Objs) : Option (den t × Objs) :=
 match p9A v with
 | some cs => match c0A t cs objs with
  | some (x, [], objs) => some (x, objs)
  | _ => none
 | none => none
structure Mem where
 objs : Objs
 next : Nat
def c4A : (t : Ty) → den t → Mem → List AV × Mem
 | .int k, x, m => ([.int k x], m)
 | .bool, x, m => ([.bool x], m)
 | .str, x, m => ([.str x], m)
 | .sl t, x, m => ([.sl t x], m)
 | .own t, x, m => ([.oref m.next none], ⟨f3A m.next (.arr t x) m.objs, m.next + 1⟩)
 | .unit, _, m => ([], m)
 | .pair a b, x, m => (i2A (c4A a x.1 m).1 (c4A b x.2 (c4A a x.1 m).2).1, (c4A b x.2 (c4A a x.1 m).2).2)
 | .arr n t, x, m => ([.arr n t x], m)
def b8B : Value → AV
 | .bool b => .bool b
 | .int k n => .int k n
 | .string s => .str s
 | .pointer none => .nilp
 | .slice none 0 0 => .nilsl
 | .nilFunc => .nilf
 | .map none => .nilm
 | .nilIface => .nili
 | _ => .top
def v9B : List AV → Bool
 | [] => true
 | .top :: _ => false
 | _ :: l => v9B l
def lit : Value → AV
 | .agg cs => bif v9B (d3A b8B cs.toList) then .agg (d3A b8B cs.toList) else .top
 | v => b8B v
def ev (S : St) : Operand → AV
 | .tmp t => b9A S.tmps t
 | .const v => lit v
 | .global _ => .top
 | .func f => .func f [] []
def g8A (S : St) : List (Nat × Operand) → List (Nat × AV)
 | [] => []
 | p :: l => (p.1, ev S p.2) :: g8A S l
def w0B : List (Nat × AV) → Nat
 | [] => 0
 | _ :: l => w0B l + 1
def f0C : List (Nat × TypeId) → Nat → Option (Nat × TypeId)
 | [], _ => none
 | f :: l, i => match i with
  | 0 => some f
  | i + 1 => f0C l i
def a1E : List AV → Nat → Option AV
 | [], _ => none
 | f :: l, i => match i with
  | 0 => some f
  | i + 1 => a1E l i
inductive VR where
 | no
 | val (v : AV)
 | gval (b : Bool) (v : AV)
def w1B : Option AV → VR
 | some v => .val v
 | none => .no
def d4A (op : BinOp) (k : IntKind) (x y : Int) : Int :=
 match op with
 | .and => k.wrap (BitVec.ofInt k.bits x &&& BitVec.ofInt k.bits y).toNat
 | .or => k.wrap (BitVec.ofInt k.bits x ||| BitVec.ofInt k.bits y).toNat
 | .xor => k.wrap (BitVec.ofInt k.bits x ^^^ BitVec.ofInt k.bits y).toNat
 | _ => k.wrap (BitVec.ofInt k.bits x &&& ~~~ BitVec.ofInt k.bits y).toNat
def c9A (k : IntKind) (x y : Int) : Int := k.wrap (x * 2 ^ min y.toNat k.bits)
def c5A (k : IntKind) (x y : Int) : Int := x.fdiv (2 ^ min y.toNat k.bits)
def a2E (op : BinOp) (k : IntKind) (a b : Int) : VR :=
 match op with
 | .add => .val (.int k (k.wrap (a + b)))
 | .sub => .val (.int k (k.wrap (a - b)))
 | .mul => .val (.int k (k.wrap (a * b)))
 | .quo => .gval (b != 0) (.int k (k.wrap (a.tdiv b)))
 | .rem => .gval (b != 0) (.int k (a.tmod b))
 | .and => .val (.int k (d4A .and k a b))
 | .or => .val (.int k (d4A .or k a b))
 | .xor => .val (.int k (d4A .xor k a b))
 | .andNot => .val (.int k (d4A .andNot k a b))
 | .eql => .val (.bool (a == b))
 | .neq => .val (.bool (a != b))
 | .lss => .val (.bool (decide (a < b)))
 | .leq => .val (.bool (decide (a ≤ b)))
 | .gtr => .val (.bool (decide (a > b)))
 | .geq => .val (.bool (decide (a ≥ b)))
 | .shl | .shr => .no
def t0B (x y : ByteArray) : Bool := x.toList == y.toList
def f1C (T : Tab) (t : TypeId) : Bool :=
 match f6A t T with
 | some i => match i.td with
  | .bool => true
  | _ => false
 | none => false
def g3B (T : Tab) (t : TypeId) : Bool :=
 match f6A t T with
 | some i => match i.td with
  | .sl _ => true
  | _ => false
 | none => false
def i3D (T : Tab) (eq : TypeId → List AV → List AV → Option Bool) (xs ys : List AV) : List (Nat × TypeId) → Option Bool
 | [] => some true
 | f :: fs => match f6A f.2 T with
  | some i => match cut xs f.1 i.size, cut ys f.1 i.size with
   | some a, some b => match eq f.2 a b with
    | some r => match i3D T eq xs ys fs with
     | some s => some (r && s)
     | none => none
    | none => none
   | _, _ => none
  | none => none
def f3F (T : Tab) (e : TypeId) : Bool :=
 match f6A e T with
 | some i => match i.td with
  | .int _ => Nat.beq i.size 1
  | _ => false
 | none => false
def eqC (T : Tab) : Nat → TypeId → List AV → List AV → Option Bool
 | 0, _, _, _ => none
 | d + 1, t, xs, ys => match f6A t T with
  | none => none
  | some i => match i.td, xs, ys with
   | .bool, [.bool a], [.bool b] => some (a == b)
   | .int _, [.int k a], [.int k' b] => if k = k' then some (a == b) else none
   | .str, [.str a], [.str b] => some (t0B a b)
   | .arr n e, [.arr n1 (.int k1) l1], [.arr n2 (.int k2) l2] => if n1 = n ∧ n2 = n ∧ k1 = k2 ∧ f3F T e = true then some (l1 == l2) else none
   | .st fs, xs, ys => bif i.eq then i3D T (eqC T d) xs ys fs else none
   | _, _, _ => none
def i4D (T : Tab) (t : TypeId) (xs ys : List AV) : Option Bool :=
 match f6A t T with
 | some i => bif i.eq && i.td.isAgg then eqC T 8 t xs ys else none
 | none => none
def a3E (T : Tab) (t : TypeId) (op : BinOp) (x y : AV) : VR :=
 match op, x, y with
 | .shl, .int k a, .int _ b => .gval (decide (0 ≤ b)) (.int k (c9A k a b))
 | .shr, .int k a, .int _ b => .gval (decide (0 ≤ b)) (.int k (c5A k a b))
 | op, .int k a, .int k' b => if k = k' then a2E op k a b else .no
 | .add, .str a, .str b => .gval (decide (((a.size + b.size : Nat) : Int) ≤ IntKind.i64.max)) (.str (a ++ b))
 | .eql, .str a, .str b => .val (.bool (t0B a b))
 | .neq, .str a, .str b => .val (.bool (!t0B a b))
 | .eql, .bool a, .bool b => bif f1C T t then .val (.bool (a == b)) else .no
 | .neq, .bool a, .bool b => bif f1C T t then .val (.bool (!(a == b))) else .no
 | .eql, .slv _ _, .nilsl => bif g3B T t then .val (.bool false) else .no
 | .neq, .slv _ _, .nilsl => bif g3B T t then .val (.bool true) else .no
 | .eql, .nilsl, .nilsl => bif g3B T t then .val (.bool true) else .no
 | .neq, .nilsl, .nilsl => bif g3B T t then .val (.bool false) else .no
 | .eql, .agg xs, .agg ys => w1B (oM (i4D T t xs ys) .bool)
 | .neq, .agg xs, .agg ys => w1B (oM (i4D T t xs ys) fun b => .bool (!b))
 | _, _, _ => .no
def s6A : AV → Bool
 | .top => false
 | .arr .. => false
 | .agg _ => false
 | .tup _ => false
 | _ => true
def b9B : List AV → Bool
 | [] => true
 | a :: l => s6A a && b9B l
def unV (op : UnOp) (x : AV) : VR :=
 match op, x with
 | .neg, .int k n => .val (.int k (k.wrap (0 - n)))
 | .xor, .int k n => .val (.int k (d4A .xor k (if k.signed then -1 else k.max) n))
 | .not, .bool b => .val (.bool (!b))
 | _, _ => .no
def a4E (c : Bool) (a b : AV) : VR :=
 match a, b with
 | .bool a, .bool b => .val (.bool (bif c then a else b))
 | .int k a, .int k' b => if k = k' then .val (.int k (bif c then a else b)) else .no
 | a, b => match c with
  | true => .val a
  | false => .val b
def a5E (c a b : AV) : VR :=
 match c with
 | .bool c => a4E c a b
 | _ => .no
def a2A (i : Int) (n : Nat) : Bool := decide (0 ≤ i) && decide (i < (n : Int))
def f4F (b : Bool) : Option AV → VR
 | some v => .gval b v
 | none => .no
def w2B (cs : List AV) (off n : Nat) (ty : Ty) : Option (List (den ty)) :=
 match cut cs off (n * a0A ty) with
 | some [.arr n' ty' l] => bif Nat.beq n' n then v0A ty' ty l else none
 | _ => none
def p6B (i : s5A) (cs : List AV) (off : Nat) : VR := w1B (oB (cut cs off i.size) (v8B i.td.isAgg))
def t7C (T : Tab) (S : St) (t : TypeId) (a : AV) : VR :=
 match f6A t T with
 | none => .no
 | some i =>
  match a with
  | .ptr id off => match a9A id S.objs with
   | some (.box cs) => p6B i cs off
   | _ => .no
  | .ptrA id off n ty k sub => match a9A id S.objs with
   | some (.box cs) => match w2B cs off n ty with
    | some l => p6B i (enc ty (l.getD k (d1A ty))) sub
    | none => .no
   | _ => .no
  | .ptrO id k sub => match a9A id S.objs with
   | some (.arr ty l) => p6B i (enc ty (l.getD k (d1A ty))) sub
   | _ => .no
  | .ptrR ty l k sub => p6B i (enc ty (l.getD k (d1A ty))) sub
  | _ => .no
def a6E (T : Tab) (t : TypeId) (a : AV) (f : Nat) : VR :=
 match x0A T t with
 | some (.st fs) => match f0C fs f with
  | some (o, ft) => match f6A ft T with
   | some fi => bif Nat.beq fi.size 0 then .no else match a with
    | .ptr id off => .val (.ptr id (off + o))
    | .ptrA id off n ty k sub => .val (.ptrA id off n ty k (sub + o))
    | .ptrO id k sub => .val (.ptrO id k (sub + o))
    | .ptrR ty l k sub => .val (.ptrR ty l k (sub + o))
    | _ => .no
   | none => .no
  | none => .no
 | _ => .no
def a7E (T : Tab) (t : TypeId) (x : AV) (f : Nat) : VR :=
 match x0A T t, x with
 | some (.st fs), .agg cs => match f0C fs f with
  | some (o, ft) => match f6A ft T with
   | some fi => p6B fi cs o
   | none => .no
  | none => .no
 | _, _ => .no
def x2A (T : Tab) (e : TypeId) (ty : Ty) : Bool :=
 match f6A e T with
 | some i => Nat.beq i.size (a0A ty)
 | none => false
def t8C (T : Tab) (S : St) (e : TypeId) (id : Nat) : Option Nat :=
 match a9A id S.objs with
 | some (.arr ty l) => bif x2A T e ty then some l.length else none
 | _ => none
def i5D : Option (Nat × Nat) → Nat → Nat
 | none, i => i
 | some p, i => p.1 + i
def a8E (T : Tab) (S : St) (t : TypeId) (x : AV) (ix : AV) : VR :=
 match x0A T t, x, ix with
 | some (.arr n e), .ptr id off, .int _ i => match f6A e T, a9A id S.objs with
  | some ei, some (.box cs) => match cut cs off (n * ei.size) with
   | some [.arr _ ty _] => bif Nat.beq ei.size (a0A ty) then .gval (a2A i n) (.ptrA id off n ty i.toNat 0) else .no
   | _ => .no
  | _, _ => .no
 | some (.sl e), .sl ty l, .int _ i => bif x2A T e ty then .gval (a2A i l.length) (.ptrR ty l i.toNat 0) else .no
 | some (.sl e), .oref id rg, .int _ i => match t8C T S e id with
  | some n => .gval (a2A i (j1A n rg)) (.ptrO id (i5D rg i.toNat) 0)
  | none => .no
 | some (.sl e), .bsl id off n ty lo len, .int _ i => bif x2A T e ty then .gval (a2A i len) (.ptrA id off n ty (i.toNat + lo) 0) else .no
 | _, _, _ => .no
def a9E (T : Tab) (t : TypeId) (x : AV) (ix : AV) : VR :=
 match x0A T t, x, ix with
 | some (.arr n e), .agg [.arr n' ty l], .int _ i => match f6A e T with
  | some ei => bif Nat.beq n' n && Nat.beq ei.size (a0A ty) then f4F (a2A i n) (v8B ei.td.isAgg (enc ty (l.getD i.toNat (d1A ty)))) else .no
  | none => .no
 | some .str, .str s, .int _ i => .gval (a2A i s.size) (.int .u8 ((s.data.getD i.toNat 0).toNat : Int))
 | _, _, _ => .no
def loB (S : St) : Option Operand → Option Int
 | none => some 0
 | some x => match ev S x with
  | .int _ i => some i
  | _ => none
def hiB (S : St) (len : Nat) : Option Operand → Option Int
 | none => some (len : Int)
 | some x => match ev S x with
  | .int _ i => some i
  | _ => none
def w0A (lo hi : Int) (len : Nat) : Bool := decide (0 ≤ lo) && decide (lo ≤ hi) && decide (hi ≤ (len : Int))
def b0E (T : Tab) (S : St) (t : TypeId) (x : AV) (lo hi : Option Operand) : VR :=
 match x0A T t, x with
 | some .str, .str s => match loB S lo, hiB S s.size hi with
  | some l, some h => .gval (w0A l h s.size) (.str (s.extract l.toNat h.toNat))
  | _, _ => .no
 | some (.sl e), .sl ty xs => match loB S lo, hiB S xs.length hi with
  | some l, some h => bif x2A T e ty then .gval (w0A l h xs.length) (.sl ty ((xs.take h.toNat).drop l.toNat)) else .no
  | _, _ => .no
 | some (.sl e), .oref id rg => match t8C T S e id with
  | some n => match loB S lo, hiB S (j1A n rg) hi with
   | some l, some h => .gval (w0A l h (j1A n rg)) (.oref id (some (i5D rg l.toNat, h.toNat - l.toNat)))
   | _, _ => .no
  | none => .no
 | some (.arr n e), .ptr id off => match a9A id S.objs, f6A e T with
  | some (.box cs), some ei => match cut cs off (n * ei.size) with
   | some [.arr n' ty _] => match loB S lo, hiB S n hi with
    | some l, some h => bif Nat.beq n' n && Nat.beq ei.size (a0A ty) then .gval (w0A l h n) (.bsl id off n ty l.toNat (h.toNat - l.toNat)) else .no
    | _, _ => .no
   | _ => .no
  | _, _ => .no
 | _, _ => .no
def b1E (T : Tab) (S : St) (t : TypeId) (x : AV) : VR :=
 match x0A T t, x with
 | some .str, .str s => .val (.int .i64 (s.size : Int))
 | some (.sl _), .sl _ l => .val (.int .i64 (l.length : Int))
 | some (.sl _), .nilsl => .val (.int .i64 0)
 | some (.sl _), .bsl _ _ _ _ _ len => .val (.int .i64 (len : Int))
 | some (.sl e), .oref id rg => match t8C T S e id with
  | some n => .val (.int .i64 (j1A n rg : Nat))
  | none => .no
 | some (.arr n _), _ => .val (.int .i64 (n : Int))
 | _, _ => .no
def t9C (mx : Bool) : AV → List AV → VR
 | x, [] => .val x
 | .int k a, .int k' b :: r => if k = k' then t9C mx (.int k (bif mx then (if a < b then b else a) else (if b < a then b else a))) r else .no
 | _, _ => .no
def i6D (place : Nat → Option (Nat × Nat)) (cs : List AV) : List (Nat × AV) → Option (List AV)
 | [] => some cs
 | (i, v) :: rest => match place i, p9A v with
  | some (off, size), some new => bif Nat.beq (b7B new) size then oB (v7B cs off new) fun cs => i6D place cs rest else none
  | _, _ => none
def b2E : (t : Ty) → AV → Option (den t)
 | .int k, .int k' n => if k' = k then some n else none
 | .bool, .bool b => some b
 | .str, .str s => some s
 | _, _ => none
def i7D (t : Ty) (l : List (den t)) : List (Nat × AV) → Option (List (den t))
 | [] => some l
 | (i, v) :: r => bif Nat.blt i l.length then (match b2E t v with
  | some x => i7D t (l.set i x) r
  | none => none) else none
def b3E (T : Tab) (t : TypeId) (parts : List (Nat × AV)) : VR :=
 match f6A t T with
 | some i => match i.td with
  | .st fs => w1B (oM (i6D (fun j => oB (f0C fs j) fun f => oM (f6A f.2 T) fun fi => (f.1, fi.size)) i.zc parts) .agg)
  | .arr n e => match i.zc with
   | [.arr n' ty l] => bif Nat.beq n' n && x2A T e ty then w1B (oM (i7D ty l parts) fun l => .agg [.arr n ty l]) else .no
   | _ => .no
  | _ => .no
 | none => .no
def z1A (l : List Int) : ByteArray := ⟨(l.map fun n => UInt8.ofNat n.toNat).toArray⟩
def p7B (T : Tab) (e : TypeId) : Bool :=
 match x0A T e with
 | some (.int .u8) => true
 | _ => false
def b4E (T : Tab) (S : St) (src dst : TypeId) (x : AV) : VR :=
 match f6A src T, f6A dst T with
 | some i, some j => match i.td, j.td, x with
  | _, .int k, .int _ n => .val (.int k (k.wrap n))
  | .str, .str, .str s => .val (.str s)
  | .sl e, .str, .sl (.int .u8) l => bif p7B T e then .val (.str (z1A l)) else .no
  | .sl e, .str, .nilsl => bif p7B T e then .val (.str (z1A [])) else .no
  | .sl e, .str, .oref id rg => match a9A id S.objs with
   | some (.arr (.int .u8) l) => bif p7B T e then .val (.str (z1A (j8A l rg))) else .no
   | _ => .no
  | _, _, _ => .no
 | _, _ => .no
def b5E (f : FuncId) (first caps : List AV) : VR := bif b9B first && b9B caps then .val (.func f first caps) else .no
def f2C (T : Tab) (t : TypeId) : Bool :=
 match x0A T t with
 | some .other => false
 | some _ => true
 | none => false
def b6E (T : Tab) (t : TypeId) (x : AV) : VR :=
 bif f2C T t then (match x with
  | .agg cs => bif b9B cs then .val (.iface t true cs) else .no
  | x => bif s6A x then .val (.iface t false [x]) else .no) else .no
def unI (ag : Bool) (cs : List AV) : AV :=
 match ag with
 | true => .agg cs
 | false => u8A cs
def b7E (T : Tab) (t : TypeId) : Option AV :=
 match f6A t T with
 | some i => v8B i.td.isAgg i.zc
 | none => none
def i8D (T : Tab) (t : TypeId) (ok : Bool) : VR :=
 match ok, b7E T t with
 | true, some z => .val (.tup [z, .bool false])
 | _, _ => .no
def b8E (T : Tab) (t : TypeId) (ok : Bool) (x : AV) : VR :=
 bif f2C T t then (match x with
  | .iface u ag cs => bif Nat.beq u t then (match ok with
    | true => .val (.tup [unI ag cs, .bool true])
    | false => .val (unI ag cs)) else i8D T t ok
  | .nili => i8D T t ok
  | _ => .no) else .no
def q8A (T : Tab) (S : St) (op : Op) : VR :=
 match op with
 | .move x => .val (ev S x)
 | .assign x => .val (ev S x)
 | .pick c a b => a5E (ev S c) (ev S a) (ev S b)
 | .build t parts => b3E T t (g8A S parts.toList)
 | .load t a => t7C T S t (ev S a)
 | .nilCheck x => match ev S x with
  | .ptr id off => .val (.ptr id off)
  | .ptrA id off n ty k sub => .val (.ptrA id off n ty k sub)
  | .ptrO id k sub => .val (.ptrO id k sub)
  | .ptrR ty l k sub => .val (.ptrR ty l k sub)
  | .func f a b => .val (.func f a b)
  | _ => .no
 | .binOp op t x y _ => a3E T t op (ev S x) (ev S y)
 | .unOp op _ x => unV op (ev S x)
 | .convert src dst x => b4E T S src dst (ev S x)
 | .makeFunc (.func f) first captured => b5E f (d3A (ev S) first.toList) (d3A (ev S) captured.toList)
 | .slice t x lo hi none => b0E T S t (ev S x) lo hi
 | .fieldAddr t x f => a6E T t (ev S x) f
 | .field t x f => a7E T t (ev S x) f
 | .indexAddr t x ix => a8E T S t (ev S x) (ev S ix)
 | .index t x ix => a9E T t (ev S x) (ev S ix)
 | .extract x ix => match ev S x with
  | .tup vs => w1B (a1E vs ix)
  | _ => .no
 | .call { callee := .builtin .len, args, argTypes } => match args.toList, argTypes.toList with
  | [x], [t] => b1E T S t (ev S x)
  | _, _ => .no
 | .call { callee := .builtin .min, args, .. } => match d3A (ev S) args.toList with
  | x :: r => t9C false x r
  | _ => .no
 | .call { callee := .builtin .max, args, .. } => match d3A (ev S) args.toList with
  | x :: r => t9C true x r
  | _ => .no
 | .makeInterface t x => b6E T t (ev S x)
 | .typeAssert x _ t ok => b8E T t ok (ev S x)
 | _ => .no
inductive HR where
 | no
 | done (v : AV) (objs : Objs)
 | guard (b : Bool) (v : AV) (objs : Objs)
def u0C (T : Tab) (S : St) (t : TypeId) (a v : AV) : HR :=
 match f6A t T with
 | none => .no
 | some i =>
  match a with
  | .ptr id off => match a9A id S.objs, p9A v with
   | some (.box cs), some new => bif Nat.beq (b7B new) i.size then (match v7B cs off new with
    | some cs => .done (.tup []) (f3A id (.box cs) S.objs)
    | none => .no) else .no
   | _, _ => .no
  | .ptrA id off n ty k sub => match a9A id S.objs, p9A v with
   | some (.box cs), some new => match w2B cs off n ty with
    | some l => bif Nat.beq (b7B new) i.size && ty.pure then (match oB (v7B (enc ty (l.getD k (d1A ty))) sub new) fun e => c0A ty e S.objs with
     | some (x, [], objs) => match v7B cs off [.arr n ty (l.set k x)] with
      | some cs => .done (.tup []) (f3A id (.box cs) objs)
      | none => .no
     | _ => .no) else .no
    | none => .no
   | _, _ => .no
  | .ptrO id k sub => match a9A id S.objs, p9A v with
   | some (.arr ty l), some new => bif Nat.beq (b7B new) i.size && ty.pure then (match oB (v7B (enc ty (l.getD k (d1A ty))) sub new) fun e => c0A ty e S.objs with
    | some (x, [], objs) => match a9A id objs with
     | some _ => .done (.tup []) (f3A id (.arr ty (l.set k x)) objs)
     | none => .no
    | _ => .no) else .no
   | _, _ => .no
  | _ => .no
def u1C (t : Ty) (objs : Objs) : AV → Option (List (den t))
 | .nilsl => some []
 | .sl t' l => v0A t' t l
 | .slv t' l => v0A t' t l
 | .oref id rg => match a9A id objs with
  | some (.arr t' l) => oM (v0A t' t l) fun l => j8A l rg
  | _ => none
 | .bsl id off n t' lo len => bif Nat.beq (a0A t') (a0A t) then (match a9A id objs with
  | some (.box cs) => oM (w2B cs off n t) fun l => (l.drop lo).take len
  | _ => none) else none
 | _ => none
def a3B (t : Ty) : List AV → Objs → Option (List (den t) × Objs)
 | [], objs => some ([], objs)
 | v :: vs, objs => match o8A t v objs with
  | some (x, objs) => match a3B t vs objs with
   | some (xs, objs) => some (x :: xs, objs)
   | none => none
  | none => none
def w3B : Nat → List (Nat × AV) → Bool
 | _, [] => true
 | n, (i, _) :: r => Nat.beq i n && w3B (n + 1) r
def f2A (bytes n : Nat) : Bool := decide (n * bytes ≤ 140737488355328)
def f3C (T : Tab) (t : TypeId) : Option (Ty × Nat) :=
 match x0A T t with
 | some (.sl e) => match f6A e T with
  | some i => match i.ty with
   | some ty => bif ty.pure && Nat.blt 0 i.bytes then some (ty, i.bytes) else none
   | none => none
  | none => none
 | _ => none
def i9D (T : Tab) (S : St) (id : Nat) (t : TypeId) (s x : AV) : HR :=
 match f3C T t with
 | some (ty, bytes) => match u1C ty S.objs x with
  | some ys => match s with
   | .nilsl => .guard (f2A bytes ys.length) (.oref id none) (f3A id (.arr ty ys) S.objs)
   | .oref j rg => match u1C ty S.objs (.oref j rg) with
    | some xs => .guard (f2A bytes (xs ++ ys).length) (.oref id none) (f3A id (.arr ty (xs ++ ys)) (n2A j S.objs))
    | none => .no
   | _ => .no
  | none => .no
 | none => .no
def j0D (T : Tab) (S : St) (id : Nat) (t : TypeId) (l c : AV) : HR :=
 match f3C T t with
 | some (ty, bytes) => match l, c with
  | .int .i64 n, .int .i64 m => .guard (decide (0 ≤ n) && decide (n ≤ m) && f2A bytes m.toNat) (.oref id none) (f3A id (.arr ty (List.replicate n.toNat (d1A ty))) S.objs)
  | _, _ => .no
 | none => .no
def p8B (T : Tab) (S : St) (id : Nat) (t : TypeId) (len : Nat) (ps : List (Nat × AV)) : HR :=
 match f3C T t with
 | some (ty, _) => bif w3B 0 ps && Nat.beq (w0B ps) len && Nat.ble (len * a0A ty) 16777216 && Nat.blt 0 (a0A ty) then (match a3B ty (d3A (·.2) ps) S.objs with
  | some (xs, objs) => .done (.oref id none) (f3A id (.arr ty xs) objs)
  | none => .no) else .no
 | none => .no
def m6A {α : Type} (l : List α) (off : Nat) (zs : List α) : List α := l.take off ++ (zs ++ l.drop (off + zs.length))
def b9E (T : Tab) (S : St) (t : TypeId) (d x : AV) : HR :=
 match f3C T t with
 | some (ty, _) => match u1C ty S.objs x, d with
  | some ys, .oref j rg => match a9A j S.objs with
   | some (.arr t' l) => match v0A t' ty l with
    | some l => .done (.int .i64 (((ys.take (j1A l.length rg)).length : Nat) : Int)) (f3A j (.arr ty (m6A l (f0A rg) (ys.take (j1A l.length rg)))) S.objs)
    | none => .no
   | _ => .no
  | some ys, .bsl id off n t' lo len => bif Nat.beq (a0A t') (a0A ty) then (match a9A id S.objs with
   | some (.box cs) => match w2B cs off n ty with
    | some l => match v7B cs off [.arr n ty (m6A l lo (ys.take len))] with
     | some cs' => .done (.int .i64 (((ys.take len).length : Nat) : Int)) (f3A id (.box cs') S.objs)
     | none => .no
    | none => .no
   | _ => .no) else .no
  | _, _ => .no
 | none => .no
def t8A (T : Tab) (S : St) (id : Nat) (op : Op) : HR :=
 match op with
 | .alloc t => match f6A t T with
  | some i => .done (.ptr id 0) (f3A id (.box i.zc) S.objs)
  | none => .no
 | .box _ x => match p9A (ev S x) with
  | some cs => .done (.ptr id 0) (f3A id (.box cs) S.objs)
  | none => .no
 | .store t a x => u0C T S t (ev S a) (ev S x)
 | .buildSlice t len parts => p8B T S id t len (g8A S parts.toList)
 | .makeSlice t l c => j0D T S id t (ev S l) (ev S c)
 | .call { callee := .builtin .append, args, argTypes } => match args.toList, argTypes.toList with
  | [s, x], [t, u] => bif Nat.beq t u then i9D T S id t (ev S s) (ev S x) else .no
  | _, _ => .no
 | .call { callee := .builtin .copy, args, argTypes } => match args.toList, argTypes.toList with
  | [d, x], [t, _] => b9E T S t (ev S d) (ev S x)
  | _, _ => .no
 | _ => .no
end Go.Rx
namespace Go.Rx
inductive Item where
 | slot (s : Nat) (agg : Bool) (t : Ty)     -- a slot's value, by its type
 | keep (s s0 : Nat)               -- a slot's value: what was in a slot at first
 | obj (s : Nat) (t : Ty)          -- the cells of the box that a slot leads to
 | nbox (s : Nat) (t : Ty)         -- a slot that leads to a box, and the box's cells: behind the join it is a new one
abbrev g4B := List Item
@[reducible] def PT : g4B → Type
 | [] => Unit
 | .slot _ _ t :: r => den t × PT r
 | .keep _ _ :: r => PT r
 | .obj _ t :: r => den t × PT r
 | .nbox _ t :: r => den t × PT r
mutual
def j2A (n : Nat) : AV → AV → Bool
  | .ptr a b, .ptr a' b' => Nat.beq a a' && Nat.beq b b' && Nat.blt a n
  | .func f a b, .func f' a' b' => Nat.beq f f' && w4B n a a' && w4B n b b'
  | .nilp, .nilp => true
  | .nilf, .nilf => true
  | .nilsl, .nilsl => true
  | .nilm, .nilm => true
  | .nili, .nili => true
  | _, _ => false
def w4B (n : Nat) : List AV → List AV → Bool
  | [], [] => true
  | a :: r, b :: s => j2A n a b && w4B n r s
  | _, _ => false
end
def x3A (agg : Bool) : AV → Bool
 | .agg _ => agg
 | _ => !agg
def s7A (t : Bool × Ty) (v : AV) (objs : Objs) : Option (den t.2 × Objs) := bif t.2.okp && x3A t.1 v && (t.1 || t.2.scalar) then o8A t.2 v objs else none
def f5F : AV → Option Nat
 | .ptr id _ => some id
 | _ => none
def c0E (base : St) (s : Nat) : Option Nat :=
 bif Nat.blt s 1000 then f5F (b9A base.tmps s) else
 match b9A base.tmps (s % 1000) with
 | .func _ first caps => f5F (b9A (i2A first caps) (s / 1000 - 1))
 | _ => none
def k7A (base : St) (tmps : List AV) : (sp : g4B) → Objs → Option (PT sp)
 | [], _ => some ()
 | .slot s agg t :: r, objs => match s7A (agg, t) (b9A tmps s) objs with
  | some (x, objs) => match k7A base tmps r objs with
   | some y => some (x, y)
   | none => none
  | none => none
 | .keep s s0 :: r, objs => bif j2A base.next (b9A base.tmps s0) (b9A tmps s) then k7A base tmps r objs else none
 | .nbox s t :: r, objs => match b9A tmps s with
  | .ptr id 0 => match a9A id objs with
   | some (.box cs) => match (bif t.okp then c0A t cs (n2A id objs) else none) with
    | some (x, [], objs) => match k7A base tmps r objs with
     | some y => some (x, y)
     | none => none
    | _ => none
   | _ => none
  | _ => none
 | .obj s t :: r, objs => match c0E base s with
  | none => none
  | some id => match a9A id objs with
   | some (.box cs) => match (bif Nat.blt id base.next && t.okp then c0A t cs (n2A id objs) else none) with
    | some (x, [], objs) => match k7A base tmps r objs with
     | some y => some (x, y)
     | none => none
    | _ => none
   | _ => none
def i7A (base : St) : (sp : g4B) → PT sp → St → St
 | [], _, S => S
 | .slot s agg t :: r, p, S =>
  let (cs, m) := c4A t p.1 ⟨S.objs, S.next⟩
  i7A base r p.2 { tmps := f8A S.tmps s (if agg then .agg cs else u8A cs), objs := m.objs, next := m.next }
 | .keep s s0 :: r, p, S => i7A base r p { S with tmps := f8A S.tmps s (b9A base.tmps s0) }
 | .nbox s t :: r, p, S =>
  let (cs, m) := c4A t p.1 ⟨S.objs, S.next⟩
  i7A base r p.2 { tmps := f8A S.tmps s (.ptr m.next 0), objs := f3A m.next (.box cs) m.objs, next := m.next + 1 }
 | .obj s t :: r, p, S => match c0E base s with
  | none => S
  | some id =>
   let (cs, m) := c4A t p.1 ⟨S.objs, S.next⟩
   i7A base r p.2 { S with objs := f3A id (.box cs) m.objs, next := m.next }
def j9A (base : St) : St := { tmps := d3A (fun _ => .top) base.tmps, objs := [], next := base.next }
inductive Ex where
 | normal | exit (id : Nat) | ret
 deriving DecidableEq
abbrev v1A := List (Ex × g4B)
@[reducible] def JT : v1A → Type
 | [] => Empty
 | [e] => PT e.2
 | e :: e' :: r => PT e.2 ⊕ JT (e' :: r)
def x4A (base : St) : (ex : v1A) → Ex → St → Option (JT ex)
 | [], _, _ => none
 | [e], x, S => if e.1 = x then k7A base S.tmps e.2 S.objs else none
 | e :: e' :: r, x, S => if e.1 = x then oM (k7A base S.tmps e.2 S.objs) Sum.inl else oM (x4A base (e' :: r) x S) Sum.inr
def g5B {R : Type} (base : St) : (ex : v1A) → JT ex → (Ex → St → Option R) → Option R
 | [], j, _ => nomatch j
 | [e], j, K => K e.1 (i7A base e.2 j (j9A base))
 | e :: e' :: r, j, K => match j with
  | .inl p => K e.1 (i7A base e.2 p (j9A base))
  | .inr j => g5B base (e' :: r) j K
inductive Ann where
 | no
 | seq (a b : Ann)
 | cond (a b : Ann)
 | blk (a : Ann)
 | loop (sp : g4B) (ex : v1A) (a : Ann)
 | roll (n : Nat) (a : Ann)
 | join (ex : v1A) (a : Ann)
 | draw (pi : List Nat)
def Ann.ex : Ann → Option v1A
 | .join ex _ => some ex
 | _ => none
def Ann.inner : Ann → Ann
 | .join _ a => a
 | a => a
def Ann.left : Ann → Ann
 | .seq a _ => a
 | .cond a _ => a
 | .blk a => a
 | _ => .no
def Ann.right : Ann → Ann
 | .seq _ b => b
 | .cond _ b => b
 | _ => .no
def m7A {X R : Type} (f : X → Option (X ⊕ R)) : Nat → X → Option R
 | 0, _ => none
 | n + 1, x => match f x with
  | some (.inl y) => m7A f n y
  | some (.inr r) => some r
  | none => none
open Classical in
noncomputable def a1A {X R : Type} (f : X → Option (X ⊕ R)) (x : X) : Option R :=
 if h : ∃ n r, m7A f n x = some r then some (Classical.choose (Classical.choose_spec h)) else none
def w7A {α β : Type} (F : (α → Option β) → α → Option β) : Nat → α → Option β
 | 0 => fun _ => none
 | n + 1 => F (w7A F n)
open Classical in
noncomputable def r6B {α β : Type} (F : (α → Option β) → α → Option β) (x : α) : Option β :=
 if h : ∃ n y, w7A F n x = some y then some (Classical.choose (Classical.choose_spec h)) else none
@[reducible] def f5A : List (Bool × Ty) → Type
 | [] => Unit
 | [t] => den t.2
 | t :: t' :: r => den t.2 × f5A (t' :: r)
inductive v2A where
  | sem (ins outs : List (Bool × Ty)) (fn : f5A ins → Option (f5A outs))
  | inl (fn : Func) (body : Code) (ann : Ann)
  | back (n : Nat)
    | ext (fn : List AV → Option AV)
def Ty.flat : Ty → Bool
 | .int _ | .bool | .str | .unit => true
 | .sl _ | .own _ => false
 | .pair a b => a.flat && b.flat
 | .arr _ t => t.flat
def m2A : (l : List (Bool × Ty)) → List AV → Objs → Option (f5A l × Objs)
 | [], vs, objs => match vs with
  | [] => some ((), objs)
  | _ :: _ => none
 | [t], vs, objs => match vs with
  | [v] => s7A t v objs
  | _ => none
 | t :: t' :: r, vs, objs => match vs with
  | v :: vs => match s7A t v objs with
   | some (x, objs1) => match m2A (t' :: r) vs objs1 with
    | some (y, objs) => some ((x, y), objs)
    | none => none
   | none => none
  | [] => none
def f4C (t : Bool × Ty) (v : AV) (objs : Objs) : Option (den t.2) :=
 match t, v with
 | (false, .sl ty), .bsl id off n ty' lo len => bif Nat.beq (a0A ty') (a0A ty) then (match a9A id objs with
  | some (.box cs) => match w2B cs off n ty with
   | some l => some ((l.drop lo).take len)
   | none => none
  | _ => none) else none
 | t, v => match s7A t v objs with
  | some (x, _) => some x
  | none => none
def f5C (objs : Objs) : (l : List (Bool × Ty)) → List AV → Option (f5A l)
 | [], vs => match vs with
  | [] => some ()
  | _ :: _ => none
 | [t], vs => match vs with
  | [v] => f4C t v objs
  | _ => none
 | t :: t' :: r, vs => match vs with
  | v :: vs => match f4C t v objs with
   | some x => match f5C objs (t' :: r) vs with
    | some y => some (x, y)
    | none => none
   | none => none
  | [] => none
def g6B : List (Bool × Ty) → Bool
 | [] => true
 | t :: l => t.2.flat && g6B l
def v3A : List (Bool × Ty) → Bool
 | [] => true
 | t :: l => t.2.pure && v3A l
def k2A (t : Bool × Ty) (x : den t.2) (m : Mem) : AV × Mem :=
 (if t.1 then .agg (c4A t.2 x m).1 else u8A (c4A t.2 x m).1, (c4A t.2 x m).2)
def m3A : (l : List (Bool × Ty)) → f5A l → Mem → List AV × Mem
 | [], _, m => ([], m)
 | [t], x, m => ([(k2A t x m).1], (k2A t x m).2)
 | t :: t' :: r, x, m => ((k2A t x.1 m).1 :: (m3A (t' :: r) x.2 (k2A t x.1 m).2).1, (m3A (t' :: r) x.2 (k2A t x.1 m).2).2)
def u2C : List AV → AV
 | [v] => v
 | vs => .tup vs
def g7B (l : List (Bool × Ty)) (x : f5A l) (m : Mem) : AV × Mem := (u2C (m3A l x m).1, (m3A l x m).2)
def x5A (S : St) : List ResultVar → Tab → Option (List AV)
 | [], _ => some []
 | .tmp t :: r, T => match b9A S.tmps t with
  | .tup _ => none
  | v => oM (x5A S r T) (v :: ·)
 | .cell a t :: r, T => match t7C T S t (b9A S.tmps a) with
  | .val v => oM (x5A S r T) (v :: ·)
  | _ => none
structure Handler where
 run : ∀ {R : Type}, FuncId → List AV → St → (AV → St → Option R) → Option R
 lends : FuncId → Bool
 calm : FuncId → Objs → List Nat → Option (List Nat)
 back : FuncId → Option Nat
 ext : FuncId → Bool
section
variable (T : Tab) (H : Handler)
def f6C : List Oper → Nat → Option Nat
 | [], _ => none
 | o :: l, i => match i with
  | 0 => o.dst
  | i + 1 => f6C l i
inductive Gd where
 | run
 | skip
 | test (d : Nat) (b want : Bool)
 | no
def a4B (ops : Array Oper) (S : St) (o : Oper) : Gd :=
 match o.guard with
 | none => .run
 | some (j, want) => match f6C ops.toList j with
  | none => .no
  | some d => match b9A S.tmps d with
   | .bool b => .test d b want
   | .tup _ => .skip
   | _ => .no
def c0B (S : St) : Op → Option (FuncId × List AV)
 | .call { callee := .value f, args, .. } => match ev S f with
  | .func f first caps => some (f, i2A first (i2A (d3A (ev S) args.toList) caps))
  | _ => none
 | _ => none
def opV {R : Type} (op : Op) (S : St) (K : AV → Objs → Nat → Option R) : Option R :=
 match c0B S op with
 | some (f, args) => H.run f args ⟨[], S.objs, S.next⟩ fun v S' => K v S'.objs S'.next
 | none => match q8A T S op with
  | .val v => K v S.objs S.next
  | .gval b v => bif b then K v S.objs S.next else none
  | .no => match t8A T S S.next op with
   | .done v objs => K v objs (S.next + 1)
   | .guard b v objs => bif b then K v objs (S.next + 1) else none
   | .no => none
def St.step (S : St) (d : Option Nat) (v : AV) (objs : Objs) (next : Nat) : St := ({ tmps := S.tmps, objs := objs, next := next } : St).put d v
def opK {R : Type} (o : Oper) (S : St) (K : St → Option R) : Option R :=
 opV T H o.op S fun v objs next => K (S.step o.dst v objs next)
def r4A {R : Type} (ops : Array Oper) : List Oper → St → (St → Option R) → Option R
 | [], S, K => K S
 | o :: rest, S, K => match a4B ops S o with
  | .no => none
  | .run => opK T H o S fun S => r4A ops rest S K
  | .skip => r4A ops rest (S.put o.dst (.tup [])) K
  | .test d b want => match want with
   | true => bif b then opK T H o (S.put (some d) (.bool true)) (fun S => r4A ops rest S K)
     else r4A ops rest ((S.put (some d) (.bool false)).put o.dst (.tup [])) K
   | false => bif b then r4A ops rest ((S.put (some d) (.bool true)).put o.dst (.tup [])) K
     else opK T H o (S.put (some d) (.bool false)) (fun S => r4A ops rest S K)
def tmO : Operand → List Nat
 | .tmp t => [t]
 | _ => []
def tmL : List Operand → List Nat
 | [] => []
 | x :: l => match x with
  | .tmp t => t :: tmL l
  | _ => tmL l
def tmP : List (Nat × Operand) → List Nat
 | [] => []
 | x :: l => match x.2 with
  | .tmp t => t :: tmP l
  | _ => tmP l
def x6A : Op → List Nat
 | .move x | .assign x | .box _ x | .load _ x | .nilCheck x | .unOp _ _ x | .convert _ _ x | .fieldAddr _ x _ | .field _ x _ | .extract x _
 | .sliceToArrayPointer _ x | .makeInterface _ x | .range _ x | .next x _ | .entry x | .typeAssert x _ _ _ => tmO x
 | .pick c a b => tmL [c, a, b]
 | .build _ ps | .buildSlice _ _ ps => tmP ps.toList
 | .store _ a v | .binOp _ _ a v _ | .makeSlice _ a v | .indexAddr _ a v | .index _ a v | .lookup _ a v _ | .mapEntry _ a v => tmL [a, v]
 | .mapUpdate _ m k v | .entryStore _ m k v | .insert _ m k v => tmL [m, k, v]
 | .makeMap _ (some x) => tmO x
 | .makeFunc _ a b => tmL (a.toList ++ b.toList)
 | .slice _ x l h m => tmL (x :: (l.toList ++ h.toList ++ m.toList))
 | .call { callee := .value f, args, .. } => tmL (f :: args.toList)
 | .call { args, .. } => tmL args.toList
 | _ => []
def memN (i : Nat) : List Nat → Bool
 | [] => false
 | j :: l => Nat.beq j i || memN i l
def x7A (ts : List Nat) : Nat → List AV → List AV
 | _, [] => []
 | i, a :: l => (bif memN i ts then a else .top) :: x7A ts (i + 1) l
def e9A : Op → Bool
 | .alloc _ | .box .. | .store .. | .buildSlice .. | .makeSlice .. | .mapUpdate .. | .makeMap .. | .entryStore .. | .insert .. | .next .. => true
 | .call { callee := .builtin .len, .. } | .call { callee := .builtin .min, .. } | .call { callee := .builtin .max, .. } => false
 | .call _ => true
 | _ => false
def f6F : Op → Bool
 | .alloc _ => true
 | .buildSlice .. => true
 | _ => false
def v4A (T : Tab) (S : St) (op : Op) : Option (Bool × OC) :=
 match op with
 | .alloc t => oM (f6A t T) fun i => (true, .box i.zc)
 | .buildSlice t len ps => match p8B T ⟨S.tmps, [], 0⟩ 0 t len (g8A S ps.toList) with
  | .done _ objs => match a9A 0 objs with
   | some (.arr t (x :: l)) => some (false, .arr t (x :: l))
   | _ => none
  | _ => none
 | _ => none
def v5A (T : Tab) (S : St) (o : Oper) : Bool := f6F o.op && o.guard.isNone && o.dst.isSome && (v4A T S o.op).isSome
def v2G : Op → Bool
 | .move _ | .assign _ | .pick .. | .build .. | .nilCheck _ | .binOp .. | .unOp .. | .makeFunc .. | .fieldAddr .. | .field .. | .extract .. => false
 | _ => true
def v3G : AV → List Nat
 | .oref id _ | .ptr id _ | .ptrA id _ _ _ _ _ | .ptrO id _ _ | .bsl id _ _ _ _ _ | .mapr id => [id]
 | _ => []
def f7F (tmps : List AV) : List Nat → List Nat
 | [] => []
 | t :: l => v3G (b9A tmps t) ++ f7F tmps l
def p9B (S : St) (op : Op) : List Nat := bif v2G op then f7F S.tmps (x6A op) else []
def c1B (objs : Objs) : List Nat → Objs
 | [] => []
 | id :: r => match a9A id objs with
  | some oc => (id, oc) :: c1B objs r
  | none => c1B objs r
def k8A (S : St) (o : Oper) : St := ⟨x7A (x6A o.op) 0 S.tmps, S.objs, S.next⟩
def j1D (S : St) (o : Oper) : St := ⟨x7A (x6A o.op) 0 S.tmps, c1B S.objs (p9B S o.op), S.next⟩
def h9A : AV → List Nat
 | .oref id _ | .ptr id _ | .ptrA id _ _ _ _ _ | .ptrO id _ _ | .bsl id _ _ _ _ _ | .mapr id => [id]
 | .func _ a b => idsVs a ++ idsVs b
 | .agg cs => idsVs cs
 | .tup vs => idsVs vs
 | .iface _ _ cs => idsVs cs
 | _ => []
where idsVs : List AV → List Nat
 | [] => []
 | v :: l => h9A v ++ idsVs l
def j2D : List (Nat × AV) → List Nat
 | [] => []
 | p :: l => h9A p.2 ++ j2D l
def l0B (S : St) : Op → Option (List Nat × Nat)
 | .alloc _ | .box .. | .makeSlice .. => some ([], S.next)
 | .buildSlice _ _ ps => some (j2D (g8A S ps.toList), S.next)
 | .store _ a _ => match ev S a with
  | .ptr id _ => some ([id], S.next)
  | _ => none
 | .call { callee := .value f, args, .. } => match ev S f with
  | .func g first caps => match H.calm g S.objs (h9A.idsVs (i2A first (i2A (d3A (ev S) args.toList) caps))) with
   | some l => some (l, S.next)
   | none => none
  | _ => none
 | .call { callee := .builtin .append, args, .. } => match args.toList with
  | [s, _] => match ev S s with
   | .nilsl => some ([], S.next)
   | .oref j _ => some ([j], S.next)
   | _ => none
  | _ => none
 | _ => none
def f7C : List Oper → Nat → Option Oper
 | [], _ => none
 | o :: l, i => match i with
  | 0 => some o
  | i + 1 => f7C l i
def nthN : List Nat → Nat → Nat
 | [], _ => 0
 | o :: l, i => match i with
  | 0 => o
  | i + 1 => nthN l i
def ancE (acc : List Nat) : List Edge → Nat
 | [] => 0
 | e :: l => bif Region.binds .any e then (2 ^ e.on ||| nthN acc e.on) ||| ancE acc l else ancE acc l
def a5B : List Oper → List Nat → List Nat
 | [], acc => acc
 | o :: l, acc => a5B l (acc ++ [ancE acc o.after.toList])
def j3D (i : Nat) : List Edge → Bool
 | [] => true
 | e :: l => (!Region.binds .any e || Nat.blt e.on i) && j3D i l
def j4D : Nat → List Oper → Bool
 | _, [] => true
 | i, o :: l => j3D i o.after.toList && j4D (i + 1) l
def dstIn (d : Nat) : List Oper → Bool
 | [] => false
 | o :: l => (match o.dst with
  | some t => Nat.beq t d
  | none => false) || dstIn d l
def j5D : List Oper → Bool
 | [] => true
 | o :: l => (match o.dst with
  | some t => !dstIn t l
  | none => true) && j5D l
def q0B (d : Nat) : Nat → List Oper → Option Nat
 | _, [] => none
 | i, o :: l => match o.dst with
  | some t => bif Nat.beq t d then some i else q0B d (i + 1) l
  | none => q0B d (i + 1) l
def j6D (pi : List Nat) : Nat → Bool
 | 0 => true
 | n + 1 => memN n pi && j6D pi n
def f8C (ops : List Oper) (pi : List Nat) : Bool := j5D ops && j4D 0 ops && j6D pi ops.length
structure Ent where
 j : Nat
 chain : Bool
 alloc : Bool
 fp : Option (List Nat × Nat)
 anc : Nat
 prev : Nat
def o9A (an : List Nat) (prev j : Nat) (o : Oper) (S : St) : Ent :=
 ⟨j, e9A o.op, v5A T S o, bif e9A o.op then l0B H S o.op else some (p9B S o.op, 0), nthN an j, prev⟩
def j7D : List Nat → List Nat → Bool
 | [], _ => true
 | a :: l, m => !memN a m && j7D l m
def j8D (n : Nat) : List Nat → Bool
 | [] => true
 | a :: l => Nat.blt a n && j8D n l
def f9C : Option (List Nat × Nat) → Option (List Nat × Nat) → Bool
 | some l, some m => j7D l.1 m.1 && j8D m.2 l.1
 | some l, none => match l.1 with
  | [] => true
  | _ => false
 | _, _ => false
def u3C (e f : Ent) : Bool :=
  !Nat.beq e.j f.j &&
  (Nat.testBit f.anc e.j ||
    (match e.chain, f.chain with
     | true, true => f.alloc
     | false, false => true
     | false, true => f9C e.fp f.fp
     | true, false => f9C f.fp e.fp)) &&
  (!(e.alloc && Nat.testBit f.anc e.j) || Nat.beq (e.prev &&& f.anc) e.prev)
def j9D (f : Ent) : List Ent → Bool
 | [] => true
 | e :: l => u3C e f && j9D f l
def inLog (i : Nat) : List Ent → Bool
 | [] => false
 | e :: l => Nat.beq e.j i || inLog i l
def f8F (ops : List Oper) (an : List Nat) (j anc : Nat) (log : List Ent) (t : Nat) : Bool :=
 match q0B t 0 ops with
 | none => true
 | some i => bif inLog i log then Nat.testBit anc i else Nat.beq i j || Nat.testBit (nthN an i) j
def u4C (ops : List Oper) (an : List Nat) (j anc : Nat) (log : List Ent) : List Nat → Bool
 | [] => true
 | t :: l => f8F ops an j anc log t && u4C ops an j anc log l
def g0C (ops : List Oper) (o : Oper) : List Nat :=
 match o.guard with
 | none => []
 | some (g, _) => match f6C ops g with
  | some d => [d]
  | none => []
def c1E (ops : List Oper) (an : List Nat) (o : Oper) (f : Ent) (log : List Ent) : Bool :=
 j9D f log && u4C ops an f.j f.anc log (x6A o.op) && u4C ops an f.j f.anc log (g0C ops o)
def c2B {R : Type} (o : Oper) (S : St) (K : St → Option R) : Option R :=
 bif e9A o.op then opV T H o.op (k8A S o) fun v objs next => K (S.step o.dst v objs next)
 else match q8A T (j1D S o) o.op with
  | .val v => K (S.step o.dst v S.objs S.next)
  | .gval b v => bif b then K (S.step o.dst v S.objs S.next) else none
  | .no => none
def r5A {R : Type} (ops : Array Oper) (an : List Nat) : List Nat → List Ent → Nat → St → (St → Option R) → Option R
 | [], _, _, S, K => K S
 | j :: rest, log, prev, S, K => match f7C ops.toList j with
  | none => none
  | some o => bif c1E ops.toList an o (o9A T H an prev j o S) log then
    (match a4B ops S o with
    | .no => none
    | .run => c2B T H o S fun S' => r5A ops an rest (o9A T H an prev j o S :: log) (bif e9A o.op then prev ||| 2 ^ j else prev) S' K
    | .skip => r5A ops an rest (o9A T H an prev j o S :: log) (bif e9A o.op then prev ||| 2 ^ j else prev) (S.step o.dst (.tup []) S.objs S.next) K
    | .test d b want => match want with
     | true => bif b then c2B T H o (S.put (some d) (.bool true)) fun S' => r5A ops an rest (o9A T H an prev j o S :: log) (bif e9A o.op then prev ||| 2 ^ j else prev) S' K
       else r5A ops an rest (o9A T H an prev j o S :: log) (bif e9A o.op then prev ||| 2 ^ j else prev) ((S.put (some d) (.bool false)).step o.dst (.tup []) S.objs S.next) K
     | false => bif b then r5A ops an rest (o9A T H an prev j o S :: log) (bif e9A o.op then prev ||| 2 ^ j else prev) ((S.put (some d) (.bool true)).step o.dst (.tup []) S.objs S.next) K
       else c2B T H o (S.put (some d) (.bool false)) fun S' => r5A ops an rest (o9A T H an prev j o S :: log) (bif e9A o.op then prev ||| 2 ^ j else prev) S' K)
   else none
def g1C {R : Type} (ops : Array Oper) (pi : List Nat) (S : St) (K : St → Option R) : Option R :=
 bif f8C ops.toList pi then r5A T H ops (a5B ops.toList []) pi [] 0 S K else none
def c2E (S : St) (c : Operand) (b : Bool) : St :=
 match c with
 | .tmp t => S.put (some t) (.bool b)
 | _ => S
def w5B {R : Type} (body : St → (Ex → St → Option R) → Option R) (K : Ex → St → Option R) : Nat → St → Option R
 | 0, _ => none
 | n + 1, S => body S fun x S => match x with
  | .normal => w5B body K n S
  | x => K x S
def s8A {R : Type} (ex : Option v1A) (S : St) (K : Ex → St → Option R) (run : ∀ {R' : Type}, (Ex → St → Option R') → Option R') : Option R :=
 match ex with
 | none => run K
 | some ex => (run fun x S' => x4A S ex x S').bind fun j => g5B S ex j K
def g8B : Code → Bool
 | .seq a b => g8B a && g8B b
 | .cond _ a b => g8B a && g8B b
 | .block _ a => g8B a
 | .loop a => g8B a
 | .scope a => g8B a
 | .rangeFunc .. => false
 | _ => true
structure Bk where
 sid : Nat
 bid : Nat
 n : Nat
def k0D (S : St) (v : AV) : Option Bk :=
 match v with
 | .func f [] [.ptr sid 0] => match H.back f with
  | some n => match a9A sid S.objs with
   | some (.box [.bsl bid 0 n' (.int .i64) 0 len]) => bif Nat.beq n' n && Nat.beq len n && !Nat.beq bid sid then some ⟨sid, bid, n⟩ else none
   | _ => none
  | none => none
 | _ => none
def u5C (S : St) (b : Bk) (i : Nat) : Option AV :=
 match a9A b.bid S.objs with
 | some (.box [.arr n (.int .i64) l]) => bif Nat.beq n b.n then some (.int .i64 (l.getD i 0)) else none
 | _ => none
def w1A {X R : Type} (f : Nat → X → Option (X ⊕ R)) : Nat → X → Option (X ⊕ R)
 | 0, x => some (.inl x)
 | n + 1, x => match f n x with
  | some (.inl y) => w1A f n y
  | some (.inr r) => some (.inr r)
  | none => none
def g2C (tmps : List AV) : List Nat → List AV → List AV
 | p :: ps, v :: vs => g2C (f8A tmps p v) ps vs
 | _, _ => tmps
def St.tm (S : St) (tmps : List AV) : St := { S with tmps := tmps }
def g3C {R : Type} (S : St) (bk : Bk) (ps : List Nat) (sp : g4B) (ex : v1A) (as bo : ∀ {R' : Type}, St → (Ex → St → Option R') → Option R') (K : Ex → St → Option R) : Option R :=
 oB (k7A S S.tmps sp S.objs) fun p => (w1A (fun i p => oB (u5C (i7A S sp p (j9A S)) bk i) fun v =>
   as ((i7A S sp p (j9A S)).tm (g2C S.tmps ps [.int .i64 (i : Int), v])) fun e S1 => match e with
    | .normal => bo S1 fun e S' => match e with
     | .normal => oM (k7A S S'.tmps sp S'.objs) Sum.inl
     | e => oM (x4A S ex e S') Sum.inr
    | _ => none) bk.n p).bind fun r => match r with
  | .inl p => K .normal ((i7A S sp p (j9A S)).tm S.tmps)
  | .inr j => g5B S ex j fun e S' => K e (S'.tm S.tmps)
noncomputable def e5A : Code → Ann → {R : Type} → St → (Ex → St → Option R) → Option R
 | .skip, a, _, S, K => s8A a.ex S K fun K => K .normal S
 | .label _, a, _, S, K => s8A a.ex S K fun K => K .normal S
 | .exit id, a, _, S, K => s8A a.ex S K fun K => K (.exit id) S
 | .ret, a, _, S, K => s8A a.ex S K fun K => K .ret S
 | .region _ ops draw, a, _, S, K => s8A a.ex S K fun K => match draw with
  | false => r4A T H ops ops.toList S (K .normal)
  | true => match a.inner with
   | .draw pi => g1C T H ops pi S (K .normal)
   | _ => none
 | .seq x y, a, _, S, K => s8A a.ex S K fun K => e5A x a.inner.left S fun e S => match e with
  | .normal => e5A y a.inner.right S K
  | e => K e S
 | .cond c x y, a, _, S, K => s8A a.ex S K fun K => match ev S c with
  | .bool b => bif b then e5A x a.inner.left (c2E S c true) K else e5A y a.inner.right (c2E S c false) K
  | _ => none
 | .block id c, a, _, S, K => s8A a.ex S K fun K => e5A c a.inner.left S fun e S => match e with
  | .exit id' => bif Nat.beq id' id then K .normal S else K (.exit id') S
  | e => K e S
 | .loop c, a, _, S, K => s8A a.ex S K fun K => match a.inner with
  | .loop sp ex a => oB (k7A S S.tmps sp S.objs) fun p => (a1A (fun p => e5A c a (i7A S sp p (j9A S)) fun e S' => match e with
    | .normal => oM (k7A S S'.tmps sp S'.objs) Sum.inl
    | e => oM (x4A S ex e S') Sum.inr) p).bind fun j => g5B S ex j K
  | .roll n a => w5B (fun S K => e5A c a S K) K n S
  | _ => none
 | .scope c, a, _, S, K => s8A a.ex S K fun K => e5A c a.inner.left S K
 | .rangeFunc g ps x y, a, _, S, K => s8A a.ex S K fun K => match a.inner with
  | .loop sp ex b => bif g8B x && g8B y && Nat.beq ps.size 2 then oB (k0D H S (ev S g)) fun bk =>
    g3C { S with objs := n2A bk.sid S.objs } bk ps.toList sp ex (fun S K => e5A x .no S K) (fun S K => e5A y b S K) K
   else none
  | _ => none
 | .goto _, _, _, _, _ => none
 | .refuse _, _, _, _, _ => none
end
def g9B (f : FuncId) : List (Nat × v2A) → Option v2A
 | [] => none
 | (j, c) :: r => bif Nat.beq j f then some c else g9B f r
def c3E (objs : Objs) : List Nat → List Nat
 | [] => []
 | id :: l => match a9A id objs with
  | some (.box cs) => h9A.idsVs cs ++ c3E objs l
  | _ => c3E objs l
def w6B (objs : Objs) : Nat → List Nat → List Nat
 | 0, _ => []
 | n + 1, ids => match ids with
  | [] => []
  | ids => ids ++ w6B objs n (c3E objs ids)
def inO (ids : List Nat) : Objs → Objs
 | [] => []
 | p :: l => bif memN p.1 ids then p :: inO ids l else inO ids l
def v6A (ids : List Nat) : Objs → Objs
 | [] => []
 | p :: l => bif memN p.1 ids then v6A ids l else p :: v6A ids l
def h0B (ids : List Nat) (n : Nat) : Objs → Objs
 | [] => []
 | p :: l => bif memN p.1 ids || Nat.ble n p.1 then p :: h0B ids n l else h0B ids n l
def h1B : Objs → Objs → Objs
 | [], m => m
 | p :: l, m => f3A p.1 p.2 (h1B l m)
noncomputable def r6A (T : Tab) (E : List (Nat × v2A)) : Nat → Handler
 | 0 => ⟨fun _ _ _ _ => none, fun _ => false, fun _ _ _ => none, fun _ => none, fun _ => false⟩
 | n + 1 => ⟨fun f args S K => match g9B f E with
  | none => none
  | some (.back ..) => none
  | some (.ext fn) => (match fn args with
   | some v => K v S
   | none => none)
  | some (.sem ins outs fn) => bif g6B outs && v3A ins then (match f5C S.objs ins args with
    | some x => (fn x).bind fun y => match g7B outs y ⟨S.objs, S.next⟩ with
     | (v, m) => K v { S with objs := m.objs, next := m.next }
    | none => none)
   else (match m2A ins args S.objs with
    | some (x, objs) => (fn x).bind fun y => match g7B outs y ⟨objs, S.next⟩ with
     | (v, m) => K v { S with objs := m.objs, next := m.next }
    | none => none)
  | some (.inl fn body ann) => e5A T (r6A T E n) body ann ⟨i2A args (u9A (.tup []) (fn.ntmps - g2B args)), inO (w6B S.objs 6 (h9A.idsVs args)) S.objs, S.next⟩ fun e S' => match e with
   | .exit _ => none
   | _ => match x5A S' fn.results.toList T with
    | some vs => K (u2C vs) { S with objs := h1B (v6A (w6B S.objs 6 (h9A.idsVs args)) S.objs) (h0B (w6B S.objs 6 (h9A.idsVs args)) S.next S'.objs), next := S'.next }
    | none => none,
  fun f => match g9B f E with
   | some (.sem ins outs _) => g6B outs && v3A ins
   | some (.ext _) => true
   | _ => false,
  fun f objs ids => match g9B f E with
   | some (.sem ..) => some ids
   | some (.inl ..) => some (w6B objs 6 ids)
   | some (.ext _) => some ids
   | _ => none,
  fun f => match g9B f E with
   | some (.back n) => some n
   | _ => none,
  fun f => match g9B f E with
   | some (.ext _) => true
   | _ => false⟩
def p0D : List AV → Option AV
 | [.int .u64 x, .int .u64 y, .int .u64 c] => bif c == 0 then some (.tup [.int .u64 (((x.toNat + y.toNat) % 18446744073709551616 : Nat) : Int), .int .u64 (((x.toNat + y.toNat) / 18446744073709551616 : Nat) : Int)]) else none
 | _ => none
noncomputable def c4E (T : Tab) (E : List (Nat × v2A)) (depth : Nat) (fn : Func) (body : Code) (ann : Ann) (ins outs : List (Bool × Ty)) (x : f5A ins) : Option (f5A outs) :=
 match m3A ins x ⟨[], 0⟩ with
 | (args, m) => e5A T (r6A T E depth) body ann ⟨i2A args (u9A (.tup []) (fn.ntmps - g2B args)), m.objs, m.next⟩ fun e S' => match e with
  | .exit _ => none
  | _ => match x5A S' fn.results.toList T with
   | some vs => match m2A outs vs S'.objs with
    | some (y, _) => some y
    | none => none
   | none => none
end Go.Rx
namespace Go.Rx
structure MI where
 blk : Option Nat
 base : Nat
 len : Nat
 cap : Nat
 wd : Nat
structure Env where
 w : World
 ro : Nat → Prop
 M : Nat → MI
 N : Nat
def a8A (E : Env) : (t : Ty) → den t → List Value → Prop
 | .int k, x, vs => vs = [.int k x]
 | .bool, x, vs => vs = [.bool x]
 | .str, x, vs => vs = [.string x]
 | .sl t, l, vs => ∃ a cap, vs = [.slice a l.length cap] ∧ (l.length ≤ cap ∧ (a = none → cap = 0)) ∧ (l.length = 0 ∨ ∃ b o, a = some ⟨b, o, none⟩ ∧ E.ro b ∧
   ∀ i, (h : i < l.length) → ∃ cs, a8A E t l[i] cs ∧ ∀ j v, cs[j]? = some v → E.w.cell? ⟨b, o + i * a0A t + j, none⟩ = some v)
 | .own _, _, _ => False
 | .unit, _, vs => vs = []
 | .pair a b, x, vs => ∃ u v, vs = u ++ v ∧ a8A E a x.1 u ∧ a8A E b x.2 v
 | .arr n t, l, vs => l.length = n ∧ vs.length = n * a0A t ∧ ∀ i, (h : i < l.length) → ∃ cs, a8A E t l[i] cs ∧ ∀ j v, cs[j]? = some v → vs[i * a0A t + j]? = some v
def c3B (E : Env) (t : Ty) (l : List (den t)) (b o : Nat) : Prop :=
 ∀ i, (h : i < l.length) → ∃ cs, a8A E t l[i] cs ∧ ∀ j v, cs[j]? = some v → E.w.cell? ⟨b, o + i * a0A t + j, none⟩ = some v
mutual
def b8A (E : Env) : AV → List Value → Prop
  | .top, vs => ∃ v : Value, vs = [v] ∧ v.oneCell' = true
  | .int k n, vs => vs = [.int k n]
  | .bool b, vs => vs = [.bool b]
  | .str s, vs => vs = [.string s]
  | .sl t l, vs => a8A E (.sl t) l vs
  | .slv t l, vs => a8A E (.sl t) l vs ∧ ∃ a n c, vs = [.slice (some a) n c]
  | .nilsl, vs => vs = [.slice none 0 0]
  | .arr n t l, vs => a8A E (.arr n t) l vs
  | .oref id r, vs => id < E.N ∧ match (E.M id).blk with
    | none => vs = [.slice none 0 0] ∧ f0A r = 0 ∧ j1A (E.M id).len r = 0
    | some b => ∃ o cap, vs = [.slice (some ⟨b, o, none⟩) (j1A (E.M id).len r) cap] ∧ j1A (E.M id).len r ≤ cap ∧ f0A r + j1A (E.M id).len r ≤ (E.M id).len ∧
        (cap = 0 ∨ (o = (E.M id).base + f0A r * (E.M id).wd ∧ f0A r + cap ≤ (E.M id).cap))
  | .ptr id off, vs => id < E.N ∧ ∃ b, (E.M id).blk = some b ∧ vs = [.pointer (some ⟨b, off, none⟩)]
  | .ptrA id off n t i sub, vs => id < E.N ∧ i < n ∧ ∃ b, (E.M id).blk = some b ∧ vs = [.pointer (some ⟨b, off + i * a0A t + sub, none⟩)]
  | .ptrO id i sub, vs => id < E.N ∧ i < (E.M id).len ∧ ∃ b, (E.M id).blk = some b ∧ vs = [.pointer (some ⟨b, (E.M id).base + i * (E.M id).wd + sub, none⟩)]
  | .ptrR t l i sub, vs => i < l.length ∧ ∃ b o, E.ro b ∧ vs = [.pointer (some ⟨b, o + i * a0A t + sub, none⟩)] ∧ c3B E t l b o
  | .bsl id off n t lo len, vs => id < E.N ∧ lo + len ≤ n ∧ ∃ b o, (E.M id).blk = some b ∧ vs = [.slice (some ⟨b, o, none⟩) len (n - lo)] ∧ (lo = n ∨ o = off + lo * a0A t)
  | .yld l, vs => vs = [.func (.yield l) #[] #[]]
  | .nilp, vs => vs = [.pointer none]
  | .func f first caps, vs => ∃ A B, vs = [.func (.func f) A B] ∧ i8A E first A.toList ∧ i8A E caps B.toList
  | .nilf, vs => vs = [.nilFunc]
  | .mapr _, _ => False
  | .nilm, vs => vs = [.map none]
  | .iface t ag cs, vs => ∃ ws, i8A E cs ws ∧ ∃ x, vs = [.iface t x] ∧ ((ag = true ∧ x = .agg ws.toArray) ∨ (ag = false ∧ ws = [x]))
  | .nili, vs => vs = [.nilIface]
  | .agg _, _ => False
  | .tup _, _ => False
def i8A (E : Env) : List AV → List Value → Prop
  | [], vs => vs = []
  | a :: l, vs => ∃ v r, vs = v :: r ∧ s6A a = true ∧ b8A E a [v] ∧ i8A E l r
end
def b6A (E : Env) : List AV → List Value → Prop
 | [], vs => vs = []
 | a :: l, vs => ∃ u r, vs = u ++ r ∧ b8A E a u ∧ b6A E l r
def e7A (E : Env) : AV → Value → Prop
 | .agg cs, v => ∃ vs : List Value, v = .agg vs.toArray ∧ b6A E cs vs
 | .top, _ => True
 | .tup _, _ => False
 | .arr .., _ => False
 | a, v => b8A E a [v]
def p0A (E : Env) : List AV → List Value → Prop
 | [], vs => vs = []
 | a :: l, vs => ∃ v r, vs = v :: r ∧ e7A E a v ∧ p0A E l r
def b0A (E : Env) : AV → Value → Prop
 | .tup l, v => ∃ vs : List Value, v = .tuple vs.toArray ∧ p0A E l vs
 | a, v => e7A E a v
def AV.isTup : AV → Bool
 | .tup _ => true
 | _ => false
theorem b0A.iff_V {E : Env} {a : AV} {v : Value} (h : a.isTup = false) : b0A E a v ↔ e7A E a v := by
 cases a <;> first
  | exact Iff.rfl
  | cases h
def f4A (E : Env) (m : MI) : OC → Prop
 | .box cs => ∃ b vs e, m.blk = some b ∧ E.w.heap[b]? = some (.cells vs e (0, 0)) ∧ b6A E cs vs.toList
 | .arr t l => m.len = l.length ∧ m.wd = a0A t ∧ match m.blk with
  | none => l = []
  | some b => ∃ vs e, E.w.heap[b]? = some (.cells vs e (0, 0)) ∧ l.length ≤ m.cap ∧ m.base + m.cap * a0A t ≤ vs.size ∧
    ∀ i, (h : i < l.length) → ∃ cs, a8A E t l[i] cs ∧ ∀ j v, cs[j]? = some v → vs[m.base + i * a0A t + j]? = some v
 | .map _ => False
structure b1A (E : Env) (keep : Nat → Prop) (objs : Objs) : Prop where
 rep : ∀ id oc, a9A id objs = some oc → id < E.N ∧ f4A E (E.M id) oc
 sep : ∀ id oc b, a9A id objs = some oc → (E.M id).blk = some b → ¬ E.ro b ∧ ¬ keep b
 inj : ∀ id id' oc oc' b, a9A id objs = some oc → a9A id' objs = some oc' → (E.M id).blk = some b → (E.M id').blk = some b → id = id'
 rob : ∀ b, E.ro b → b < E.w.heap.size
 kb : ∀ b, keep b → b < E.w.heap.size
def e8A (E : Env) (tmps : List AV) (vals : Array Value) : Prop :=
 tmps.length = vals.size ∧ ∀ (i : Nat) (v : Value), vals[i]? = some v → b0A E (b9A tmps i) v
def a6B (keep : Nat → Prop) (E : Env) (ds : List Deferred) : Prop :=
 ∃ Ds : List Nat, ds = Ds.map (fun D => { target := .collected D, args := #[] }) ∧ Ds.Nodup ∧ ∀ D ∈ Ds, ¬ keep D ∧ E.ro D ∧ E.w.heap[D]? = some (.deferred (some []))
theorem a6B.nil (keep : Nat → Prop) (E : Env) : a6B keep E [] := ⟨[], rfl, List.nodup_nil, fun _ h => (nomatch h)⟩
structure Rel (keep : Nat → Prop) (z : Nat) (S : St) (a : Act) (E : Env) : Prop where
 size : a.tmps.size = z
 slots : e8A E S.tmps a.tmps
 mems : b1A E keep S.objs
 next : E.N = S.next
 defers : a6B keep E a.defers
def h3A (w w' : World) : Prop := w'.os = w.os ∧ w'.output = w.output
theorem h3A.refl (w : World) : h3A w w := ⟨rfl, rfl⟩
theorem h3A.trans {w w' w'' : World} (h : h3A w w') (h' : h3A w' w'') : h3A w w'' := ⟨h'.1.trans h.1, h'.2.trans h.2⟩
structure Later (keep : Nat → Prop) (E E' : Env) : Prop where
 ro : ∀ b, E.ro b → E'.ro b
 roN : ∀ b, E'.ro b → E.ro b ∨ ¬ keep b
 M : ∀ id, id < E.N → E'.M id = E.M id
 N : E.N ≤ E'.N
 size : E.w.heap.size ≤ E'.w.heap.size
 heapRo : ∀ b, E.ro b → E'.w.heap[b]? = E.w.heap[b]?
 heapKeep : ∀ b, keep b → E'.w.heap[b]? = E.w.heap[b]?
 out : h3A E.w E'.w
theorem Later.refl (keep : Nat → Prop) (E : Env) : Later keep E E :=
 ⟨fun _ h => h, fun _ h => .inl h, fun _ _ => rfl, Nat.le_refl _, Nat.le_refl _, fun _ _ => rfl, fun _ _ => rfl, h3A.refl _⟩
theorem Later.trans {keep : Nat → Prop} {E E' E'' : Env} (h : Later keep E E') (h' : Later keep E' E'') : Later keep E E'' :=
 ⟨fun b hb => h'.ro b (h.ro b hb), fun b hb => (h'.roN b hb).elim (fun x => h.roN b x) .inr, fun id hi => (h'.M id (Nat.lt_of_lt_of_le hi h.N)).trans (h.M id hi), Nat.le_trans h.N h'.N, Nat.le_trans h.size h'.size,
  fun b hb => (h'.heapRo b (h.ro b hb)).trans (h.heapRo b hb), fun b hb => (h'.heapKeep b hb).trans (h.heapKeep b hb), h.out.trans h'.out⟩
theorem a6B.later {keep : Nat → Prop} {E E' : Env} {ds : List Deferred} (h : a6B keep E ds) (hL : Later keep E E') : a6B keep E' ds := by
 obtain ⟨Ds, e, hn, h⟩ := h
 exact ⟨Ds, e, hn, fun D hD => ⟨(h D hD).1, hL.ro D (h D hD).2.1, (hL.heapRo D (h D hD).2.1).trans (h D hD).2.2⟩⟩
theorem f9F {w w' : World} {b o : Nat} (h : w'.heap[b]? = w.heap[b]?) : w'.cell? ⟨b, o, none⟩ = w.cell? ⟨b, o, none⟩ := by
 simp only [World.cell?, h]
set_option linter.unusedSectionVars false
section
variable {keep : Nat → Prop} {E E' : Env} (h : Later keep E E')
include h
theorem a8A.later : ∀ {t : Ty} {x : den t} {vs : List Value}, a8A E t x vs → a8A E' t x vs
 | .int _, _, _, r => r
 | .bool, _, _, r => r
 | .str, _, _, r => r
 | .sl t, l, vs, r => by
  obtain ⟨a, cap, e, hc, r⟩ := r
  refine ⟨a, cap, e, hc, r.imp id ?_⟩
  rintro ⟨b, o, e, hb, r⟩
  refine ⟨b, o, e, h.ro b hb, fun i hi => ?_⟩
  obtain ⟨cs, r1, r2⟩ := r i hi
  exact ⟨cs, a8A.later r1, fun j v hj => (f9F (h.heapRo b hb)).trans (r2 j v hj)⟩
 | .own _, _, _, r => r
 | .unit, _, _, r => r
 | .pair a b, x, vs, r => by
  obtain ⟨u, v, e, r1, r2⟩ := r
  exact ⟨u, v, e, a8A.later r1, a8A.later r2⟩
 | .arr n t, l, vs, r => by
  obtain ⟨e1, e2, r⟩ := r
  refine ⟨e1, e2, fun i hi => ?_⟩
  obtain ⟨cs, r1, r2⟩ := r i hi
  exact ⟨cs, a8A.later r1, r2⟩
theorem c3B.later {t : Ty} {l : List (den t)} {b o : Nat} (hb : E.ro b) (r : c3B E t l b o) : c3B E' t l b o := fun i hi => by
 obtain ⟨cs, r1, r2⟩ := r i hi
 exact ⟨cs, a8A.later h r1, fun j v hj => (f9F (h.heapRo b hb)).trans (r2 j v hj)⟩
mutual
theorem b8A.later : ∀ {a : AV} {vs : List Value}, b8A E a vs → b8A E' a vs
 | .top, _, r => r
 | .int .., _, r => r
 | .bool _, _, r => r
 | .str _, _, r => r
 | .sl _ _, _, r => a8A.later h r
 | .slv _ _, _, r => ⟨a8A.later h r.1, r.2⟩
 | .nilsl, _, r => r
 | .arr _ _ _, _, r => a8A.later h r
 | .oref id rg, vs, r => by
  obtain ⟨hi, r⟩ := r
  refine ⟨Nat.lt_of_lt_of_le hi h.N, ?_⟩
  rw [h.M id hi]; exact r
 | .ptr id off, vs, r => by
  obtain ⟨hi, r⟩ := r
  refine ⟨Nat.lt_of_lt_of_le hi h.N, ?_⟩
  rw [h.M id hi]; exact r
 | .ptrA id off n t i sub, vs, r => by
  obtain ⟨hi, r⟩ := r
  refine ⟨Nat.lt_of_lt_of_le hi h.N, ?_⟩
  rw [h.M id hi]; exact r
 | .ptrO id i sub, vs, r => by
  obtain ⟨hi, r⟩ := r
  refine ⟨Nat.lt_of_lt_of_le hi h.N, ?_⟩
  rw [h.M id hi]; exact r
 | .ptrR t l i sub, vs, r => by
  obtain ⟨hi, b, o, hb, e, r⟩ := r
  exact ⟨hi, b, o, h.ro b hb, e, c3B.later h hb r⟩
 | .bsl id off n t lo len, vs, r => by
  obtain ⟨hi, r⟩ := r
  refine ⟨Nat.lt_of_lt_of_le hi h.N, ?_⟩
  rw [h.M id hi]; exact r
 | .yld _, _, r => r
 | .nilp, _, r => r
 | .func f first caps, vs, r => by
  obtain ⟨A, B, e, r1, r2⟩ := r
  exact ⟨A, B, e, i8A.later r1, i8A.later r2⟩
 | .nilf, _, r => r
 | .mapr _, _, r => r
 | .nilm, _, r => r
 | .iface t ag cs, vs, r => by
  obtain ⟨ws, r1, r2⟩ := r
  exact ⟨ws, i8A.later r1, r2⟩
 | .nili, _, r => r
 | .agg _, _, r => r
 | .tup _, _, r => r
theorem i8A.later : ∀ {l : List AV} {vs : List Value}, i8A E l vs → i8A E' l vs
 | [], _, r => r
 | a :: l, vs, r => by
  obtain ⟨v, s, e, hc, r1, r2⟩ := r
  exact ⟨v, s, e, hc, b8A.later r1, i8A.later r2⟩
end
theorem b6A.later : ∀ {l : List AV} {vs : List Value}, b6A E l vs → b6A E' l vs
 | [], _, r => r
 | a :: l, vs, r => by
  obtain ⟨v, s, e, r1, r2⟩ := r
  exact ⟨v, s, e, b8A.later h r1, b6A.later r2⟩
theorem e7A.later {a : AV} {v : Value} (r : e7A E a v) : e7A E' a v := by
 cases a
 case agg cs => obtain ⟨vs, e, r⟩ := r; exact ⟨vs, e, b6A.later h r⟩
 all_goals first | exact r | exact b8A.later h r
theorem p0A.later : ∀ {l : List AV} {vs : List Value}, p0A E l vs → p0A E' l vs
 | [], _, r => r
 | a :: l, vs, r => by
  obtain ⟨v, s, e, r1, r2⟩ := r
  exact ⟨v, s, e, e7A.later h r1, p0A.later r2⟩
theorem b0A.later {a : AV} {v : Value} (r : b0A E a v) : b0A E' a v := by
 cases ht : a.isTup with
 | true =>
  cases a <;> first
   | (obtain ⟨vs, e, r⟩ := r; exact ⟨vs, e, p0A.later h r⟩)
   | cases ht
 | false => exact (b0A.iff_V ht).2 (e7A.later h ((b0A.iff_V ht).1 r))
end
end Go.Rx
namespace Go.Rx
theorem a8A.length {E : Env} : ∀ {t : Ty} {x : den t} {vs : List Value}, a8A E t x vs → vs.length = a0A t
 | .int _, _, _, r => by rw [r]; rfl
 | .bool, _, _, r => by rw [r]; rfl
 | .str, _, _, r => by rw [r]; rfl
 | .sl t, l, vs, r => by obtain ⟨a, cap, e, _⟩ := r; rw [e]; rfl
 | .own _, _, _, r => r.elim
 | .unit, _, _, r => by rw [r]; rfl
 | .pair a b, x, vs, r => by
  obtain ⟨u, v, e, r1, r2⟩ := r
  rw [e, List.length_append, a8A.length r1, a8A.length r2]; rfl
 | .arr n t, l, vs, r => r.2.1
theorem b8A.length {E : Env} {a : AV} {vs : List Value} (r : b8A E a vs) : vs.length = a.w := by
 cases a with
 | top => obtain ⟨v, e, _⟩ := r; rw [e]; rfl
 | sl t l => exact a8A.length r
 | arr n t l => exact r.2.1
 | oref id rg =>
  obtain ⟨_, r⟩ := r
  split at r
  ·rw [r.1]; rfl
  ·obtain ⟨o, cap, e, _⟩ := r; rw [e]; rfl
 | ptr id off => obtain ⟨_, b, _, e⟩ := r; rw [e]; rfl
 | ptrA id off n t i sub => obtain ⟨_, _, b, _, e⟩ := r; rw [e]; rfl
 | ptrO id i sub => obtain ⟨_, _, b, _, e⟩ := r; rw [e]; rfl
 | ptrR t l i sub => obtain ⟨_, b, o, _, e, _⟩ := r; rw [e]; rfl
 | bsl id off n t lo len => obtain ⟨_, _, b, o, _, e, _⟩ := r; rw [e]; rfl
 | func f a b => obtain ⟨A, B, e, _⟩ := r; rw [e]; rfl
 | mapr id => exact r.elim
 | iface t ag cs => obtain ⟨ws, _, x, e, _⟩ := r; rw [e]; rfl
 | agg cs => exact r.elim
 | tup cs => exact r.elim
 | slv t l => obtain ⟨_, a, n, c, e⟩ := r; rw [e]; rfl
 | _ => rw [show vs = _ from r]; rfl
theorem b6A.length {E : Env} : ∀ {l : List AV} {vs : List Value}, b6A E l vs → vs.length = b7B l
 | [], _, r => by rw [show _ = [] from r]; rfl
 | a :: l, vs, r => by
  obtain ⟨u, s, e, r1, r2⟩ := r
  rw [e, List.length_append, b8A.length r1, b6A.length r2]; rfl
theorem a8A.one {E : Env} : ∀ {t : Ty} {x : den t} {vs : List Value}, a8A E t x vs → ∀ v ∈ vs, v.oneCell' = true
 | .int _, _, _, r, v, hv => by rw [show _ = _ from r] at hv; simp at hv; rw [hv]; rfl
 | .bool, _, _, r, v, hv => by rw [show _ = _ from r] at hv; simp at hv; rw [hv]; rfl
 | .str, _, _, r, v, hv => by rw [show _ = _ from r] at hv; simp at hv; rw [hv]; rfl
 | .sl t, l, vs, r, v, hv => by obtain ⟨a, cap, e, _⟩ := r; rw [e] at hv; simp at hv; rw [hv]; rfl
 | .own _, _, _, r, _, _ => r.elim
 | .unit, _, _, r, v, hv => by rw [show _ = _ from r] at hv; simp at hv
 | .pair a b, x, vs, r, v, hv => by
  obtain ⟨u, s, e, r1, r2⟩ := r
  rw [e] at hv
  rcases List.mem_append.1 hv with h | h
  ·exact a8A.one r1 v h
  ·exact a8A.one r2 v h
 | .arr n t, l, vs, r, v, hv => by
  obtain ⟨e1, e2, r⟩ := r
  obtain ⟨k, hk, rfl⟩ := List.getElem_of_mem hv
  have hw : 0 < a0A t := by
   rcases Nat.eq_zero_or_pos (a0A t) with h | h
   ·rw [h, Nat.mul_zero] at e2; omega
   ·exact h
  have hi : k / a0A t < l.length := by rw [e1]; exact Nat.div_lt_of_lt_mul (by rw [Nat.mul_comm]; omega)
  obtain ⟨cs, r1, r2⟩ := r (k / a0A t) hi
  have hj : k % a0A t < cs.length := by rw [a8A.length r1]; exact Nat.mod_lt _ hw
  have := r2 (k % a0A t) _ (List.getElem?_eq_getElem hj)
  rw [Nat.mul_comm, Nat.div_add_mod, List.getElem?_eq_getElem hk] at this
  rw [Option.some.inj this]
  exact a8A.one r1 _ (List.getElem_mem hj)
theorem b8A.one {E : Env} {a : AV} {vs : List Value} (r : b8A E a vs) : ∀ v ∈ vs, v.oneCell' = true := by
 intro v hv
 cases a with
 | top => obtain ⟨v, e, h⟩ := r; rw [e] at hv; simp at hv; rw [hv]; exact h
 | sl t l => exact a8A.one r v hv
 | arr n t l => exact a8A.one (t := .arr n t) r v hv
 | oref id rg =>
  obtain ⟨_, r⟩ := r
  split at r
  ·rw [r.1] at hv; simp at hv; rw [hv]; rfl
  ·obtain ⟨o, cap, e, _⟩ := r; rw [e] at hv; simp at hv; rw [hv]; rfl
 | ptr id off => obtain ⟨_, b, _, e⟩ := r; rw [e] at hv; simp at hv; rw [hv]; rfl
 | ptrA id off n t i sub => obtain ⟨_, _, b, _, e⟩ := r; rw [e] at hv; simp at hv; rw [hv]; rfl
 | ptrO id i sub => obtain ⟨_, _, b, _, e⟩ := r; rw [e] at hv; simp at hv; rw [hv]; rfl
 | ptrR t l i sub => obtain ⟨_, b, o, _, e, _⟩ := r; rw [e] at hv; simp at hv; rw [hv]; rfl
 | bsl id off n t lo len => obtain ⟨_, _, b, o, _, e, _⟩ := r; rw [e] at hv; simp at hv; rw [hv]; rfl
 | func f a b => obtain ⟨A, B, e, _⟩ := r; rw [e] at hv; simp at hv; rw [hv]; rfl
 | mapr id => exact r.elim
 | iface t ag cs => obtain ⟨ws, _, x, e, _⟩ := r; rw [e] at hv; simp at hv; rw [hv]; rfl
 | agg cs => exact r.elim
 | tup cs => exact r.elim
 | slv t l => exact a8A.one r.1 v hv
 | _ => rw [show vs = _ from r] at hv; simp at hv; rw [hv]; rfl
theorem b6A.one {E : Env} : ∀ {l : List AV} {vs : List Value}, b6A E l vs → ∀ v ∈ vs, v.oneCell' = true
 | [], _, r, v, hv => by rw [show _ = [] from r] at hv; simp at hv
 | a :: l, vs, r, v, hv => by
  obtain ⟨u, s, e, r1, r2⟩ := r
  rw [e] at hv
  rcases List.mem_append.1 hv with h | h
  ·exact b8A.one r1 v h
  ·exact b6A.one r2 v h
theorem b6A.app {E : Env} : ∀ {l m : List AV} {us vs : List Value}, b6A E l us → b6A E m vs → b6A E (i2A l m) (us ++ vs)
 | [], _, _, _, r, s => by rw [show _ = [] from r]; exact s
 | a :: l, m, us, vs, r, s => by
  obtain ⟨u, t, e, r1, r2⟩ := r
  exact ⟨u, t ++ vs, by rw [e, List.append_assoc], r1, b6A.app r2 s⟩
theorem f1A {α : Type} {b : Bool} {x y : Option α} {z : α} (h : (bif b then x else y) = some z) : (b = true ∧ x = some z) ∨ (b = false ∧ y = some z) := by
 cases b
 ·exact .inr ⟨rfl, h⟩
 ·exact .inl ⟨rfl, h⟩
theorem e1A {α β : Type} {x : Option α} {f : α → β} {z : β} (h : oM x f = some z) : ∃ a, x = some a ∧ f a = z := by
 cases x with
 | none => simp [oM] at h
 | some a => exact ⟨a, rfl, by simpa [oM] using h⟩
theorem a7B {α β : Type} {x : Option α} {f : α → Option β} {z : β} (h : oB x f = some z) : ∃ a, x = some a ∧ f a = some z := by
 cases x with
 | none => simp [oB] at h
 | some a => exact ⟨a, rfl, by simpa [oB] using h⟩
theorem c5E {E : Env} : ∀ {cs : List AV} {vs : List Value} {n : Nat} {r : List AV}, b6A E cs vs → e8C cs n = some r → n ≤ vs.length ∧ b6A E r (vs.drop n)
 | [], vs, n, r, h, e => by
  simp only [e8C] at e
  rcases f1A e with ⟨hb, e⟩ | ⟨_, e⟩
  ·have hn : n = 0 := Nat.eq_of_beq_eq_true hb
   subst hn
   cases e; exact ⟨Nat.zero_le _, h⟩
  ·cases e
 | c :: cs, vs, n, r, h, e => by
  simp only [e8C] at e
  rcases f1A e with ⟨hb, e⟩ | ⟨hb, e⟩
  ·have hn : n = 0 := Nat.eq_of_beq_eq_true hb
   subst hn
   cases e; exact ⟨Nat.zero_le _, h⟩
  ·rcases f1A e with ⟨hc, e⟩ | ⟨_, e⟩
   ·have hn : c.w ≤ n := Nat.le_of_ble_eq_true hc
    obtain ⟨u, s, rfl, r1, r2⟩ := h
    obtain ⟨h1, h2⟩ := c5E r2 e
    have hl := b8A.length r1
    refine ⟨by rw [List.length_append]; omega, ?_⟩
    rw [List.drop_append, List.drop_eq_nil_of_le (by omega), List.nil_append, hl]; exact h2
   ·cases e
theorem c6E {E : Env} : ∀ {cs : List AV} {vs : List Value} {n : Nat} {r : List AV}, b6A E cs vs → e9C cs n = some r → n ≤ vs.length ∧ b6A E r (vs.take n)
 | [], vs, n, r, h, e => by
  simp only [e9C] at e
  rcases f1A e with ⟨hb, e⟩ | ⟨_, e⟩
  ·have hn : n = 0 := Nat.eq_of_beq_eq_true hb
   subst hn
   cases e; exact ⟨Nat.zero_le _, by rw [List.take_zero]; rfl⟩
  ·cases e
 | c :: cs, vs, n, r, h, e => by
  simp only [e9C] at e
  rcases f1A e with ⟨hb, e⟩ | ⟨hb, e⟩
  ·have hn : n = 0 := Nat.eq_of_beq_eq_true hb
   subst hn
   cases e; exact ⟨Nat.zero_le _, by rw [List.take_zero]; rfl⟩
  ·rcases f1A e with ⟨hc, e⟩ | ⟨_, e⟩
   ·have hn : c.w ≤ n := Nat.le_of_ble_eq_true hc
    obtain ⟨r', e', rfl⟩ := e1A e
    obtain ⟨u, s, rfl, r1, r2⟩ := h
    obtain ⟨h1, h2⟩ := c6E r2 e'
    have hl := b8A.length r1
    refine ⟨by rw [List.length_append]; omega, u, s.take (n - c.w), ?_, r1, h2⟩
    rw [List.take_append, List.take_of_length_le (by omega), hl]
   ·cases e
theorem u6C {E : Env} {cs : List AV} {vs : List Value} {off n : Nat} {r : List AV} (h : b6A E cs vs) (e : cut cs off n = some r) :
  off + n ≤ vs.length ∧ b6A E r ((vs.drop off).take n) := by
 obtain ⟨a, e1, e2⟩ := a7B e
 obtain ⟨h1, h2⟩ := c5E h e1
 obtain ⟨h3, h4⟩ := c6E h2 e2
 rw [List.length_drop] at h3
 exact ⟨by omega, h4⟩
theorem g4C {E : Env} {cs new : List AV} {vs nvs : List Value} {off : Nat} {r : List AV} (h : b6A E cs vs) (hn : b6A E new nvs) (e : v7B cs off new = some r) :
  off + nvs.length ≤ vs.length ∧ b6A E r (vs.take off ++ (nvs ++ vs.drop (off + nvs.length))) := by
 obtain ⟨a, e1, e2⟩ := a7B e
 obtain ⟨b, e3, rfl⟩ := e1A e2
 obtain ⟨_, h2⟩ := c6E h e1
 rw [← b6A.length hn] at e3
 obtain ⟨h3, h4⟩ := c5E h e3
 exact ⟨h3, b6A.app h2 (b6A.app hn h4)⟩
def mkV (agg : Bool) (vs : List Value) : Value := if agg then .agg vs.toArray else vs.headD undef
theorem k1D {E : Env} {agg : Bool} {cs : List AV} {vs : List Value} {v : AV} (h : b6A E cs vs) (e : v8B agg cs = some v) : e7A E v (mkV agg vs) := by
  unfold v8B at e
  split at e
  · cases e; exact ⟨vs, rfl, h⟩
  · cases e
  · rename_i c hc
    cases e
    obtain ⟨u, s, rfl, r1, r2⟩ := h
    rw [show s = [] from r2, List.append_nil]
    have hl := b8A.length r1
    cases v <;> first
      | exact (hc _ _ _ rfl).elim
      | exact trivial
      | exact r1.elim
      | (have hl : u.length = 1 := hl
         match u, hl, r1 with
         | [x], _, r1 => exact r1)
  · cases e
theorem a8B {E : Env} : ∀ {t : Ty} {x : den t} {vs : List Value}, a8A E t x vs → b6A E (enc t x) vs
 | .int _, _, vs, r => ⟨vs, [], by simp, r, rfl⟩
 | .bool, _, vs, r => ⟨vs, [], by simp, r, rfl⟩
 | .str, _, vs, r => ⟨vs, [], by simp, r, rfl⟩
 | .sl t, l, vs, r => ⟨vs, [], by simp, r, rfl⟩
 | .own _, _, _, r => r.elim
 | .unit, _, _, r => r
 | .pair a b, x, vs, r => by
  obtain ⟨u, v, rfl, r1, r2⟩ := r
  exact b6A.app (a8B r1) (a8B r2)
 | .arr n t, l, vs, r => ⟨vs, [], by simp, r, rfl⟩
theorem v4G {E : Env} (v : Value) : b8B v = .top ∨ b8A E (b8B v) [v] := by
 unfold b8B
 split <;> first
  | exact .inl rfl
  | exact .inr rfl
theorem v5G {a : AV} {l : List AV} (h : v9B (a :: l) = true) : a ≠ .top ∧ v9B l = true := by
 cases a <;> first
  | exact ⟨nofun, h⟩
  | exact absurd h (by simp [v9B])
theorem g0F {E : Env} : ∀ (vs : List Value), v9B (d3A b8B vs) = true → b6A E (d3A b8B vs) vs
 | [], _ => rfl
 | v :: vs, h => by
  obtain ⟨h1, h2⟩ := v5G h
  exact ⟨[v], vs, rfl, (v4G v).resolve_left h1, g0F vs h2⟩
theorem b8A.toV {E : Env} {a : AV} {v : Value} (r : b8A E a [v]) : a.w = 1 → (∀ n t l, a ≠ .arr n t l) → e7A E a v := by
 intro _ h
 cases a <;> first
  | exact (h _ _ _ rfl).elim
  | exact trivial
  | exact r.elim
  | exact r
theorem v6G {E : Env} (v : Value) : e7A E (b8B v) v := by
 unfold b8B
 split <;> first
  | exact trivial
  | exact rfl
theorem v7G {E : Env} (v : Value) : e7A E (lit v) v := by
 unfold lit
 split
 ·rename_i cs
  cases h : v9B (d3A b8B cs.toList) with
  | true => exact ⟨cs.toList, by simp, g0F _ h⟩
  | false => exact trivial
 ·exact v6G v
theorem e7A.toS {E : Env} {a : AV} {v : Value} (r : e7A E a v) : b0A E a v := by
 cases a <;> first
  | exact r.elim
  | exact r
theorem d8A {E : Env} {S : St} {a : Act} (h : e8A E S.tmps a.tmps) (x : Operand) : b0A E (ev S x) (a.eval x) := by
 cases x with
 | tmp t =>
  simp only [ev, Act.eval, Array.getD_eq_getD_getElem?]
  cases hv : a.tmps[t]? with
  | none =>
   have hl : S.tmps.length ≤ t := by rw [h.1]; exact (Array.getElem?_eq_none_iff.1 hv)
   have : ∀ (l : List AV) (t : Nat), l.length ≤ t → b9A l t = .top := by
    intro l
    induction l with
    | nil => intro t _; cases t <;> rfl
    | cons a l ih =>
     intro t ht
     cases t with
     | zero => simp at ht
     | succ t => exact ih t (by simpa using ht)
   rw [this _ _ hl]; exact trivial
  | some v => exact h.2 t v hv
 | const v => exact (v7G v).toS
 | global g => exact trivial
 | func f => exact ⟨#[], #[], rfl, rfl, rfl⟩
end Go.Rx
namespace Go.Rx
def k2D : TD → TypeDesc → Prop
 | .bool, d => d = .bool
 | .int k, d => d = .int k
 | .str, d => d = .string
 | .ptr e, d => d = .pointer e
 | .sl e, d => d = .slice e
 | .arr n e, d => d = .array n e
 | .st fs, d => ∃ F : Array Field, d = .struct F ∧ F.toList.map (fun f => (f.offset, f.type)) = fs
 | .other, d => match d with
  | .struct _ => False
  | .array .. => False
  | _ => True
structure TOK (P : Program) (t : TypeId) (i : s5A) : Prop where
 und : ∃ d, P.underlying t = some d ∧ k2D i.td d
 info : ∃ inf, P.info? t = some inf ∧ inf.size = i.size ∧ inf.bytes = i.bytes ∧ ∃ z, inf.zero = some z ∧ (∀ E : Env, b6A E i.zc z.cells.toList) ∧
  (∀ ty, i.ty = some ty → ∀ E : Env, a8A E ty (d1A ty) z.cells.toList) ∧ (if i.td.isAgg then z = .agg z.cells else z.cells = #[z])
 wd : ∀ ty, i.ty = some ty → a0A ty = i.size
 eqs : i.eq = true → P.stoodInHeld t = false ∧ P.eqGuardType P.depth t = false ∧ ∀ F, P.underlying t = some (.struct F) → ∀ f ∈ F, f.name ≠ "_"
 fsz : ∀ fs, i.td = .st fs → ∃ places, fs.mapM (fun f => (P.info? f.2).map fun i => (f.1, i.size)) = some places
def TabOK (P : Program) (T : Tab) : Prop := ∀ t i, f6A t T = some i → TOK P t i
def VR.gives : VR → AV → Prop
 | .val v, u => v = u
 | .gval b v, u => b = true ∧ v = u
 | .no, _ => False
theorem w7B {x : Option AV} {v : AV} (h : (w1B x).gives v) : x = some v := by
 cases x with
 | none => exact h.elim
 | some u => exact congrArg some h
theorem v8G {b : Bool} {x : Option AV} {v : AV} (h : (f4F b x).gives v) : b = true ∧ x = some v := by
 cases x with
 | none => exact h.elim
 | some u => exact ⟨h.1, congrArg some h.2⟩
section
variable {P : Program} {T : Tab} (hT : TabOK P T) {E : Env} {w : World}
theorem f9A {t : TypeId} {d : TypeDesc} (h : P.underlying t = some d) : (underlying t).run P w = .ok d w := by
 simp [underlying, h]
theorem q1B {t : TypeId} {i : TypeInfo} (h : P.info? t = some i) : (typeInfo t).run P w = .ok i w := by
 simp [typeInfo, h]
theorem l1B {t : TypeId} {i : TypeInfo} (h : P.info? t = some i) : (sizeOf t).run P w = .ok i.size w := by
 simp [sizeOf, q1B h]
def g1F : TypeDesc → Bool
 | .struct _ => true
 | .array .. => true
 | _ => false
theorem v9G {t : TypeId} {d : TypeDesc} (h : P.underlying t = some d) : (isAgg t).run P w = .ok (g1F d) w := by
 simp only [isAgg, Sem.run_bind, f9A h, Result.andThen_ok]
 cases d <;> rfl
theorem w0G {td : TD} {d : TypeDesc} (h : k2D td d) : g1F d = td.isAgg := by
 cases td <;> first
  | (rw [show d = _ from h]; rfl)
  | (obtain ⟨F, e, _⟩ := h; rw [e]; rfl)
  | (cases d <;> first
    | rfl
    | exact h.elim)
include hT
theorem q0A {t : TypeId} {td : TD} (h : x0A T t = some td) : ∃ d, P.underlying t = some d ∧ k2D td d := by
 unfold x0A at h
 split at h
 ·rename_i i hi
  cases h
  exact (hT t i hi).und
 ·cases h
theorem c4B {t : TypeId} {i : s5A} (h : f6A t T = some i) : (sizeOf t).run P w = .ok i.size w := by
 obtain ⟨inf, h1, h2, _⟩ := (hT t i h).info
 rw [← h2]; exact l1B h1
theorem u7C {t : TypeId} {i : s5A} (h : f6A t T = some i) : (isAgg t).run P w = .ok i.td.isAgg w := by
 obtain ⟨d, h1, h2⟩ := (hT t i h).und
 rw [← w0G h2]; exact v9G h1
omit hT
theorem b0A.int_inv {k : IntKind} {n : Int} {x : Value} (h : b0A E (.int k n) x) : x = .int k n := by
 have h : [x] = [Value.int k n] := h
 simpa using h
theorem b0A.bool_inv {b : Bool} {x : Value} (h : b0A E (.bool b) x) : x = .bool b := by
 have h : [x] = [Value.bool b] := h
 simpa using h
theorem b0A.str_inv {s : ByteArray} {x : Value} (h : b0A E (.str s) x) : x = .string s := by
 have h : [x] = [Value.string s] := h
 simpa using h
theorem w1G {op : BinOp} {k : IntKind} {a b : Int} {v : AV} (t : TypeId) (h : (a2E op k a b).gives v) :
    ∃ x, (binOp op t (.int k a) (.int k b)).run P w = .ok x w ∧ b0A E v x := by
  cases op <;> simp only [a2E, VR.gives] at h <;> first
    | exact h.elim
    | (subst h; exact ⟨_, by simp [binOp, Op.intArith, Op.intCmp, Op.intBits, d4A], rfl⟩)
    | (obtain ⟨hb, rfl⟩ := h
       have hb : ¬ b = 0 := by simpa using hb
       exact ⟨_, by simp [binOp, Op.intDiv, hb], rfl⟩)
theorem c7E {op : BinOp} {t : TypeId} {p q : Operand} {k k' : IntKind} {a b : Int} : (eqGuard op t p q (.int k a) (.int k' b)).run P w = .ok () w := by
 cases op <;> rfl
theorem c8E {op : BinOp} {t : TypeId} {p q : Operand} {a b : ByteArray} : (eqGuard op t p q (.string a) (.string b)).run P w = .ok () w := by
 cases op <;> rfl
theorem g2F {op : BinOp} {t : TypeId} {p q : Operand} {a b : Bool} : (eqGuard op t p q (.bool a) (.bool b)).run P w = .ok () w := by
 cases op <;> rfl
theorem w2G {t : TypeId} (hu : P.underlying t = some .bool) {a b : Bool} (d : Nat) : (Op.equalIn (d + 1) t (.bool a) (.bool b)).run P w = .ok (a == b) w := by
 simp only [Op.equalIn, Sem.run_bind, f9A hu, Result.andThen_ok]
 rfl
theorem k3D {t : TypeId} (hu : P.underlying t = some .bool) {a b : Bool} : (Op.equal t (.bool a) (.bool b)).run P w = .ok (a == b) w :=
 w2G hu 9999
theorem k4D {op : BinOp} {t : TypeId} {p q : Operand} {a a' : Option Addr} {n n' c c' : Nat} : (eqGuard op t p q (.slice a n c) (.slice a' n' c')).run P w = .ok () w := by
 cases op <;> rfl
theorem w3G {t e : TypeId} (hu : P.underlying t = some (.slice e)) {a : Option Addr} {n c : Nat} (d : Nat) : (Op.equalIn (d + 1) t (.slice a n c) (.slice none 0 0)).run P w = .ok a.isNone w := by
 simp only [Op.equalIn, Sem.run_bind, f9A hu, Result.andThen_ok]
 cases a <;> rfl
theorem k5D {t e : TypeId} (hu : P.underlying t = some (.slice e)) {a : Option Addr} {n c : Nat} : (Op.equal t (.slice a n c) (.slice none 0 0)).run P w = .ok a.isNone w :=
 w3G hu 9999
include hT
theorem k6D {t : TypeId} (h : g3B T t = true) : ∃ e, P.underlying t = some (.slice e) := by
 unfold g3B at h
 split at h
 ·rename_i i hi
  split at h
  ·rename_i e htd
   obtain ⟨d, h1, h2⟩ := (hT t i hi).und
   rw [htd] at h2
   exact ⟨e, by rw [h1, show d = .slice e from h2]⟩
  ·cases h
 ·cases h
def g3F (P : Program) (T : Tab) (E : Env) (w : World) (t : TypeId) : Prop :=
 ∀ xs ys b, i4D T t xs ys = some b → ∀ us vs : List Value, b6A E xs us → b6A E ys vs →
  P.eqGuardType P.depth t = false ∧ (Op.equal t (.agg us.toArray) (.agg vs.toArray)).run P w = .ok b w
theorem w4G {t : TypeId} {op : BinOp} {a b v : AV} {x y : Value} (hagg : g3F P T E w t) (h : (a3E T t op a b).gives v) (hx : b0A E a x) (hy : b0A E b y) (p q : Operand) :
  ∃ z, (do eqGuard op t p q x y; binOp op t x y : Sem Value).run P w = .ok z w ∧ b0A E v z := by
 unfold a3E at h
 split at h
 ·rename_i k a yk b
  obtain ⟨hb, rfl⟩ := h
  rw [hx.int_inv, hy.int_inv]
  replace hb := of_decide_eq_true hb
  refine ⟨.int k (c9A k a b), ?_, rfl⟩
  rw [Sem.run_bind, c7E, Result.andThen_ok]
  simp [binOp, Op.shift, Int.not_lt.2 hb, c9A]
 ·rename_i k a yk b
  obtain ⟨hb, rfl⟩ := h
  rw [hx.int_inv, hy.int_inv]
  replace hb := of_decide_eq_true hb
  refine ⟨.int k (c5A k a b), ?_, rfl⟩
  rw [Sem.run_bind, c7E, Result.andThen_ok]
  simp [binOp, Op.shift, Int.not_lt.2 hb, c5A]
 ·split at h
  ·rename_i hk
   subst hk
   rw [hx.int_inv, hy.int_inv, Sem.run_bind, c7E, Result.andThen_ok]
   exact w1G t h
  ·exact h.elim
 ·rename_i a b
  obtain ⟨hb, rfl⟩ := h
  replace hb := of_decide_eq_true hb
  rw [hx.str_inv, hy.str_inv, Sem.run_bind, c8E, Result.andThen_ok]
  refine ⟨.string (a ++ b), ?_, rfl⟩
  have : ¬ ((a.size + b.size : Nat) : Int) > IntKind.i64.max := by omega
  simp only [binOp, Op.stringOp, if_neg this]
  rfl
 ·cases h
  rw [hx.str_inv, hy.str_inv, Sem.run_bind, c8E, Result.andThen_ok]
  exact ⟨_, rfl, rfl⟩
 ·cases h
  rw [hx.str_inv, hy.str_inv, Sem.run_bind, c8E, Result.andThen_ok]
  exact ⟨_, rfl, rfl⟩
 ·cases hB : f1C T t with
  | false => rw [hB] at h; exact h.elim
  | true =>
   rw [hB] at h
   cases h
   have hu : P.underlying t = some .bool := by
    unfold f1C at hB
    split at hB
    ·rename_i i hi
     split at hB
     ·rename_i htd
      obtain ⟨d, h1, h2⟩ := (hT t i hi).und
      rw [htd] at h2
      rw [h1, show d = .bool from h2]
     ·cases hB
    ·cases hB
   rw [hx.bool_inv, hy.bool_inv, Sem.run_bind, g2F, Result.andThen_ok]
   rename_i a b
   refine ⟨_, ?_, rfl⟩
   first
    | (change (do pure (Value.bool (← Op.equal t (.bool a) (.bool b))) : Sem Value).run P w = _; rw [Sem.run_bind, k3D hu]; rfl)
    | (change (do pure (Value.bool (!(← Op.equal t (.bool a) (.bool b)))) : Sem Value).run P w = _; rw [Sem.run_bind, k3D hu]; rfl)
 ·cases hB : f1C T t with
  | false => rw [hB] at h; exact h.elim
  | true =>
   rw [hB] at h
   cases h
   have hu : P.underlying t = some .bool := by
    unfold f1C at hB
    split at hB
    ·rename_i i hi
     split at hB
     ·rename_i htd
      obtain ⟨d, h1, h2⟩ := (hT t i hi).und
      rw [htd] at h2
      rw [h1, show d = .bool from h2]
     ·cases hB
    ·cases hB
   rw [hx.bool_inv, hy.bool_inv, Sem.run_bind, g2F, Result.andThen_ok]
   rename_i a b
   refine ⟨_, ?_, rfl⟩
   first
    | (change (do pure (Value.bool (← Op.equal t (.bool a) (.bool b))) : Sem Value).run P w = _; rw [Sem.run_bind, k3D hu]; rfl)
    | (change (do pure (Value.bool (!(← Op.equal t (.bool a) (.bool b)))) : Sem Value).run P w = _; rw [Sem.run_bind, k3D hu]; rfl)
 ·cases hB : g3B T t with
  | false => rw [hB] at h; exact h.elim
  | true =>
   rw [hB] at h
   cases h
   obtain ⟨e, hu⟩ := k6D hT hB
   obtain ⟨_, a, n, c, e1⟩ := (show b8A E (.slv _ _) [x] from hx)
   have e2 : [y] = [Value.slice none 0 0] := hy
   cases e1; cases e2
   rw [Sem.run_bind, k4D, Result.andThen_ok]
   refine ⟨_, ?_, rfl⟩
   change (do pure (Value.bool (← Op.equal t (.slice (some a) n c) (.slice none 0 0))) : Sem Value).run P w = _
   rw [Sem.run_bind, k5D hu]; rfl
 ·cases hB : g3B T t with
  | false => rw [hB] at h; exact h.elim
  | true =>
   rw [hB] at h
   cases h
   obtain ⟨e, hu⟩ := k6D hT hB
   obtain ⟨_, a, n, c, e1⟩ := (show b8A E (.slv _ _) [x] from hx)
   have e2 : [y] = [Value.slice none 0 0] := hy
   cases e1; cases e2
   rw [Sem.run_bind, k4D, Result.andThen_ok]
   refine ⟨_, ?_, rfl⟩
   change (do pure (Value.bool (!(← Op.equal t (.slice (some a) n c) (.slice none 0 0)))) : Sem Value).run P w = _
   rw [Sem.run_bind, k5D hu]; rfl
 ·cases hB : g3B T t with
  | false => rw [hB] at h; exact h.elim
  | true =>
   rw [hB] at h
   cases h
   obtain ⟨e, hu⟩ := k6D hT hB
   have e1 : [x] = [Value.slice none 0 0] := hx
   have e2 : [y] = [Value.slice none 0 0] := hy
   cases e1; cases e2
   rw [Sem.run_bind, k4D, Result.andThen_ok]
   refine ⟨_, ?_, rfl⟩
   change (do pure (Value.bool (← Op.equal t (.slice none 0 0) (.slice none 0 0))) : Sem Value).run P w = _
   rw [Sem.run_bind, k5D hu]; rfl
 ·cases hB : g3B T t with
  | false => rw [hB] at h; exact h.elim
  | true =>
   rw [hB] at h
   cases h
   obtain ⟨e, hu⟩ := k6D hT hB
   have e1 : [x] = [Value.slice none 0 0] := hx
   have e2 : [y] = [Value.slice none 0 0] := hy
   cases e1; cases e2
   rw [Sem.run_bind, k4D, Result.andThen_ok]
   refine ⟨_, ?_, rfl⟩
   change (do pure (Value.bool (!(← Op.equal t (.slice none 0 0) (.slice none 0 0)))) : Sem Value).run P w = _
   rw [Sem.run_bind, k5D hu]; rfl
 ·rename_i xs ys
  obtain ⟨r, hr, rfl⟩ := e1A (w7B h)
  obtain ⟨us, rfl, r1⟩ := hx
  obtain ⟨vs, rfl, r2⟩ := hy
  obtain ⟨h1, h2⟩ := hagg _ _ _ hr _ _ r1 r2
  refine ⟨.bool r, ?_, rfl⟩
  rw [Sem.run_bind, show (eqGuard .eql t p q (.agg us.toArray) (.agg vs.toArray)).run P w = .ok () w by simp [eqGuard, h1], Result.andThen_ok]
  change (do pure (Value.bool (← Op.equal t (.agg us.toArray) (.agg vs.toArray))) : Sem Value).run P w = _
  rw [Sem.run_bind, h2]; rfl
 ·rename_i xs ys
  obtain ⟨r, hr, rfl⟩ := e1A (w7B h)
  obtain ⟨us, rfl, r1⟩ := hx
  obtain ⟨vs, rfl, r2⟩ := hy
  obtain ⟨h1, h2⟩ := hagg _ _ _ hr _ _ r1 r2
  refine ⟨.bool (!r), ?_, rfl⟩
  rw [Sem.run_bind, show (eqGuard .neq t p q (.agg us.toArray) (.agg vs.toArray)).run P w = .ok () w by simp [eqGuard, h1], Result.andThen_ok]
  change (do pure (Value.bool (!(← Op.equal t (.agg us.toArray) (.agg vs.toArray)))) : Sem Value).run P w = _
  rw [Sem.run_bind, h2]; rfl
 ·exact h.elim
omit hT
theorem w5G {op : UnOp} {a v : AV} {x : Value} (h : (unV op a).gives v) (hx : b0A E a x) : ∃ z, (Op.unary op x).run P w = .ok z w ∧ b0A E v z := by
 unfold unV at h
 split at h
 ·cases h; rw [hx.int_inv]; exact ⟨_, rfl, rfl⟩
 ·cases h; rw [hx.int_inv]; exact ⟨_, rfl, rfl⟩
 ·cases h; rw [hx.bool_inv]; exact ⟨_, rfl, rfl⟩
 ·exact h.elim
theorem w6G {c : Bool} {a b v : AV} {y z : Value} (h : (a4E c a b).gives v) (ha : b0A E a y) (hb : b0A E b z) : b0A E v (if c then y else z) := by
 unfold a4E at h
 split at h
 ·cases h
  rw [ha.bool_inv, hb.bool_inv]
  cases c <;> rfl
 ·split at h
  ·rename_i hk
   subst hk
   cases h
   rw [ha.int_inv, hb.int_inv]
   cases c <;> rfl
  ·exact h.elim
 ·cases c
  ·cases h; exact hb
  ·cases h; exact ha
theorem w7G {c a b v : AV} {x y z : Value} (h : (a5E c a b).gives v) (hc : b0A E c x) (ha : b0A E a y) (hb : b0A E b z) :
  ∃ u, (do pure (if ← asBool x then y else z) : Sem Value).run P w = .ok u w ∧ b0A E v u := by
 unfold a5E at h
 split at h
 ·rename_i c
  rw [hc.bool_inv]
  exact ⟨if c then y else z, rfl, w6G h ha hb⟩
 ·exact h.elim
end
end Go.Rx
namespace Go.Rx
def k7D : List (Nat × TypeId) → List Field → Bool
 | [], [] => true
 | (o, t) :: l, f :: m => Nat.beq f.offset o && Nat.beq f.type t && k7D l m
 | _, _ => false
theorem g4F : ∀ {l : List (Nat × TypeId)} {m : List Field}, k7D l m = true → m.map (fun f => (f.offset, f.type)) = l
 | [], [], _ => rfl
 | (o, t) :: l, f :: m, h => by
  simp only [k7D, Bool.and_eq_true] at h
  rw [List.map_cons, g4F h.2, Nat.eq_of_beq_eq_true h.1.1, Nat.eq_of_beq_eq_true h.1.2]
 | [], _ :: _, h => nomatch h
 | _ :: _, [], h => nomatch h
def u8C : TD → TypeDesc → Bool
 | .bool, .bool => true
 | .int k, .int k' => decide (k' = k)
 | .str, .string => true
 | .ptr e, .pointer e' => Nat.beq e' e
 | .sl e, .slice e' => Nat.beq e' e
 | .arr n e, .array n' e' => Nat.beq n' n && Nat.beq e' e
 | .st fs, .struct F => k7D fs F.toList
 | .other, .struct _ => false
 | .other, .array .. => false
 | .other, _ => true
 | _, _ => false
theorem w8G {td : TD} {d : TypeDesc} (h : u8C td d = true) : k2D td d := by
 cases td <;> cases d <;> first
  | (cases h; done)
  | rfl
  | exact True.intro
  | (simp only [u8C] at h; rw [of_decide_eq_true h]; rfl)
  | (simp only [u8C] at h; rw [Nat.eq_of_beq_eq_true h]; rfl)
  | (simp only [u8C, Bool.and_eq_true] at h; rw [Nat.eq_of_beq_eq_true h.1, Nat.eq_of_beq_eq_true h.2]; rfl)
  | exact ⟨_, rfl, g4F h⟩
def eqZ : Value → Value → Bool
 | .int k n, .int k' n' => decide (k = k') && decide (n = n')
 | .bool b, .bool b' => b == b'
 | .string s, .string s' => Nat.beq s.size 0 && Nat.beq s'.size 0
 | .slice none 0 0, .slice none 0 0 => true
 | .pointer none, .pointer none => true
 | .nilFunc, .nilFunc => true
 | .nilIface, .nilIface => true
 | .map none, .map none => true
 | _, _ => false
theorem k8D {s : ByteArray} (h : Nat.beq s.size 0 = true) : s = ByteArray.empty := by
 have h := Nat.eq_of_beq_eq_true h
 cases s with
 | mk d => exact congrArg ByteArray.mk (Array.eq_empty_of_size_eq_zero h)
theorem w9G {v w : Value} (h : eqZ v w = true) : v = w := by
 unfold eqZ at h
 split at h <;> first
  | rfl
  | (cases h; done)
  | (simp only [Bool.and_eq_true, decide_eq_true_eq] at h; rw [h.1, h.2])
  | (simp only [beq_iff_eq] at h; rw [h])
  | (simp only [Bool.and_eq_true] at h; rw [k8D h.1, k8D h.2])
def k9D : List Value → List Value → Bool
 | [], [] => true
 | v :: l, w :: m => eqZ v w && k9D l m
 | _, _ => false
theorem g5F : ∀ {l m : List Value}, k9D l m = true → l = m
 | [], [], _ => rfl
 | v :: l, w :: m, h => by
  simp only [k9D, Bool.and_eq_true] at h
  rw [w9G h.1, g5F h.2]
 | [], _ :: _, h => nomatch h
 | _ :: _, [], h => nomatch h
def q2B {α : Type} (l : List α) : Nat → List α
 | 0 => []
 | n + 1 => l ++ q2B l n
theorem c9E {α : Type} (l : List α) : ∀ n, (q2B l n).length = n * l.length
 | 0 => by simp [q2B]
 | n + 1 => by simp only [q2B, List.length_append, c9E l n, Nat.succ_mul]; omega
theorem g6F {α : Type} (l : List α) {j : Nat} {v : α} (h : l[j]? = some v) : ∀ (n i : Nat), i < n → (q2B l n)[i * l.length + j]? = some v
 | n + 1, 0, _ => by
  have hj : j < l.length := (List.getElem?_eq_some_iff.1 h).1
  rw [q2B, Nat.zero_mul, Nat.zero_add, List.getElem?_append_left hj, h]
 | n + 1, i + 1, hi => by
  rw [q2B, List.getElem?_append_right (by rw [Nat.succ_mul]; omega), show (i + 1) * l.length + j - l.length = i * l.length + j from by rw [Nat.succ_mul]; omega]
  exact g6F l h n i (Nat.lt_of_succ_lt_succ hi)
def c5B : Ty → Option (List Value)
 | .int k => some [.int k 0]
 | .bool => some [.bool false]
 | .str => some [.string ByteArray.empty]
 | .sl _ => some [.slice none 0 0]
 | .own _ => none
 | .unit => some []
 | .pair a b => match c5B a, c5B b with
  | some u, some v => some (u ++ v)
  | _, _ => none
 | .arr n t => match c5B t with
  | some u => some (q2B u n)
  | none => none
theorem l0D : ∀ {t : Ty} {vs : List Value}, c5B t = some vs → vs.length = a0A t
 | .int _, _, h => by cases h; rfl
 | .bool, _, h => by cases h; rfl
 | .str, _, h => by cases h; rfl
 | .sl _, _, h => by cases h; rfl
 | .own _, _, h => nomatch h
 | .unit, _, h => by cases h; rfl
 | .pair a b, vs, h => by
  simp only [c5B] at h
  split at h
  ·rename_i u v h1 h2
   cases h
   rw [List.length_append, l0D h1, l0D h2]; rfl
  ·cases h
 | .arr n t, vs, h => by
  simp only [c5B] at h
  split at h
  ·rename_i u h1
   cases h
   rw [c9E, l0D h1]; rfl
  ·cases h
theorem u9C {E : Env} : ∀ {t : Ty} {vs : List Value}, c5B t = some vs → a8A E t (d1A t) vs
 | .int _, _, h => by cases h; exact rfl
 | .bool, _, h => by cases h; exact rfl
 | .str, _, h => by cases h; exact rfl
 | .sl _, _, h => by cases h; exact ⟨none, 0, rfl, ⟨Nat.le_refl _, fun _ => rfl⟩, .inl rfl⟩
 | .own _, _, h => nomatch h
 | .unit, _, h => by cases h; exact rfl
 | .pair a b, vs, h => by
  simp only [c5B] at h
  split at h
  ·rename_i u v h1 h2
   cases h
   exact ⟨u, v, rfl, u9C h1, u9C h2⟩
  ·cases h
 | .arr n t, vs, h => by
  simp only [c5B] at h
  split at h
  ·rename_i u h1
   cases h
   have hl := l0D h1
   refine ⟨List.length_replicate, by rw [c9E, hl], fun i hi => ⟨u, ?_, fun j v hj => ?_⟩⟩
   ·have : (d1A (.arr n t))[i] = d1A t := List.getElem_replicate ..
    rw [this]
    exact u9C h1
   ·rw [← hl]
    exact g6F u hj n i (by rw [show (d1A (.arr n t)).length = n from List.length_replicate] at hi; exact hi)
  ·cases h
def eqD : (t : Ty) → den t → den t → Bool
 | .int _, x, y => decide (x = y)
 | .bool, x, y => x == y
 | .str, x, y => Nat.beq x.size 0 && Nat.beq y.size 0
 | .sl t, x, y => go (eqD t) x y
 | .own _, _, _ => false
 | .unit, _, _ => true
 | .pair a b, x, y => eqD a x.1 y.1 && eqD b x.2 y.2
 | .arr _ t, x, y => go (eqD t) x y
where
 go {α : Type} (f : α → α → Bool) : List α → List α → Bool
  | [], [] => true
  | a :: l, b :: m => f a b && go f l m
  | _, _ => false
theorem d0E {α : Type} {f : α → α → Bool} (hf : ∀ a b, f a b = true → a = b) : ∀ {l m : List α}, eqD.go f l m = true → l = m
 | [], [], _ => rfl
 | a :: l, b :: m, h => by
  simp only [eqD.go, Bool.and_eq_true] at h
  rw [hf _ _ h.1, d0E hf h.2]
 | [], _ :: _, h => nomatch h
 | _ :: _, [], h => nomatch h
theorem v0C : ∀ (t : Ty) (x y : den t), eqD t x y = true → x = y
 | .int _, _, _, h => of_decide_eq_true h
 | .bool, _, _, h => beq_iff_eq.1 h
 | .str, x, y, h => by
  simp only [eqD, Bool.and_eq_true] at h
  rw [k8D h.1, k8D h.2]
 | .sl t, _, _, h => d0E (v0C t) h
 | .own _, _, _, h => nomatch h
 | .unit, _, _, _ => rfl
 | .pair a b, x, y, h => by
  simp only [eqD, Bool.and_eq_true] at h
  exact Prod.ext (v0C a _ _ h.1) (v0C b _ _ h.2)
 | .arr _ t, _, _, h => d0E (v0C t) h
def d1E : AV → Option (List Value)
 | .int k n => some [.int k n]
 | .bool b => some [.bool b]
 | .str s => some [.string s]
 | .nilsl => some [.slice none 0 0]
 | .nilp => some [.pointer none]
 | .nilf => some [.nilFunc]
 | .nilm => some [.map none]
 | .nili => some [.nilIface]
 | .arr n t l => bif eqD (.arr n t) l (d1A (.arr n t)) then c5B (.arr n t) else none
 | _ => none
theorem x0G {E : Env} : ∀ {a : AV} {vs : List Value}, d1E a = some vs → b8A E a vs := by
 intro a vs h
 cases a <;> first
  | (cases h; exact rfl)
  | (cases h; done)
  | skip
 rename_i n t l
 simp only [d1E, cond_eq_ite] at h
 split at h
 ·rename_i he
  rw [v0C _ _ _ he]
  exact u9C h
 ·cases h
def l1D : List AV → Option (List Value)
 | [] => some []
 | a :: l => match d1E a, l1D l with
  | some u, some v => some (u ++ v)
  | _, _ => none
theorem g7F {E : Env} : ∀ {l : List AV} {vs : List Value}, l1D l = some vs → b6A E l vs
 | [], _, h => by cases h; exact rfl
 | a :: l, vs, h => by
  simp only [l1D] at h
  split at h
  ·rename_i u v h1 h2
   cases h
   exact ⟨u, v, rfl, x0G h1, g7F h2⟩
  ·cases h
def l2D (P : Program) : List (Nat × TypeId) → Bool
 | [] => true
 | f :: l => (P.info? f.2).isSome && l2D P l
theorem g8F {P : Program} : ∀ {fs : List (Nat × TypeId)}, l2D P fs = true → ∃ places, fs.mapM (fun f => (P.info? f.2).map fun i => (f.1, i.size)) = some places
 | [], _ => ⟨[], rfl⟩
 | f :: l, h => by
  simp only [l2D, Bool.and_eq_true] at h
  obtain ⟨places, hp⟩ := g8F h.2
  obtain ⟨i, hi⟩ := Option.isSome_iff_exists.1 h.1
  refine ⟨(f.1, i.size) :: places, ?_⟩
  rw [List.mapM_cons, hi, hp]; rfl
def eqO (x : Option (List Value)) (vs : List Value) : Bool :=
 match x with
 | some u => k9D u vs
 | none => false
theorem g9F {x : Option (List Value)} {vs : List Value} (h : eqO x vs = true) : x = some vs := by
 cases x with
 | none => exact nomatch h
 | some u => exact congrArg some (g5F h)
def h0F (agg : Bool) : Value → Bool
 | .agg _ => agg
 | _ => !agg
theorem x1G {agg : Bool} {z : Value} (h : h0F agg z = true) : if agg then z = .agg z.cells else z.cells = #[z] := by
 cases agg <;> cases z <;> first
  | rfl
  | exact nomatch h
def d2E (P : Program) (t : TypeId) (i : s5A) : Bool :=
  (match P.underlying t with
   | some d => u8C i.td d
   | none => false) &&
  (match P.info? t with
   | some inf => Nat.beq inf.size i.size && Nat.beq inf.bytes i.bytes && (match inf.zero with
     | some z => eqO (l1D i.zc) z.cells.toList && (match i.ty with
       | some ty => eqO (c5B ty) z.cells.toList && Nat.beq (a0A ty) i.size
       | none => true) && h0F i.td.isAgg z
     | none => false)
   | none => false) &&
  (match i.td with
   | .st fs => l2D P fs
   | _ => true) &&
  (bif i.eq then (!P.stoodInHeld t && !P.eqGuardType P.depth t && (match P.underlying t with
     | some (.struct F) => F.toList.all fun f => f.name != "_"
     | _ => true)) else true)
theorem x2G {P : Program} {t : TypeId} {i : s5A} (h : d2E P t i = true) : TOK P t i := by
 simp only [d2E, Bool.and_eq_true] at h
 obtain ⟨⟨⟨h1, h2⟩, h3⟩, h9⟩ := h
 split at h1
 ·rename_i d hd
  split at h2
  ·rename_i inf hi
   simp only [Bool.and_eq_true] at h2
   obtain ⟨⟨h4, h5⟩, h6⟩ := h2
   split at h6
   ·rename_i z hz
    simp only [Bool.and_eq_true] at h6
    obtain ⟨⟨h7, h8⟩, h11⟩ := h6
    refine ⟨⟨d, hd, w8G h1⟩, ⟨inf, hi, Nat.eq_of_beq_eq_true h4, Nat.eq_of_beq_eq_true h5, z, hz, fun E => g7F (g9F h7), fun ty hty E => ?_, x1G h11⟩, fun ty hty => ?_, fun he => ?_, fun fs hfs => ?_⟩
    ·rw [hty] at h8
     simp only [Bool.and_eq_true] at h8
     exact u9C (g9F h8.1)
    ·rw [hty] at h8
     simp only [Bool.and_eq_true] at h8
     exact Nat.eq_of_beq_eq_true h8.2
    ·rw [he] at h9
     simp only [cond_true, Bool.and_eq_true, Bool.not_eq_true'] at h9
     refine ⟨h9.1.1, h9.1.2, fun F hF f hf => ?_⟩
     have h10 := h9.2
     rw [hF] at h10
     have := List.all_eq_true.1 h10 f (Array.mem_toList_iff.2 hf)
     simpa using this
    ·rw [hfs] at h3
     exact g8F h3
   ·cases h6
  ·cases h2
 ·cases h1
def d3E (P : Program) : Tab → Bool
 | [] => true
 | (t, i) :: l => d2E P t i && d3E P l
theorem i0E {P : Program} : ∀ {T : Tab}, d3E P T = true → TabOK P T
 | [], _ => fun t i h => nomatch h
 | (t, i) :: l, h => by
  simp only [d3E, Bool.and_eq_true] at h
  intro t' i' h'
  simp only [f6A, cond_eq_ite] at h'
  split at h'
  ·rename_i he
   cases h'
   rw [← Nat.eq_of_beq_eq_true he]
   exact x2G h.1
  ·exact i0E h.2 t' i' h'
end Go.Rx
namespace Go.Rx
theorem c6B (b o j : Nat) : (⟨b, o, none⟩ : Addr).add j = ⟨b, o + j, none⟩ := by
 unfold Addr.add
 split
 ·rename_i h; subst h; rfl
 ·rfl
def At (w : World) (b o : Nat) (vs : List Value) : Prop := ∀ j v, vs[j]? = some v → w.cell? ⟨b, o + j, none⟩ = some v
theorem At.cut {w : World} {b o : Nat} {vs : List Value} (h : At w b o vs) (off n : Nat) : At w b (o + off) ((vs.drop off).take n) := fun j v e => by
 rw [List.getElem?_take] at e
 split at e
 ·rw [List.getElem?_drop] at e
  rw [Nat.add_assoc]; exact h _ _ e
 ·cases e
theorem At.of_row {w : World} {b : Nat} {vs : Array Value} {e : TypeId} {fz : Nat × Nat} (h : w.heap[b]? = some (.cells vs e fz)) : At w b 0 vs.toList := fun j v hj => by
 rw [Nat.zero_add, cell_of_row w b j vs e fz h]
 simpa using hj
section
variable {P : Program} {T : Tab} (hT : TabOK P T) {E : Env} {w : World}
theorem d4E {agg : Bool} {cs : List AV} {vs : List Value} {v : AV} (h : b6A E cs vs) (e : v8B agg cs = some v) : agg = true ∨ vs.length = 1 := by
 unfold v8B at e
 split at e
 ·exact .inl rfl
 ·cases e
 ·rename_i c hc
  right
  obtain ⟨u, s, rfl, r1, r2⟩ := h
  rw [show s = [] from r2, List.append_nil, b8A.length r1]
  cases c <;> first
   | rfl
   | exact (hc _ _ _ rfl).elim
 ·cases e
include hT
theorem x3G {t : TypeId} {i : s5A} (hi : f6A t T = some i) {b off : Nat} {vs : List Value} (hl : vs.length = i.size) (hc : At w b off vs) (h1 : i.td.isAgg = true ∨ vs.length = 1) :
  (loadVar t ⟨b, off, none⟩).run P w = .ok (mkV i.td.isAgg vs) w := by
 simp only [loadVar, Sem.run_bind, u7C hT hi, Result.andThen_ok]
 cases ha : i.td.isAgg with
 | true =>
  simp only [if_true, Sem.run_bind, c4B hT hi, Result.andThen_ok]
  rw [← hl, run_loadCells_list w ⟨b, off, none⟩ vs (fun j v e => by rw [c6B]; exact hc j v e)]
  simp [mkV]
 | false =>
  have h1 : vs.length = 1 := h1.resolve_left (by rw [ha]; nofun)
  match vs, h1, hc with
  | [x], _, hc =>
   have := hc 0 x rfl
   simp only [Nat.add_zero] at this
   simp [this, mkV]
theorem l3D {t : TypeId} {i : s5A} (hi : f6A t T = some i) {cs : List AV} {vs : List Value} {b o off : Nat} {v : AV} (hc : b6A E cs vs) (ha : At w b o vs)
  (h : (p6B i cs off).gives v) : ∃ x, (loadVar t ⟨b, o + off, none⟩).run P w = .ok x w ∧ e7A E v x := by
 obtain ⟨r, e1, e2⟩ := a7B (w7B h)
 obtain ⟨h1, h2⟩ := u6C hc e1
 have hl : ((vs.drop off).take i.size).length = i.size := by rw [List.length_take, List.length_drop]; omega
 refine ⟨_, x3G hT hi hl (ha.cut off i.size) (d4E h2 e2), k1D h2 e2⟩
omit hT
theorem h2B {t' t : Ty} {l : List (den t')} {m : List (den t)} (h : v0A t' t l = some m) : ∃ e : t' = t, e ▸ l = m := by
 unfold v0A at h
 split at h
 ·rename_i e; exact ⟨e, Option.some.inj h⟩
 ·cases h
theorem v1C {cs : List AV} {vs : List Value} {off n : Nat} {ty : Ty} {l : List (den ty)} (hc : b6A E cs vs) (h : w2B cs off n ty = some l) :
  off + n * a0A ty ≤ vs.length ∧ a8A E (.arr n ty) l ((vs.drop off).take (n * a0A ty)) := by
 unfold w2B at h
 split at h
 ·rename_i n' ty' l' e
  rcases f1A h with ⟨hb, h⟩ | ⟨_, h⟩
  ·obtain ⟨rfl, e'⟩ := h2B h
   have e' : l' = l := e'
   subst e'
   have hn : n' = n := Nat.eq_of_beq_eq_true hb
   subst hn
   obtain ⟨h1, h2⟩ := u6C hc e
   obtain ⟨u, s, e, r1, r2⟩ := h2
   rw [e, show s = [] from r2, List.append_nil]
   exact ⟨h1, r1⟩
  ·cases h
 ·cases h
theorem l4D {n : Nat} {ty : Ty} {l : List (den ty)} {vs : List Value} {b o k : Nat} (h : a8A E (.arr n ty) l vs) (ha : At w b o vs) (hk : k < n) :
  ∃ cs, a8A E ty (l.getD k (d1A ty)) cs ∧ At w b (o + k * a0A ty) cs := by
 obtain ⟨e1, _, r⟩ := h
 obtain ⟨cs, r1, r2⟩ := r k (by omega)
 refine ⟨cs, by rw [List.getD_eq_getElem?_getD, List.getElem?_eq_getElem (by omega)]; exact r1, fun j v e => ?_⟩
 rw [Nat.add_assoc]; exact ha _ _ (r2 j v e)
theorem g5C {id off : Nat} {x : Value} (h : b0A E (.ptr id off) x) : id < E.N ∧ ∃ b, (E.M id).blk = some b ∧ x = .pointer (some ⟨b, off, none⟩) := by
 obtain ⟨h0, b, h1, h2⟩ := (show b8A E (.ptr id off) [x] from h)
 exact ⟨h0, b, h1, by simpa using h2⟩
theorem l5D {id off n i sub : Nat} {t : Ty} {x : Value} (h : b0A E (.ptrA id off n t i sub) x) :
  id < E.N ∧ i < n ∧ ∃ b, (E.M id).blk = some b ∧ x = .pointer (some ⟨b, off + i * a0A t + sub, none⟩) := by
 obtain ⟨h0, hi, b, h1, h2⟩ := (show b8A E (.ptrA id off n t i sub) [x] from h)
 exact ⟨h0, hi, b, h1, by simpa using h2⟩
theorem l6D {id i sub : Nat} {x : Value} (h : b0A E (.ptrO id i sub) x) :
  id < E.N ∧ i < (E.M id).len ∧ ∃ b, (E.M id).blk = some b ∧ x = .pointer (some ⟨b, (E.M id).base + i * (E.M id).wd + sub, none⟩) := by
 obtain ⟨h0, hi, b, h1, h2⟩ := (show b8A E (.ptrO id i sub) [x] from h)
 exact ⟨h0, hi, b, h1, by simpa using h2⟩
theorem d5E {t : Ty} {l : List (den t)} {i sub : Nat} {x : Value} (h : b0A E (.ptrR t l i sub) x) :
  i < l.length ∧ ∃ b o, E.ro b ∧ x = .pointer (some ⟨b, o + i * a0A t + sub, none⟩) ∧ c3B E t l b o := by
 obtain ⟨hi, b, o, h1, h2, h3⟩ := (show b8A E (.ptrR t l i sub) [x] from h)
 exact ⟨hi, b, o, h1, by simpa using h2, h3⟩
theorem x4G {m : MI} {ty : Ty} {l : List (den ty)} {b k : Nat} (h : f4A E m (.arr ty l)) (hb : m.blk = some b) (hk : k < m.len) :
  ∃ cs, a8A E ty (l.getD k (d1A ty)) cs ∧ At E.w b (m.base + k * a0A ty) cs := by
 obtain ⟨h1, h2, h⟩ := h
 rw [hb] at h
 obtain ⟨vs, e, h3, h5, h6, h7⟩ := h
 obtain ⟨cs, r1, r2⟩ := h7 k (by omega)
 refine ⟨cs, by rw [List.getD_eq_getElem?_getD, List.getElem?_eq_getElem (by omega)]; exact r1, fun j v hj => ?_⟩
 rw [cell_of_row E.w b _ vs e _ h3]
 exact r2 j v hj
include hT
theorem h1F {keep : Nat → Prop} {S : St} {t : TypeId} {a v : AV} {x : Value} (hm : b1A E keep S.objs) (h : (t7C T S t a).gives v) (hx : b0A E a x) :
  ∃ y, (Instr.loadAt t x).run P E.w = .ok y E.w ∧ e7A E v y := by
 unfold t7C at h
 split at h
 ·exact h.elim
 ·rename_i i hi
  split at h
  ·rename_i id off
   split at h
   ·rename_i cs hl
    obtain ⟨_, b, hb, rfl⟩ := g5C hx
    obtain ⟨_, b', vs, e, h1, h2, h4⟩ := hm.rep _ _ hl
    rw [hb] at h1; cases h1
    obtain ⟨y, h5, h6⟩ := l3D hT hi (w := E.w) (o := 0) h4 (At.of_row h2) h
    rw [Nat.zero_add] at h5
    exact ⟨y, by simpa [Instr.loadAt, Instr.sureAddr] using h5, h6⟩
   ·exact h.elim
  ·rename_i id off n ty k sub
   split at h
   ·rename_i cs hl
    split at h
    ·rename_i l hA
     obtain ⟨_, hk, b, hb, rfl⟩ := l5D hx
     obtain ⟨_, b', vs, e, h1, h2, h4⟩ := hm.rep _ _ hl
     rw [hb] at h1; cases h1
     obtain ⟨_, h5⟩ := v1C h4 hA
     obtain ⟨cs', r1, r2⟩ := l4D (w := E.w) h5 ((At.of_row h2).cut off (n * a0A ty)) hk
     obtain ⟨y, h5, h6⟩ := l3D hT hi (a8B r1) r2 h
     rw [Nat.zero_add] at h5
     exact ⟨y, by simpa [Instr.loadAt, Instr.sureAddr] using h5, h6⟩
    ·exact h.elim
   ·exact h.elim
  ·rename_i id k sub
   split at h
   ·rename_i ty l hl
    obtain ⟨_, hk, b, hb, rfl⟩ := l6D hx
    obtain ⟨_, ho⟩ := hm.rep _ _ hl
    have hwd : (E.M id).wd = a0A ty := ho.2.1
    obtain ⟨cs', r1, r2⟩ := x4G ho hb hk
    obtain ⟨y, h5, h6⟩ := l3D hT hi (a8B r1) r2 h
    rw [← hwd] at h5
    exact ⟨y, by simpa [Instr.loadAt, Instr.sureAddr] using h5, h6⟩
   ·exact h.elim
  ·rename_i ty l k sub
   obtain ⟨hk, b, o, hb, rfl, h1⟩ := d5E hx
   obtain ⟨cs', r1, r2⟩ := h1 k hk
   have e : l.getD k (d1A ty) = l[k] := by rw [List.getD_eq_getElem?_getD, List.getElem?_eq_getElem hk]; rfl
   rw [e] at h
   obtain ⟨y, h5, h6⟩ := l3D hT hi (w := E.w) (a8B r1) (fun j v e => r2 j v e) h
   exact ⟨y, by simpa [Instr.loadAt, Instr.sureAddr] using h5, h6⟩
  ·exact h.elim
end
end Go.Rx
namespace Go.Rx
theorem h2F {E : Env} : ∀ {l : List AV} {vs : List Value} {i : Nat} {v : AV}, p0A E l vs → a1E l i = some v → ∃ x, vs[i]? = some x ∧ e7A E v x
 | [], _, i, v, _, h => by cases i <;> cases h
 | a :: l, vs, 0, v, r, h => by
  obtain ⟨x, s, rfl, r1, _⟩ := r
  cases h; exact ⟨x, rfl, r1⟩
 | a :: l, vs, i + 1, v, r, h => by
  obtain ⟨x, s, rfl, _, r2⟩ := r
  exact h2F (l := l) (i := i) r2 h
theorem l7D : ∀ (l : List (Nat × TypeId)) (i : Nat), f0C l i = l[i]?
 | [], i => by cases i <;> rfl
 | f :: l, 0 => rfl
 | f :: l, i + 1 => by rw [List.getElem?_cons_succ]; exact l7D l i
theorem q3B {E : Env} {v : AV} {x : Value} {cs : List AV} (h : b0A E v x) (e : p9A v = some cs) : b6A E cs x.cells.toList := by
  cases v <;> simp only [p9A] at e <;> first
    | (cases e; done)
    | (cases e
       obtain ⟨vs, rfl, h⟩ := h
       simpa [Value.cells] using h)
    | (cases e
       have hc : b8A E _ [x] := h
       have h1 := b8A.one hc x (by simp)
       have : x.cells = #[x] := by cases x <;> first | rfl | (simp [Value.oneCell'] at h1)
       rw [this]
       exact ⟨[x], [], rfl, hc, rfl⟩)
theorem h3F {E : Env} {v : AV} {x : Value} (h : b0A E v x) (e : s6A v = true) : b8A E v [x] := by
 cases v <;> first
  | (cases e; done)
  | exact h
theorem d6E {E : Env} {S : St} {a : Act} (h : e8A E S.tmps a.tmps) : ∀ (l : List Operand), b9B (d3A (ev S) l) = true → i8A E (d3A (ev S) l) (l.map a.eval)
 | [], _ => rfl
 | x :: l, hc => by
  simp only [d3A, b9B, Bool.and_eq_true] at hc
  exact ⟨a.eval x, l.map a.eval, rfl, hc.1, h3F (d8A h x) hc.1, d6E h l hc.2⟩
section
variable {P : Program} {T : Tab} (hT : TabOK P T) {E : Env} {w : World}
theorem h4F {α : Type} {a : Array α} {x : α} (h : a.toList = [x]) : a = #[x] := by
 have : a = a.toList.toArray := by simp
 rw [this, h]
theorem l8D {α : Type} {a : Array α} {x y : α} (h : a.toList = [x, y]) : a = #[x, y] := by
 have : a = a.toList.toArray := by simp
 rw [this, h]
include hT
theorem x5G {t : TypeId} {a v : AV} {x : Value} {f : Nat} (h : (a6E T t a f).gives v) (hx : b0A E a x) :
  ∃ y, (Instr.fieldAt t x f).run P w = .ok y w ∧ e7A E v y := by
 unfold a6E at h
 split at h
 ·rename_i fs htd
  split at h
  ·rename_i o ft hn
   split at h
   ·rename_i fi hfi
    obtain ⟨d, hu, F, rfl, rfl⟩ := q0A hT htd
    rw [l7D, List.getElem?_map] at hn
    cases hF : F.toList[f]? with
    | none => rw [hF] at hn; cases hn
    | some g =>
     rw [hF] at hn
     cases hn
     have hF : F[f]? = some g := by simpa using hF
     cases hz : Nat.beq fi.size 0 with
     | true => rw [hz] at h; exact h.elim
     | false =>
      rw [hz] at h
      have hz : ¬ fi.size = 0 := fun e => by rw [e] at hz; cases hz
      have key : ∀ b o', (Instr.fieldAt t (.pointer (some ⟨b, o', none⟩)) f).run P w = .ok (.pointer (some ⟨b, o' + g.offset, none⟩)) w := by
       intro b o'
       simp [Instr.fieldAt, f9A hu, hF, Instr.sureAddr, fieldPlace, c4B hT hfi, hz, c6B]
      simp only [cond_false] at h
      split at h
      ·cases h
       obtain ⟨h0, b, h1, rfl⟩ := g5C hx
       exact ⟨_, key _ _, h0, b, h1, rfl⟩
      ·cases h
       obtain ⟨h0, hi, b, h1, rfl⟩ := l5D hx
       exact ⟨_, key _ _, h0, hi, b, h1, by rw [Nat.add_assoc]⟩
      ·cases h
       obtain ⟨h0, hi, b, h1, rfl⟩ := l6D hx
       exact ⟨_, key _ _, h0, hi, b, h1, by rw [Nat.add_assoc]⟩
      ·cases h
       obtain ⟨hi, b, o, h1, rfl, h3⟩ := d5E hx
       exact ⟨_, key _ _, hi, b, o, h1, by rw [Nat.add_assoc], h3⟩
      ·exact h.elim
   ·exact h.elim
  ·exact h.elim
 ·exact h.elim
theorem x6G {t : TypeId} {i : s5A} (hi : f6A t T = some i) {cs : List AV} {vs : List Value} {off : Nat} {v : AV} (hc : b6A E cs vs) (h : (p6B i cs off).gives v) :
  ∃ y, (part t vs.toArray off).run P w = .ok y w ∧ e7A E v y := by
 obtain ⟨r, e1, e2⟩ := a7B (w7B h)
 obtain ⟨h1, h2⟩ := u6C hc e1
 refine ⟨_, ?_, k1D h2 e2⟩
 have h3 := d4E h2 e2
 simp only [part, Sem.run_bind, u7C hT hi, Result.andThen_ok]
 cases ha : i.td.isAgg with
 | true =>
  simp only [if_true, Sem.run_bind, c4B hT hi, Result.andThen_ok, Sem.run_pure, mkV, List.extract_toArray]
  congr 3
  rw [List.extract_eq_take_drop, Nat.add_sub_cancel_left]
 | false =>
  have h3 := h3.resolve_left (by rw [ha]; nofun)
  rw [List.length_take, List.length_drop] at h3
  have hlt : off < vs.length := by omega
  simp only [Bool.false_eq_true, if_false, List.getElem?_toArray, List.getElem?_eq_getElem hlt, Sem.run_pure, mkV]
  congr 1
  rw [List.headD_eq_head?_getD, List.head?_take, if_neg (by omega), List.head?_drop, List.getElem?_eq_getElem hlt]; rfl
theorem x7G {t : TypeId} {a v : AV} {x : Value} {f : Nat} (h : (a7E T t a f).gives v) (hx : b0A E a x) :
  ∃ y, (Instr.field t x f).run P w = .ok y w ∧ e7A E v y := by
 unfold a7E at h
 split at h
 ·rename_i fs cs htd
  split at h
  ·rename_i o ft hn
   split at h
   ·rename_i fi hfi
    obtain ⟨d, hu, F, rfl, rfl⟩ := q0A hT htd
    rw [l7D, List.getElem?_map] at hn
    cases hF : F.toList[f]? with
    | none => rw [hF] at hn; cases hn
    | some g =>
     rw [hF] at hn
     cases hn
     have hF : F[f]? = some g := by simpa using hF
     obtain ⟨vs, rfl, hc⟩ := hx
     obtain ⟨y, h1, h2⟩ := x6G hT (w := w) hfi hc h
     exact ⟨y, by simp [Instr.field, f9A hu, hF, asAgg, h1], h2⟩
   ·exact h.elim
  ·exact h.elim
 ·exact h.elim
omit hT
theorem g6C {i : Int} {n : Nat} (h : a2A i n = true) : 0 ≤ i ∧ i < n := by
 simpa [a2A] using h
include hT
theorem g7C {e : TypeId} {ty : Ty} (h : x2A T e ty = true) : (sizeOf e).run P w = .ok (a0A ty) w := by
 unfold x2A at h
 split at h
 ·rename_i i hi
  rw [c4B hT hi, Nat.eq_of_beq_eq_true h]
 ·cases h
omit hT
theorem d7E {S : St} {e : TypeId} {id n : Nat} (h : t8C T S e id = some n) : ∃ ty l, a9A id S.objs = some (.arr ty l) ∧ x2A T e ty = true ∧ n = l.length := by
 unfold t8C at h
 split at h
 ·rename_i ty l hl
  rcases f1A h with ⟨hb, h⟩ | ⟨_, h⟩
  ·cases h; exact ⟨ty, l, hl, hb, rfl⟩
  ·cases h
 ·cases h
theorem l9D (r : Option (Nat × Nat)) (i : Nat) : i5D r i = f0A r + i := by
 cases r with
 | none => simp [i5D, f0A]
 | some p => rfl
theorem q4B {id : Nat} {r : Option (Nat × Nat)} {x : Value} (h : b0A E (.oref id r) x) : id < E.N ∧ match (E.M id).blk with
  | none => x = .slice none 0 0 ∧ f0A r = 0 ∧ j1A (E.M id).len r = 0
  | some b => ∃ o cap, x = .slice (some ⟨b, o, none⟩) (j1A (E.M id).len r) cap ∧ j1A (E.M id).len r ≤ cap ∧ f0A r + j1A (E.M id).len r ≤ (E.M id).len ∧
    (cap = 0 ∨ (o = (E.M id).base + f0A r * (E.M id).wd ∧ f0A r + cap ≤ (E.M id).cap)) := by
 obtain ⟨h0, h⟩ := (show b8A E (.oref id r) [x] from h)
 refine ⟨h0, ?_⟩
 cases hb : (E.M id).blk with
 | none =>
  rw [hb] at h
  exact ⟨by simpa using h.1, h.2⟩
 | some b =>
  rw [hb] at h
  obtain ⟨o, cap, e, r⟩ := h
  exact ⟨o, cap, by simpa using e, r⟩
include hT
theorem x8G {keep : Nat → Prop} {S : St} {t : TypeId} {a ix v : AV} {x y : Value} (hm : b1A E keep S.objs) (h : (a8E T S t a ix).gives v) (hx : b0A E a x) (hy : b0A E ix y) :
  ∃ z, (Instr.indexAt t x y).run P w = .ok z w ∧ e7A E v z := by
 unfold a8E at h
 split at h
 ·rename_i n e id off k i htd
  obtain ⟨d, hu, rfl⟩ := q0A hT htd
  split at h
  ·rename_i ei cs hei hl
   split at h
   ·rename_i n' ty l hcut
    cases hb : Nat.beq ei.size (a0A ty) with
    | false => rw [hb] at h; exact h.elim
    | true =>
     rw [hb] at h
     obtain ⟨hw, rfl⟩ := h
     have hw := g6C hw
     have hsz := Nat.eq_of_beq_eq_true hb
     obtain ⟨h0, b, h1, rfl⟩ := g5C hx
     rw [hy.int_inv]
     refine ⟨.pointer (some ⟨b, off + i.toNat * a0A ty + 0, none⟩), ?_, h0, by omega, b, h1, rfl⟩
     simp [Instr.indexAt, asIntOf, f9A hu, Instr.sureAddr, hw.1, hw.2, c4B hT hei, c6B, hsz]
   ·exact h.elim
  ·exact h.elim
 ·rename_i e ty l k i htd
  obtain ⟨d, hu, rfl⟩ := q0A hT htd
  cases hb : x2A T e ty with
  | false => rw [hb] at h; exact h.elim
  | true =>
   rw [hb] at h
   obtain ⟨hw, rfl⟩ := h
   have hw := g6C hw
   obtain ⟨a, cap, e1, hc, r⟩ := (show a8A E (.sl ty) l [x] from hx)
   have e1 : x = .slice a l.length cap := by simpa using e1
   subst e1
   rw [hy.int_inv]
   obtain ⟨b, o, rfl, hro, r⟩ := r.resolve_left (by omega)
   refine ⟨.pointer (some ⟨b, o + i.toNat * a0A ty + 0, none⟩), ?_, by omega, b, o, hro, rfl, r⟩
   simp [Instr.indexAt, asIntOf, f9A hu, hw.1, hw.2, g7C hT hb, c6B]
 ·rename_i e id rg k i htd
  obtain ⟨d, hu, rfl⟩ := q0A hT htd
  split at h
  ·rename_i n hn
   obtain ⟨ty, l, hl, hb, rfl⟩ := d7E hn
   obtain ⟨hw, rfl⟩ := h
   have hw := g6C hw
   obtain ⟨_, hlen, hwd, _⟩ := hm.rep _ _ hl
   obtain ⟨h0, r⟩ := q4B hx
   rw [hy.int_inv]
   rw [← hlen] at hw
   split at r
   ·omega
   ·rename_i b hblk
    obtain ⟨o, cap, rfl, hc, hl2, hcap⟩ := r
    have hcap := hcap.resolve_left (by omega)
    refine ⟨.pointer (some ⟨b, (E.M id).base + (f0A rg + i.toNat) * (E.M id).wd + 0, none⟩), ?_, h0, by rw [l9D]; omega, b, hblk, by rw [l9D]⟩
    simp [Instr.indexAt, asIntOf, f9A hu, hw.1, hw.2, g7C hT hb, c6B, hcap.1, hwd, Nat.add_mul, Nat.add_assoc]
  ·exact h.elim
 ·rename_i e id off n ty lo len k i htd
  obtain ⟨d, hu, rfl⟩ := q0A hT htd
  cases hb : x2A T e ty with
  | false => rw [hb] at h; exact h.elim
  | true =>
   rw [hb] at h
   obtain ⟨hw, rfl⟩ := h
   have hw := g6C hw
   obtain ⟨h0, hn, b, o, h1, e1, ho⟩ := (show b8A E (.bsl id off n ty lo len) [x] from hx)
   cases e1
   rw [hy.int_inv]
   have ho := ho.resolve_left (by omega)
   refine ⟨.pointer (some ⟨b, off + (i.toNat + lo) * a0A ty + 0, none⟩), ?_, h0, by omega, b, h1, rfl⟩
   simp [Instr.indexAt, asIntOf, f9A hu, hw.1, hw.2, g7C hT hb, c6B, ho, Nat.add_mul, Nat.add_assoc, Nat.add_comm (i.toNat * a0A ty)]
 ·exact h.elim
end
end Go.Rx
namespace Go.Rx
section
variable {P : Program} {T : Tab} (hT : TabOK P T) {E : Env} {w : World}
def w8B (d : Nat) (e : TypeId) (n : Nat) (xs ys : Array Value) : List Nat → Sem Bool
 | [] => pure true
 | i :: l => do
   let a ← part e xs (i * n)
   let b ← part e ys (i * n)
   let r ← Op.equalIn d e a b
   if (!r) = true then pure false else w8B d e n xs ys l
theorem x9G (w : World) (d : Nat) (t e : TypeId) (len n : Nat) (xs ys : Array Value) (ht : P.underlying t = some (.array len e)) (hn : ∀ w, (sizeOf e).run P w = .ok n w) :
  (Op.equalIn (d + 1) t (.agg xs) (.agg ys)).run P w = (w8B d e n xs ys (List.range' 0 len)).run P w := by
 simp only [Op.equalIn, Sem.run_bind, f9A ht, Result.andThen_ok, hn]
 simp only [Std.Legacy.Range.forIn_eq_forIn_range', Std.Legacy.Range.size, Nat.sub_zero, Nat.add_one_sub_one, Nat.div_one]
 generalize List.range' 0 len = l
 clear ht hn
 induction l generalizing w with
 | nil => simp [w8B]
 | cons i l ih =>
  simp only [List.forIn_cons, w8B, Sem.run_bind, Sem.run_ite]
  generalize (part e xs (i * n)).run P w = r1
  cases r1 with
  | ok a w1 =>
   simp only [Result.andThen_ok]
   generalize (part e ys (i * n)).run P w1 = r2
   cases r2 with
   | ok b w2 =>
    simp only [Result.andThen_ok]
    generalize (Op.equalIn d e a b).run P w2 = r3
    cases r3 with
    | ok r w3 =>
     cases r
     ·simp only [Result.andThen_ok, Bool.not_false, if_true, Sem.run_pure]
     ·simp only [Result.andThen_ok, Bool.not_true, Bool.false_eq_true, if_false, Sem.run_pure]
      exact ih w3
    | halt x w3 => simp [Result.andThen]
   | halt x w2 => simp [Result.andThen]
  | halt x w1 => simp [Result.andThen]
def isV (i : s5A) (us : List Value) (x : Value) : Prop := if i.td.isAgg = true then x = .agg us.toArray else us = [x]
theorem y0G {l m : List Int} (h : l.length = m.length) (i : Nat) (hi : i < l.length) : (l.drop i == m.drop i) = ((l.getD i 0 == m.getD i 0) && (l.drop (i + 1) == m.drop (i + 1))) := by
 rw [List.drop_eq_getElem_cons hi, List.drop_eq_getElem_cons (show i < m.length by omega)]
 rw [List.cons_beq_cons]
 congr 2
 ·rw [List.getD_eq_getElem?_getD, List.getElem?_eq_getElem hi]; rfl
 ·rw [List.getD_eq_getElem?_getD, List.getElem?_eq_getElem (show i < m.length by omega)]; rfl
include hT
theorem h5F {t : TypeId} {i : s5A} (hi : f6A t T = some i) {us : List Value} {off : Nat} (hl : off + i.size ≤ us.length) (h1 : i.td.isAgg = false → i.size = 1) :
  ∃ x, (part t us.toArray off).run P w = .ok x w ∧ isV i ((us.drop off).take i.size) x := by
 simp only [part, Sem.run_bind, u7C hT hi, Result.andThen_ok]
 cases ha : i.td.isAgg with
 | true =>
  refine ⟨.agg (us.toArray.extract off (off + i.size)), by simp [c4B hT hi], ?_⟩
  unfold isV
  rw [if_pos ha]
  congr 1
  apply Array.toList_inj.1
  simp
 | false =>
  have hs := h1 ha
  have hlt : off < us.length := by omega
  refine ⟨us[off], by simp [hlt], ?_⟩
  unfold isV
  rw [if_neg (by rw [ha]; simp), hs, List.drop_eq_getElem_cons hlt]; rfl
theorem y1G {e : TypeId} {i : s5A} (hi : f6A e T = some i) {k0 : IntKind} (hk : i.td = .int k0) (hs : i.size = 1) {k : IntKind} {n : Nat} {l m : List Int} {us vs : List Value} (hu : a8A E (.arr n (.int k)) l us) (hv : a8A E (.arr n (.int k)) m vs) (D : Nat) :
  ∀ (c s : Nat), s + c = n → (w8B (D + 1) e 1 us.toArray vs.toArray (List.range' s c)).run P w = .ok (l.drop s == m.drop s) w := by
 obtain ⟨u1, u2, u3⟩ := hu
 obtain ⟨v1, v2, v3⟩ := hv
 have hw : a0A (.int k) = 1 := rfl
 have hden : P.underlying e = some (.int k0) := by
  obtain ⟨d, h1, h2⟩ := (hT e i hi).und
  rw [hk] at h2
  rw [h1, show d = .int k0 from h2]
 intro c
 induction c with
 | zero =>
  intro s hs'
  rw [List.range'_zero, List.drop_eq_nil_of_le (by omega), List.drop_eq_nil_of_le (by omega)]
  simp [w8B]
 | succ c ih =>
  intro s hs'
  have get : ∀ {l : List Int} {us : List Value}, l.length = n → (∀ i, (h : i < l.length) → ∃ cs, a8A E (.int k) l[i] cs ∧ ∀ j v, cs[j]? = some v → us[i * a0A (.int k) + j]? = some v) →
    us[s]? = some (.int k (l.getD s 0)) := by
   intro l us h1 h3
   obtain ⟨cs, r1, r2⟩ := h3 s (by omega)
   have r1 : cs = [.int k l[s]] := r1
   subst r1
   have := r2 0 _ rfl
   rw [hw] at this
   have hs3 : s < l.length := by rw [h1]; omega
   rw [List.getD_eq_getElem?_getD, List.getElem?_eq_getElem hs3]
   simpa using this
  have gu := get u1 u3
  have gv := get v1 v3
  have hp : ∀ {us : List Value} {x : Int}, us[s]? = some (.int k x) → (part e us.toArray (s * 1)).run P w = .ok (.int k x) w := by
   intro us x hx
   simp only [part, Sem.run_bind, u7C hT hi, hk, TD.isAgg, Result.andThen_ok, Nat.mul_one, List.getElem?_toArray, hx]
   rfl
  rw [List.range'_succ]
  simp only [w8B, Sem.run_bind, hp gu, hp gv, Result.andThen_ok, run_equalIn_int w D e k k0 _ _ hden]
  rw [y0G (by omega) s (by omega)]
  cases hb : (l.getD s 0 == m.getD s 0) with
  | false => simp
  | true =>
   simp only [Bool.not_true, Bool.false_eq_true, if_false, Bool.true_and]
   exact ih (s + 1) (by omega)
theorem h6F : ∀ (d : Nat) (t : TypeId) (xs ys : List AV) (b : Bool), eqC T d t xs ys = some b → ∀ us vs : List Value, b6A E xs us → b6A E ys vs →
  ∃ i, f6A t T = some i ∧ (i.td.isAgg = false → us.length = 1 ∧ vs.length = 1) ∧ ∀ x y, isV i us x → isV i vs y → ∀ D, d + 2 ≤ D → (Op.equalIn D t x y).run P w = .ok b w
 | 0, t, xs, ys, b, h => by cases h
 | d + 1, t, xs, ys, b, h => by
  intro us vs hu hv
  simp only [eqC] at h
  split at h
  ·cases h
  rename_i i hi
  refine ⟨i, hi, ?_⟩
  obtain ⟨de, hund, htd⟩ := (hT t i hi).und
  split at h
  ·rename_i a c htdi
   cases h
   rw [htdi] at htd
   have htd : de = .bool := htd
   subst htd
   obtain ⟨_, _, rfl, r1, r2⟩ := hu
   obtain ⟨_, _, rfl, r3, r4⟩ := hv
   have r1 : _ = [Value.bool _] := r1
   have r3 : _ = [Value.bool _] := r3
   have r2 : _ = [] := r2
   have r4 : _ = [] := r4
   subst r1; subst r2; subst r3; subst r4
   refine ⟨fun _ => ⟨rfl, rfl⟩, fun x y hx hy D hD => ?_⟩
   simp only [isV, htdi, TD.isAgg, Bool.false_eq_true, if_false, List.append_nil, List.cons.injEq, and_true] at hx hy
   subst hx; subst hy
   obtain ⟨D, rfl⟩ : ∃ D', D = D' + 1 := ⟨D - 1, by omega⟩
   exact run_equalIn_bool' w D t _ _ hund
  ·rename_i k0 k a k' c htdi
   split at h
   ·rename_i hk
    subst hk
    cases h
    rw [htdi] at htd
    have htd : de = .int k0 := htd
    subst htd
    obtain ⟨_, _, rfl, r1, r2⟩ := hu
    obtain ⟨_, _, rfl, r3, r4⟩ := hv
    have r1 : _ = [Value.int _ _] := r1
    have r3 : _ = [Value.int _ _] := r3
    have r2 : _ = [] := r2
    have r4 : _ = [] := r4
    subst r1; subst r2; subst r3; subst r4
    refine ⟨fun _ => ⟨rfl, rfl⟩, fun x y hx hy D hD => ?_⟩
    simp only [isV, htdi, TD.isAgg, Bool.false_eq_true, if_false, List.append_nil, List.cons.injEq, and_true] at hx hy
    subst hx; subst hy
    obtain ⟨D, rfl⟩ : ∃ D', D = D' + 1 := ⟨D - 1, by omega⟩
    exact run_equalIn_int w D t k _ _ _ hund
   ·cases h
  ·rename_i a c htdi
   cases h
   rw [htdi] at htd
   have htd : de = .string := htd
   subst htd
   obtain ⟨_, _, rfl, r1, r2⟩ := hu
   obtain ⟨_, _, rfl, r3, r4⟩ := hv
   have r1 : _ = [Value.string _] := r1
   have r3 : _ = [Value.string _] := r3
   have r2 : _ = [] := r2
   have r4 : _ = [] := r4
   subst r1; subst r2; subst r3; subst r4
   refine ⟨fun _ => ⟨rfl, rfl⟩, fun x y hx hy D hD => ?_⟩
   simp only [isV, htdi, TD.isAgg, Bool.false_eq_true, if_false, List.append_nil, List.cons.injEq, and_true] at hx hy
   subst hx; subst hy
   obtain ⟨D, rfl⟩ : ∃ D', D = D' + 1 := ⟨D - 1, by omega⟩
   exact run_equalIn_string w D t _ _ hund
  ·rename_i n e n1 k1 l1 n2 k2 l2 htdi
   split at h
   ·rename_i hc
    obtain ⟨rfl, rfl, rfl, he⟩ := hc
    cases h
    rw [htdi] at htd
    have htd : de = .array _ e := htd
    subst htd
    obtain ⟨_, _, rfl, r1, r2⟩ := hu
    obtain ⟨_, _, rfl, r3, r4⟩ := hv
    have r2 : _ = [] := r2
    have r4 : _ = [] := r4
    subst r2; subst r4
    refine ⟨fun ha => (by rw [htdi] at ha; cases ha), fun x y hx hy D hD => ?_⟩
    simp only [isV, htdi, TD.isAgg, if_true, List.append_nil] at hx hy
    subst hx; subst hy
    unfold f3F at he
    split at he
    ·rename_i ei hei
     split at he
     ·rename_i k0 hek
      have hes := Nat.eq_of_beq_eq_true he
      obtain ⟨D, rfl⟩ : ∃ D', D = D' + 1 + 1 := ⟨D - 2, by omega⟩
      rw [x9G w (D + 1) t e _ 1 _ _ hund (fun w => by rw [c4B hT hei, hes])]
      have := y1G hT (w := w) hei hek hes r1 r3 D _ 0 (Nat.zero_add _)
      simpa using this
     ·cases he
    ·cases he
   ·cases h
  ·rename_i xs ys _ _ _ fs htdi
   rcases f1A h with ⟨hq, h⟩ | ⟨_, h⟩
   ·obtain ⟨hs1, hs2, hs3⟩ := (hT t i hi).eqs hq
    rw [htdi] at htd
    obtain ⟨F, rfl, rfl⟩ := htd
    refine ⟨fun ha => (by rw [htdi] at ha; cases ha), fun x y hx hy D hD => ?_⟩
    simp only [isV, htdi, TD.isAgg, if_true] at hx hy
    subst hx; subst hy
    obtain ⟨D, rfl⟩ : ∃ D', D = D' + 1 := ⟨D - 1, by omega⟩
    have hfo : P.fieldsOf t = F := by simp only [Program.fieldsOf, hund]
    rw [run_equalIn_struct w D t _ _ (by rw [hfo]; exact hund) hs1, hfo]
    have key : ∀ (l : List Field) (b : Bool), (∀ f ∈ l, f.name ≠ "_") → i3D T (eqC T d) xs ys (l.map fun f => (f.offset, f.type)) = some b → (Op.eqFields D us.toArray vs.toArray l).run P w = .ok b w := by
     intro l
     induction l with
     | nil => intro b _ h; cases h; simp [Op.eqFields]
     | cons f l ih =>
      intro b hn h
      simp only [List.map_cons, i3D] at h
      split at h
      ·rename_i fi hfi
       split at h
       ·rename_i ca cb hca hcb
        split at h
        ·rename_i r hr
         split at h
         ·rename_i s hs
          cases h
          obtain ⟨g1, g2⟩ := u6C hu hca
          obtain ⟨g3, g4⟩ := u6C hv hcb
          obtain ⟨fi', hfi', hone, heq⟩ := h6F d f.type ca cb r hr _ _ g2 g4
          rw [hfi] at hfi'; cases hfi'
          have hsz : fi.td.isAgg = false → fi.size = 1 := fun ha => by
           have := (hone ha).1
           rw [List.length_take, List.length_drop] at this; omega
          obtain ⟨x, hx1, hx2⟩ := h5F hT (w := w) hfi g1 hsz
          obtain ⟨y, hy1, hy2⟩ := h5F hT (w := w) hfi g3 hsz
          simp only [Op.eqFields, if_pos (hn f List.mem_cons_self), Sem.run_bind, hx1, hy1, Result.andThen_ok, heq x y hx2 hy2 D (by omega)]
          cases r with
          | false => simp
          | true =>
           simp only [Bool.not_true, Bool.false_eq_true, if_false, Bool.true_and]
           exact ih s (fun f' hf' => hn f' (List.mem_cons_of_mem _ hf')) hs
         ·cases h
        ·cases h
       ·cases h
      ·cases h
    exact key _ _ (fun f hf => hs3 F hund f (Array.mem_toList_iff.1 hf)) h
   ·cases h
  ·cases h
theorem y2G {t : TypeId} : g3F P T E w t := by
 intro xs ys b h us vs hu hv
 unfold i4D at h
 split at h
 ·rename_i i hi
  rcases f1A h with ⟨hq, h⟩ | ⟨_, h⟩
  ·rw [Bool.and_eq_true] at hq
   obtain ⟨hs1, hs2, hs3⟩ := (hT t i hi).eqs hq.1
   obtain ⟨i', hi', hone, heq⟩ := h6F hT (w := w) 8 t xs ys b h us vs hu hv
   rw [hi] at hi'; cases hi'
   refine ⟨hs2, ?_⟩
   exact heq _ _ (by rw [isV, if_pos hq.2]) (by rw [isV, if_pos hq.2]) 10000 (by omega)
  ·cases h
 ·cases h
end
end Go.Rx
namespace Go.Rx
section
variable {P : Program} {T : Tab} (hT : TabOK P T) {E : Env} {w : World}
include hT
theorem y3G {t : TypeId} {a ix v : AV} {x y : Value} (h : (a9E T t a ix).gives v) (hx : b0A E a x) (hy : b0A E ix y) :
  ∃ z, (Instr.index t x y).run P w = .ok z w ∧ e7A E v z := by
 unfold a9E at h
 split at h
 ·rename_i n e n' ty l k i htd
  obtain ⟨d, hu, rfl⟩ := q0A hT htd
  split at h
  ·rename_i ei hei
   rcases hb : (Nat.beq n' n && Nat.beq ei.size (a0A ty)) with _ | _
   ·rw [hb] at h; exact h.elim
   ·rw [hb] at h
    obtain ⟨hw, hv⟩ := v8G h
    have hw := g6C hw
    rw [Bool.and_eq_true] at hb
    have hn : n' = n := Nat.eq_of_beq_eq_true hb.1
    have hsz := Nat.eq_of_beq_eq_true hb.2
    subst hn
    obtain ⟨vs, rfl, u, s, rfl, r1, rfl⟩ := hx
    rw [List.append_nil]
    obtain ⟨e1, e2, r⟩ := (show a8A E (.arr n' ty) l u from r1)
    obtain ⟨cs, r1, r2⟩ := r i.toNat (by omega)
    rw [hy.int_inv]
    have hg : l.getD i.toNat (d1A ty) = l[i.toNat]'(by omega) := by rw [List.getD_eq_getElem?_getD, List.getElem?_eq_getElem (by omega)]; rfl
    rw [hg] at hv
    have hc := a8B r1
    have hcl := a8A.length r1
    have hcut : (p6B ei (i2A (enc ty (l[i.toNat]'(by omega))) []) 0).gives v ∨ True := .inr trivial
    have hseg : (u.drop (i.toNat * a0A ty)).take (a0A ty) = cs := by
     apply List.ext_getElem?
     intro j
     rw [List.getElem?_take]
     by_cases hj : j < a0A ty
     ·rw [if_pos hj, List.getElem?_drop]
      have hj' : j < cs.length := by omega
      rw [List.getElem?_eq_getElem hj', r2 j _ (List.getElem?_eq_getElem hj')]
     ·rw [if_neg hj, List.getElem?_eq_none (by omega)]
    have h3 := d4E hc hv
    refine ⟨_, ?_, k1D hc hv⟩
    simp only [Instr.index, asIntOf, Sem.run_bind, Sem.run_pure, Result.andThen_ok, f9A hu]
    rw [if_pos ⟨hw.1, by omega⟩]
    simp only [Sem.run_bind, c4B hT hei, Result.andThen_ok, part, u7C hT hei, hsz]
    cases ha : ei.td.isAgg with
    | true =>
     simp only [if_true, Sem.run_bind, c4B hT hei, Result.andThen_ok, Sem.run_pure, mkV, List.extract_toArray, hsz]
     congr 3
     rw [List.extract_eq_take_drop, Nat.add_sub_cancel_left]; exact hseg
    | false =>
     have h3 := h3.resolve_left (by rw [ha]; nofun)
     have := r2 0 (cs[0]'(by omega)) (List.getElem?_eq_getElem (by omega))
     simp only [Nat.add_zero] at this
     simp only [Bool.false_eq_true, if_false, List.getElem?_toArray, this, Sem.run_pure, mkV]
     congr 1
     match cs, h3 with
     | [c], _ => rfl
  ·exact h.elim
 ·rename_i s k i htd
  obtain ⟨d, hu, rfl⟩ := q0A hT htd
  obtain ⟨hw, rfl⟩ := h
  have hw := g6C hw
  rw [hx.str_inv, hy.int_inv]
  have hlt : i.toNat < s.size := by omega
  refine ⟨.int .u8 ((s.data.getD i.toNat 0).toNat : Int), ?_, rfl⟩
  have e : s[i.toNat]? = some (s.data.getD i.toNat 0) := by
   rw [getElem?_pos s i.toNat hlt]
   congr 1
   have hlt : i.toNat < s.data.size := hlt
   rw [Array.getD_eq_getD_getElem?, Array.getElem?_eq_getElem hlt]
   rfl
  simp [Instr.index, asIntOf, f9A hu, hw.1, e]
 ·exact h.elim
omit hT
theorem v2C {S : St} {a : Act} (hs : e8A E S.tmps a.tmps) {isSlice : Bool} {len cap : Nat} {lo hi : Option Operand} {l h : Int}
  (hl : loB S lo = some l) (hh : hiB S len hi = some h) (h0 : 0 ≤ l) (h1 : l ≤ h) (h2 : h ≤ cap) :
  (Instr.sliceBounds isSlice len cap (lo.map a.eval) (hi.map a.eval) none).run P w = .ok (l.toNat, h.toNat, cap) w := by
 have eh : ∃ x, hi.map a.eval = x ∧ ((x = none ∧ h = len) ∨ ∃ k, x = some (.int k h)) := by
  cases hi with
  | none => exact ⟨none, rfl, .inl ⟨rfl, by simpa [hiB] using hh.symm⟩⟩
  | some x =>
   refine ⟨_, rfl, .inr ?_⟩
   simp only [hiB] at hh
   split at hh
   ·rename_i k i e
    cases hh
    have := d8A hs x
    rw [e] at this
    exact ⟨k, by simp [this.int_inv]⟩
   ·cases hh
 have el : ∃ x, lo.map a.eval = x ∧ ((x = none ∧ l = 0) ∨ ∃ k, x = some (.int k l)) := by
  cases lo with
  | none => exact ⟨none, rfl, .inl ⟨rfl, by simpa [loB] using hl.symm⟩⟩
  | some x =>
   refine ⟨_, rfl, .inr ?_⟩
   simp only [loB] at hl
   split at hl
   ·rename_i k i e
    cases hl
    have := d8A hs x
    rw [e] at this
    exact ⟨k, by simp [this.int_inv]⟩
   ·cases hl
 obtain ⟨xh, e1, eh⟩ := eh
 obtain ⟨xl, e2, el⟩ := el
 rw [e1, e2]
 have hb : ((h.toNat : Nat) : Int) = h := by omega
 rcases eh with ⟨rfl, rfl⟩ | ⟨k, rfl⟩ <;> rcases el with ⟨rfl, rfl⟩ | ⟨k', rfl⟩
 ·simp [Instr.sliceBounds]
 ·simp [Instr.sliceBounds, run_sliceBound w k' l len _ h0 (by omega)]
 ·simp [Instr.sliceBounds, run_sliceBound w k h cap _ (by omega) h2]
 ·simp [Instr.sliceBounds, run_sliceBound w k h cap _ (by omega) h2, run_sliceBound w k' l h.toNat _ h0 (by omega)]
theorem h7F (p : Nat × Nat) : f0A (some p) = p.1 := rfl
theorem h8F (n : Nat) (p : Nat × Nat) : j1A n (some p) = p.2 := rfl
theorem m0D {lo hi : Int} {n : Nat} (h : w0A lo hi n = true) : 0 ≤ lo ∧ lo ≤ hi ∧ hi ≤ n := by
 simp only [w0A, Bool.and_eq_true, decide_eq_true_eq] at h
 exact ⟨h.1.1, h.1.2, h.2⟩
include hT
theorem y4G {keep : Nat → Prop} {S : St} {a : Act} {t : TypeId} {b v : AV} {x : Value} {lo hi : Option Operand} (hm : b1A E keep S.objs) (hs : e8A E S.tmps a.tmps)
  (h : (b0E T S t b lo hi).gives v) (hx : b0A E b x) : ∃ z, (Instr.sliceAt t x (lo.map a.eval) (hi.map a.eval) none).run P w = .ok z w ∧ e7A E v z := by
 unfold b0E at h
 split at h
 ·rename_i s htd
  obtain ⟨d, hu, rfl⟩ := q0A hT htd
  split at h
  ·rename_i l hh hl hhi
   obtain ⟨hg, rfl⟩ := h
   obtain ⟨h0, h1, h2⟩ := m0D hg
   rw [hx.str_inv]
   refine ⟨.string (s.extract l.toNat hh.toNat), ?_, rfl⟩
   simp [Instr.sliceAt, Instr.slice, f9A hu, v2C hs hl hhi h0 h1 h2]
  ·exact h.elim
 ·rename_i e ty xs htd
  obtain ⟨d, hu, rfl⟩ := q0A hT htd
  split at h
  ·rename_i l hh hl hhi
   cases hb : x2A T e ty with
   | false => rw [hb] at h; exact h.elim
   | true =>
    rw [hb] at h
    obtain ⟨hg, rfl⟩ := h
    obtain ⟨h0, h1, h2⟩ := m0D hg
    obtain ⟨ad, cap, e1, hc, r⟩ := (show a8A E (.sl ty) xs [x] from hx)
    have e1 : x = .slice ad xs.length cap := by simpa using e1
    subst e1
    refine ⟨.slice (if cap = l.toNat then ad else ad.map (·.add (l.toNat * a0A ty))) (hh.toNat - l.toNat) (cap - l.toNat), ?_, ?_⟩
    ·simp [Instr.sliceAt, Instr.slice, f9A hu, v2C hs hl hhi h0 h1 (show hh ≤ cap by have := hc.1; omega), g7C hT hb]
    ·have hlen : ((xs.take hh.toNat).drop l.toNat).length = hh.toNat - l.toNat := by rw [List.length_drop, List.length_take]; omega
     refine ⟨_, _, by rw [hlen], ⟨by have := hc.1; rw [hlen]; omega, fun hn => ?_⟩, ?_⟩
     ·by_cases hcl : cap = l.toNat
      ·omega
      ·rw [if_neg hcl] at hn
       have := hc.2 (by simpa using hn)
       omega
     by_cases hz : hh.toNat - l.toNat = 0
     ·exact .inl (by rw [hlen]; exact hz)
     ·right
      obtain ⟨bb, o, rfl, hro, r⟩ := r.resolve_left (by omega)
      rw [if_neg (by omega)]
      refine ⟨bb, o + l.toNat * a0A ty, by simp [c6B], hro, fun i hi => ?_⟩
      obtain ⟨cs, r1, r2⟩ := r (l.toNat + i) (by omega)
      refine ⟨cs, by rw [List.getElem_drop, List.getElem_take]; exact r1, fun j v hj => ?_⟩
      have := r2 j v hj
      rw [Nat.add_mul] at this
      rw [show o + l.toNat * a0A ty + i * a0A ty + j = o + (l.toNat * a0A ty + i * a0A ty) + j by omega]; exact this
  ·exact h.elim
 ·rename_i e id rg htd
  obtain ⟨d, hu, rfl⟩ := q0A hT htd
  split at h
  ·rename_i n hn
   obtain ⟨ty, lst, hlook, hb, rfl⟩ := d7E hn
   split at h
   ·rename_i l hh hl hhi
    obtain ⟨hg, rfl⟩ := h
    obtain ⟨h0, h1, h2⟩ := m0D hg
    obtain ⟨_, hlen, hwd, _⟩ := hm.rep _ _ hlook
    obtain ⟨hid, r⟩ := q4B hx
    rw [← hlen] at h2 hhi
    split at r
    ·rename_i hblk
     obtain ⟨rfl, e2, e3⟩ := r
     have hl0 : l.toNat = 0 := by omega
     have hh0 : hh.toNat = 0 := by omega
     refine ⟨.slice none 0 0, ?_, hid, ?_⟩
     ·rw [e3] at hhi
      simp [Instr.sliceAt, Instr.slice, f9A hu, v2C hs hl hhi h0 h1 (show hh ≤ (0 : Nat) by omega), g7C hT hb, hl0, hh0]
     ·rw [hblk]; exact ⟨rfl, by rw [h7F, l9D]; omega, by rw [h8F]; omega⟩
    ·rename_i bb hblk
     obtain ⟨o, cap, rfl, hc, hl2, hcap⟩ := r
     refine ⟨.slice (if cap = l.toNat then some ⟨bb, o, none⟩ else (some (⟨bb, o, none⟩ : Addr)).map (·.add (l.toNat * a0A ty))) (hh.toNat - l.toNat) (cap - l.toNat), ?_, hid, ?_⟩
     ·simp [Instr.sliceAt, Instr.slice, f9A hu, v2C hs hl hhi h0 h1 (show hh ≤ cap by omega), g7C hT hb]
     ·rw [hblk]
      simp only [h7F, h8F, l9D]
      by_cases hcl : cap = l.toNat
      ·refine ⟨o, cap - l.toNat, by rw [if_pos hcl], by omega, by omega, .inl (by omega)⟩
      ·have hcap := hcap.resolve_left (by omega)
       refine ⟨o + l.toNat * a0A ty, cap - l.toNat, by rw [if_neg hcl]; simp [c6B], by omega, by omega, .inr ⟨?_, by omega⟩⟩
       rw [hcap.1, ← hwd, Nat.add_mul]; omega
   ·exact h.elim
  ·exact h.elim
 ·rename_i n e id off htd
  obtain ⟨d, hu, rfl⟩ := q0A hT htd
  split at h
  ·rename_i cs ei hlook hei
   split at h
   ·rename_i n' ty lst hcut
    split at h
    ·rename_i l hh hl hhi
     cases hb : (Nat.beq n' n && Nat.beq ei.size (a0A ty)) with
     | false => rw [hb] at h; exact h.elim
     | true =>
      rw [hb] at h
      obtain ⟨hg, rfl⟩ := h
      rw [Bool.and_eq_true] at hb
      have hsz := Nat.eq_of_beq_eq_true hb.2
      obtain ⟨h0, h1, h2⟩ := m0D hg
      obtain ⟨hid, bb, hblk, rfl⟩ := g5C hx
      refine ⟨.slice (some (if n = l.toNat then (⟨bb, off, none⟩ : Addr) else (⟨bb, off, none⟩ : Addr).add (l.toNat * a0A ty))) (hh.toNat - l.toNat) (n - l.toNat), ?_, hid, by omega, bb, if n = l.toNat then off else off + l.toNat * a0A ty, hblk, ?_, ?_⟩
      ·simp [Instr.sliceAt, f9A hu, Instr.sureAddr, v2C hs hl hhi h0 h1 h2, c4B hT hei, hsz]
      ·by_cases hc : n = l.toNat
       ·rw [if_pos hc, if_pos hc]
       ·rw [if_neg hc, if_neg hc]; simp [c6B]
      ·by_cases hc : n = l.toNat
       ·exact .inl hc.symm
       ·right; rw [if_neg hc]
    ·exact h.elim
   ·exact h.elim
  ·exact h.elim
 ·exact h.elim
theorem y5G {keep : Nat → Prop} {S : St} (hm : b1A E keep S.objs) {t ty : TypeId} {a v : AV} {x : Value} (h : (b1E T S t a).gives v) (hx : b0A E a x) : ∃ z, (Builtin.len_ #[t] ty #[x]).run P w = .ok z w ∧ e7A E v z := by
 unfold b1E at h
 split at h
 ·rename_i s htd
  obtain ⟨d, hu, rfl⟩ := q0A hT htd
  cases h
  rw [hx.str_inv]
  exact ⟨_, by simp [Builtin.len_, f9A hu]; rfl, rfl⟩
 ·rename_i e ty l htd
  obtain ⟨d, hu, rfl⟩ := q0A hT htd
  cases h
  obtain ⟨ad, cap, e1, _⟩ := (show a8A E (.sl ty) l [x] from hx)
  have e1 : x = .slice ad l.length cap := by simpa using e1
  subst e1
  exact ⟨_, by simp [Builtin.len_, f9A hu]; rfl, rfl⟩
 ·rename_i e htd
  obtain ⟨d, hu, rfl⟩ := q0A hT htd
  cases h
  have e1 : x = .slice none 0 0 := by simpa using (show [x] = [Value.slice none 0 0] from hx)
  subst e1
  exact ⟨_, by simp [Builtin.len_, f9A hu]; rfl, rfl⟩
 ·rename_i e id off n ty lo len htd
  obtain ⟨d, hu, rfl⟩ := q0A hT htd
  cases h
  obtain ⟨_, _, b, o, _, e1, _⟩ := (show b8A E (.bsl id off n ty lo len) [x] from hx)
  cases e1
  exact ⟨_, by simp [Builtin.len_, f9A hu]; rfl, rfl⟩
 ·rename_i e id rg htd
  obtain ⟨d, hu, rfl⟩ := q0A hT htd
  split at h
  ·rename_i n hn
   obtain ⟨ty, lst, hlook, hb, rfl⟩ := d7E hn
   cases h
   obtain ⟨_, hlen, _, _⟩ := hm.rep _ _ hlook
   obtain ⟨hid, r⟩ := q4B hx
   rw [hlen] at r
   split at r
   ·obtain ⟨rfl, _, e3⟩ := r
    exact ⟨_, by simp [Builtin.len_, f9A hu]; rfl, by rw [e3]; rfl⟩
   ·obtain ⟨o, cap, rfl, _⟩ := r
    exact ⟨_, by simp [Builtin.len_, f9A hu]; rfl, rfl⟩
  ·exact h.elim
 ·rename_i n e _ htd
  obtain ⟨d, hu, rfl⟩ := q0A hT htd
  cases h
  exact ⟨_, by simp [Builtin.len_, f9A hu]; rfl, rfl⟩
 ·exact h.elim
end
end Go.Rx
namespace Go.Rx
section
variable {P : Program} {T : Tab} (hT : TabOK P T) {E : Env} {w : World}
theorem d8E {S : St} {a : Act} (h : e8A E S.tmps a.tmps) : ∀ (l : List Operand) (i : Nat) (y : Value), (l.map a.eval)[i]? = some y → ∃ b, (d3A (ev S) l)[i]? = some b ∧ b0A E b y
 | [], i, y, e => by simp at e
 | x :: l, 0, y, e => by
  simp only [List.map_cons, List.getElem?_cons_zero, Option.some.injEq] at e
  subst e
  exact ⟨_, rfl, d8A h x⟩
 | x :: l, i + 1, y, e => by
  simp only [List.map_cons, List.getElem?_cons_succ] at e
  exact d8E h l i y e
theorem d9E {S : St} : ∀ (l : List Operand), (d3A (ev S) l).length = l.length
 | [] => rfl
 | _ :: l => by simp only [d3A, List.length_cons, d9E l]
theorem b0A.cell_int {k : IntKind} {n : Int} : b0A E (.int k n) (.int k n) := rfl
theorem e0E (mx : Bool) : ∀ (l : List AV) (a v : AV) (x : Value) (xs : List Value), (t9C mx a l).gives v → b0A E a x → (∀ (i : Nat) (y : Value), xs[i]? = some y → ∃ b, l[i]? = some b ∧ b0A E b y) → xs.length = l.length →
  ∃ z, (xs.foldlM (if mx then Builtin.max2 else Builtin.min2) x).run P w = .ok z w ∧ b0A E v z
 | [], a, v, x, xs, h, hx, _, hl => by
  match xs, hl with
  | [], _ => cases h; exact ⟨x, rfl, hx⟩
 | b :: l, a, v, x, xs, h, hx, hxs, hl => by
  match xs, hl, hxs with
  | y :: ys, hl, hxs =>
   obtain ⟨b', e, hy⟩ := hxs 0 y rfl
   cases e
   have ha : (∃ k n, a = .int k n) ∧ (∃ k m, b = .int k m) := by
    cases a <;> cases b <;> first
     | exact h.elim
     | exact ⟨⟨_, _, rfl⟩, _, _, rfl⟩
   obtain ⟨⟨k, n, rfl⟩, k', m, rfl⟩ := ha
   replace h : VR.gives (if k = k' then t9C mx (.int k (bif mx then (if n < m then m else n) else (if m < n then m else n))) l else .no) v := h
   split at h
   ·rename_i hk
    subst hk
    rw [hx.int_inv, hy.int_inv]
    obtain ⟨z, h1, h2⟩ := e0E mx l _ v _ ys h b0A.cell_int (fun i y e => hxs (i + 1) y e) (by simpa using hl)
    refine ⟨z, ?_, h2⟩
    rw [List.foldlM_cons, Sem.run_bind]
    cases mx
    ·simp only [Bool.false_eq_true, if_false, Builtin.min2, Sem.run_pure, Result.andThen_ok, cond_false] at h1 ⊢; exact h1
    ·simp only [if_true, Builtin.max2, Sem.run_pure, Result.andThen_ok, gt_iff_lt, cond_true] at h1 ⊢; exact h1
   ·exact h.elim
theorem h9F (place : Nat → Option (Nat × Nat)) (i off size : Nat) (v : Value) (rest : List (Nat × Value)) (cells : Array Value) (hp : place i = some (off, size)) (hs : v.cells.size = size) (hl : off + size ≤ cells.size) :
  Instr.fill place cells ((i, v) :: rest) = Instr.fill place (cells.toList.take off ++ (v.cells.toList ++ cells.toList.drop (off + v.cells.size))).toArray rest := by
 conv => lhs; unfold Instr.fill
 simp only [hp]
 rw [if_neg (by simp; omega)]
 congr 1
 obtain ⟨g1, g2⟩ := Great.foldl_set off v.cells.toList 0 cells
 have e : v.cells.zipIdx.foldl (fun cs (x : Value × Nat) => cs.setIfInBounds (off + x.2) x.1) cells = (v.cells.toList.zipIdx 0).foldl (fun cs (x : Value × Nat) => cs.setIfInBounds (off + x.2) x.1) cells := by
  rw [← Array.foldl_toList, Array.toList_zipIdx]
 refine Eq.trans e ?_
 apply Array.ext_getElem?
 intro k
 rw [g2 k]
 simp only [Nat.add_zero, Array.length_toList, List.getElem?_toArray]
 by_cases h1 : k < off
 ·rw [if_neg (by omega), List.getElem?_append_left (by rw [List.length_take, Array.length_toList]; omega), List.getElem?_take, if_pos h1]; simp
 ·have ht : (List.take off cells.toList).length = off := by rw [List.length_take, Array.length_toList]; omega
  rw [List.getElem?_append_right (by omega), ht]
  by_cases h2 : k < off + v.cells.size
  ·rw [if_pos ⟨by omega, h2, by omega⟩, List.getElem?_append_left (by rw [Array.length_toList]; omega)]
  ·rw [if_neg (by omega), List.getElem?_append_right (by rw [Array.length_toList]; omega), List.getElem?_drop, Array.length_toList]
   simp only [Array.getElem?_toList]
   congr 1
   omega
theorem i0F {pl : Nat → Option (Nat × Nat)} {place : Nat → Option (Nat × Nat)} (hpl : ∀ i x, pl i = some x → place i = some x) {S : St} {a : Act} (hs : e8A E S.tmps a.tmps) :
  ∀ (parts : List (Nat × Operand)) (cs : List AV) (cells : Array Value) (r : List AV), b6A E cs cells.toList → i6D pl cs (g8A S parts) = some r →
   ∃ out, Instr.fill place cells (parts.map fun p => (p.1, a.eval p.2)) = some out ∧ b6A E r out.toList
 | [], cs, cells, r, hc, h => by
  cases h
  exact ⟨cells, rfl, hc⟩
 | (i, x) :: rest, cs, cells, r, hc, h => by
  simp only [g8A, i6D] at h
  split at h
  ·rename_i off size new hp hn
   rcases f1A h with ⟨hb, h⟩ | ⟨_, h⟩
   ·have hb := Nat.eq_of_beq_eq_true hb
    obtain ⟨cs', e1, e2⟩ := a7B h
    have hnew := q3B (d8A hs x) hn
    obtain ⟨h1, h2⟩ := g4C hc hnew e1
    have hlen := b6A.length hnew
    simp only [Array.length_toList] at h1 h2 hlen
    have := h9F place i off size (a.eval x) (rest.map fun p => (p.1, a.eval p.2)) cells (hpl i _ hp) (by omega) (by omega)
    obtain ⟨out, h3, h4⟩ := i0F hpl hs rest cs' (cells.toList.take off ++ ((a.eval x).cells.toList ++ cells.toList.drop (off + (a.eval x).cells.size))).toArray r (by simpa using h2) e2
    exact ⟨out, by rw [List.map_cons, this, h3], h4⟩
   ·cases h
  ·cases h
theorem y6G {ty : Ty} {v : AV} {x : den ty} {y : Value} (h : b2E ty v = some x) (hv : b0A E v y) : a0A ty = 1 ∧ a8A E ty x y.cells.toList ∧ y.cells.size = 1 := by
 unfold b2E at h
 split at h
 ·split at h
  ·rename_i hk
   subst hk; cases h
   rw [hv.int_inv]; exact ⟨rfl, rfl, rfl⟩
  ·cases h
 ·cases h; rw [hv.bool_inv]; exact ⟨rfl, rfl, rfl⟩
 ·cases h; rw [hv.str_inv]; exact ⟨rfl, rfl, rfl⟩
 ·cases h
theorem i1F {n : Nat} {ty : Ty} {S : St} {a : Act} (hs : e8A E S.tmps a.tmps) :
  ∀ (parts : List (Nat × Operand)) (l : List (den ty)) (cells : Array Value) {l' : List (den ty)}, a8A E (.arr n ty) l cells.toList → i7D ty l (g8A S parts) = some l' →
   ∃ out, Instr.fill (fun i => some (i * a0A ty, a0A ty)) cells (parts.map fun p => (p.1, a.eval p.2)) = some out ∧ a8A E (.arr n ty) l' out.toList
 | [], l, cells, l', hc, h => by
  cases h
  exact ⟨cells, rfl, hc⟩
 | (i, x) :: rest, l, cells, l', hc, h => by
  simp only [g8A, i7D] at h
  rcases f1A h with ⟨hb, h⟩ | ⟨_, h⟩
  ·have hi : i < l.length := Nat.le_of_ble_eq_true hb
   split at h
   ·rename_i y hy
    obtain ⟨h1, h2, h3⟩ := y6G hy (d8A hs x)
    obtain ⟨c1, c2, c3⟩ := hc
    rw [h1, Nat.mul_one, Array.length_toList] at c2
    have hf := h9F (fun i => some (i * a0A ty, a0A ty)) i (i * a0A ty) (a0A ty) (a.eval x) (rest.map fun p => (p.1, a.eval p.2)) cells rfl (by rw [h1]; exact h3) (by rw [h1]; omega)
    have hv1 : (a.eval x).cells.toList.length = 1 := by rw [Array.length_toList]; exact h3
    obtain ⟨v, hv⟩ : ∃ v, (a.eval x).cells.toList = [v] := by
     match hvl : (a.eval x).cells.toList, hv1 with
     | [v], _ => exact ⟨v, rfl⟩
    have hcells : (cells.toList.take (i * a0A ty) ++ ((a.eval x).cells.toList ++ cells.toList.drop (i * a0A ty + (a.eval x).cells.size))) = cells.toList.set i v := by
     rw [h1, h3, Nat.mul_one, hv, List.set_eq_take_append_cons_drop, if_pos (by rw [Array.length_toList]; omega)]
     rfl
    rw [hcells] at hf
    have hr : a8A E (.arr n ty) (l.set i y) (cells.toList.set i v).toArray.toList := by
     refine ⟨by rw [List.length_set]; exact c1, by simp [h1, c2], fun j hj => ?_⟩
     rw [List.length_set] at hj
     obtain ⟨cs, r1, r2⟩ := c3 j hj
     by_cases e : i = j
     ·subst e
      refine ⟨[v], by rw [List.getElem_set_self]; rw [← hv]; exact h2, fun k u hk => ?_⟩
      cases k with
      | zero =>
       cases hk
       rw [h1, Nat.mul_one, Nat.add_zero]
       show (cells.toList.set i v)[i]? = some v
       rw [List.getElem?_set_self (by rw [Array.length_toList]; omega)]
      | succ k => cases hk
     ·refine ⟨cs, by rw [List.getElem_set_ne e]; exact r1, fun k u hk => ?_⟩
      have hk0 : k = 0 := by
       have := a8A.length r1
       rw [h1] at this
       have := (List.getElem?_eq_some_iff.1 hk).1
       omega
      subst hk0
      have := r2 0 u hk
      rw [h1, Nat.mul_one, Nat.add_zero] at this ⊢
      show (cells.toList.set i v)[j]? = some u
      rw [List.getElem?_set_ne e]; exact this
    obtain ⟨out, g1, g2⟩ := i1F hs rest (l.set i y) (cells.toList.set i v).toArray hr h
    exact ⟨out, by rw [List.map_cons, hf, g1], g2⟩
   ·cases h
  ·cases h
include hT
theorem y7G {S : St} {a : Act} (hs : e8A E S.tmps a.tmps) {t : TypeId} {parts : Array (Nat × Operand)} {v : AV} (h : (b3E T t (g8A S parts.toList)).gives v) :
  ∃ z, (Instr.build t (parts.map fun (i, x) => (i, a.eval x))).run P w = .ok z w ∧ e7A E v z := by
 unfold b3E at h
 split at h
 ·rename_i i hi
  split at h
  ·rename_i fs htd
   obtain ⟨r, e1, rfl⟩ := e1A (w7B h)
   obtain ⟨inf, hinf, _, _, z, hz, hzc, _⟩ := (hT t i hi).info
   obtain ⟨d, hu, hd⟩ := (hT t i hi).und
   rw [htd] at hd
   obtain ⟨F, rfl, rfl⟩ := hd
   obtain ⟨places, hp⟩ := (hT t i hi).fsz _ htd
   rw [List.mapM_map] at hp
   have hpl : ∀ j x, (oB (f0C (F.toList.map fun f => (f.offset, f.type)) j) fun f => oM (f6A f.2 T) fun fi => (f.1, fi.size)) = some x → places.toArray[j]? = some x := by
    intro j x hx
    obtain ⟨f, hf, hx⟩ := a7B hx
    obtain ⟨fi, hfi, rfl⟩ := e1A hx
    rw [l7D, List.getElem?_map] at hf
    cases hF : F.toList[j]? with
    | none => rw [hF] at hf; cases hf
    | some g =>
     rw [hF] at hf
     cases hf
     have key : ∀ (l : List Field) (r : List (Nat × Nat)) (j : Nat) (g : Field), l.mapM (fun f => (P.info? f.type).map fun i => (f.offset, i.size)) = some r → l[j]? = some g →
       ∃ y, r[j]? = some y ∧ (P.info? g.type).map (fun i => (g.offset, i.size)) = some y := by
      intro l
      induction l with
      | nil => intro r j g _ hj; cases hj
      | cons f l ih =>
       intro r j g hr hj
       simp only [List.mapM_cons, Option.bind_eq_bind, Option.pure_def] at hr
       cases hi : (P.info? f.type).map (fun i => (f.offset, i.size)) with
       | none => rw [hi] at hr; cases hr
       | some u =>
        cases hr2 : l.mapM (fun f => (P.info? f.type).map fun i => (f.offset, i.size)) with
        | none => rw [hi, hr2] at hr; cases hr
        | some r2 =>
         rw [hi, hr2] at hr
         cases hr
         cases j with
         | zero => cases hj; exact ⟨u, rfl, hi⟩
         | succ j => exact ih r2 j g hr2 hj
     obtain ⟨y, h1, h2⟩ := key _ _ j g hp hF
     obtain ⟨finf, hfinf, hfs, _⟩ := (hT _ _ hfi).info
     rw [hfinf] at h2
     cases h2
     rw [← hfs]
     simpa using h1
   obtain ⟨out, h1, h2⟩ := i0F (E := E) hpl hs parts.toList i.zc z.cells r (hzc E) e1
   refine ⟨_, run_build w t _ out ?_, ?_⟩
   ·have hp' : F.toList.mapM (fun f => (P.info? f.type).map fun i => (f.offset, i.size)) = some places := hp
    simp only [Program.built, hinf, hu, hz, hp']
    rw [Array.toList_map]
    exact h1
   ·exact ⟨out.toList, by simp, h2⟩
  ·rename_i n e htd
   split at h
   ·rename_i n' ty l hzc
    cases hb : (Nat.beq n' n && x2A T e ty) with
    | false => rw [hb] at h; exact h.elim
    | true =>
     rw [hb] at h
     rw [Bool.and_eq_true] at hb
     have hn := Nat.eq_of_beq_eq_true hb.1
     subst hn
     obtain ⟨l', e1, rfl⟩ := e1A (w7B h)
     obtain ⟨inf, hinf, _, _, z, hz, hzcr, _⟩ := (hT t i hi).info
     obtain ⟨d, hu, hd⟩ := (hT t i hi).und
     rw [htd] at hd
     have hd : d = .array n' e := hd
     subst hd
     have hzr : a8A E (.arr n' ty) l z.cells.toList := by
      have := hzcr E
      rw [hzc] at this
      obtain ⟨u, r, e, r1, r2⟩ := this
      rw [e, show r = [] from r2, List.append_nil]; exact r1
     have hel : ∃ ie, P.info? e = some ie ∧ ie.size = a0A ty := by
      have h2 := hb.2
      unfold x2A at h2
      split at h2
      ·rename_i i' hi'
       obtain ⟨inf', h3, h4, _⟩ := (hT e i' hi').info
       exact ⟨inf', h3, by rw [h4, Nat.eq_of_beq_eq_true h2]⟩
      ·cases h2
     obtain ⟨ie, hie, hies⟩ := hel
     obtain ⟨out, h1, h2⟩ := i1F (E := E) hs parts.toList l z.cells hzr e1
     refine ⟨_, run_build w t _ out ?_, ?_⟩
     ·simp only [Program.built, hinf, hu, hz, hie, hies]
      rw [Array.toList_map]
      exact h1
     ·exact ⟨out.toList, by simp, out.toList, [], by simp, h2, rfl⟩
   ·exact h.elim
  ·exact h.elim
 ·exact h.elim
omit hT
theorem m1D {src dst e : TypeId} (hs : P.underlying src = some (.slice e)) (he : P.underlying e = some (.int .u8)) (hd : P.underlying dst = some .string) {a : Option Addr} {cap : Nat} {l : List Int}
  (h : l = [] ∨ ∃ b o, a = some ⟨b, o, none⟩ ∧ ∀ i, (hi : i < l.length) → w.cell? ⟨b, o + i, none⟩ = some (.int .u8 l[i])) : (convert src dst (.slice a l.length cap)).run P w = .ok (.string (z1A l)) w := by
 rcases h with rfl | ⟨b, o, rfl, h⟩
 ·cases a with
  | none => rw [run_convert_bytes_string w src dst e _ _ cap hs he hd]; simp [Conv.bytesToString]; rfl
  | some a =>
   have hl : (loadCells a 0).run P w = .ok (([] : List Int).map (Value.int .u8)).toArray w := run_loadCells_list (P := P) w a [] fun j v hj => by simp at hj
   rw [run_convert_bytes_string w src dst e _ _ cap hs he hd]
   exact run_bytesToString w a 0 cap [] hl
 ·exact run_convert_bytes_arg w src e hs he b o l.length cap l rfl (fun i hi => by
   rw [h i hi]
   simp [List.getD, List.getElem?_eq_getElem hi]) dst hd
include hT
theorem m2D {e : TypeId} (h : p7B T e = true) : P.underlying e = some (.int .u8) := by
 unfold p7B x0A at h
 cases hi : f6A e T with
 | none => rw [hi] at h; cases h
 | some i =>
  rw [hi] at h
  split at h
  ·rename_i h'
   obtain ⟨d, hu, hd⟩ := (hT _ _ hi).und
   have h' : i.td = .int .u8 := by simpa using h'
   rw [h'] at hd
   rw [hu, show d = _ from hd]
  ·cases h
theorem y8G {keep : Nat → Prop} {S : St} (hm : b1A E keep S.objs) {src dst : TypeId} {a v : AV} {x : Value} (h : (b4E T S src dst a).gives v) (hx : b0A E a x) : ∃ z, (convert src dst x).run P E.w = .ok z E.w ∧ e7A E v z := by
 unfold b4E at h
 split at h
 ·rename_i i j hi hj
  obtain ⟨d, hu, hd⟩ := (hT _ _ hi).und
  obtain ⟨d', hu', hd'⟩ := (hT _ _ hj).und
  split at h
  ·rename_i k k' n hjk
   cases h
   rw [hjk] at hd'
   rw [show d' = _ from hd'] at hu'
   rw [hx.int_inv]
   exact ⟨.int k (k.wrap n), by cases d <;> simp [convert, f9A hu, f9A hu', Conv.intToInt], rfl⟩
  ·rename_i s hik hjk
   cases h
   rw [hik] at hd
   rw [hjk] at hd'
   rw [show d = _ from hd] at hu
   rw [show d' = _ from hd'] at hu'
   rw [hx.str_inv]
   exact ⟨.string s, by simp [convert, f9A hu, f9A hu'], rfl⟩
  ·rename_i e l hik hjk
   cases hb : p7B T e with
   | false => rw [hb] at h; exact h.elim
   | true =>
    rw [hb] at h
    cases h
    rw [hik] at hd
    rw [hjk] at hd'
    rw [show d = _ from hd] at hu
    rw [show d' = _ from hd'] at hu'
    obtain ⟨a, cap, e1, _, h3⟩ := (show a8A E (.sl (.int .u8)) l [x] from hx)
    cases e1
    refine ⟨_, m1D hu (m2D hT hb) hu' (h3.imp (fun h => List.length_eq_zero_iff.1 h) ?_), rfl⟩
    rintro ⟨b, o, rfl, _, h4⟩
    refine ⟨b, o, rfl, fun i hi => ?_⟩
    obtain ⟨cs, r1, r2⟩ := h4 i hi
    have r1 : cs = [.int .u8 l[i]] := r1
    subst r1
    simpa [a0A] using r2 0 _ rfl
  ·rename_i e hik hjk
   cases hb : p7B T e with
   | false => rw [hb] at h; exact h.elim
   | true =>
    rw [hb] at h
    cases h
    rw [hik] at hd
    rw [hjk] at hd'
    rw [show d = _ from hd] at hu
    rw [show d' = _ from hd'] at hu'
    have e1 : [x] = [Value.slice none 0 0] := hx
    cases e1
    exact ⟨_, m1D (l := []) hu (m2D hT hb) hu' (.inl rfl), rfl⟩
  ·rename_i e id rg hik hjk
   split at h
   ·rename_i l hl
    cases hb : p7B T e with
    | false => rw [hb] at h; exact h.elim
    | true =>
     rw [hb] at h
     cases h
     rw [hik] at hd
     rw [hjk] at hd'
     rw [show d = _ from hd] at hu
     rw [show d' = _ from hd'] at hu'
     obtain ⟨_, hor⟩ := q4B hx
     obtain ⟨hlen, hwd, ho⟩ := (hm.rep _ _ hl).2
     cases hblk : (E.M id).blk with
     | none =>
      rw [hblk] at hor ho
      obtain ⟨rfl, _, _⟩ := hor
      have ho : l = [] := ho
      subst ho
      have : j8A ([] : List Int) rg = [] := by cases rg <;> simp [j8A]
      refine ⟨_, m1D (l := []) hu (m2D hT hb) hu' (.inl rfl), ?_⟩
      rw [show j8A ([] : List (den (.int .u8))) rg = ([] : List Int) from this]
      rfl
     | some b =>
      rw [hblk] at hor ho
      obtain ⟨o, cap, rfl, h5, h6, h7⟩ := hor
      obtain ⟨vs, et, h8, h9, h10, h11⟩ := ho
      have hlt : (j8A l rg).length = j1A (E.M id).len rg := by
       rw [hlen] at h6 ⊢
       cases rg with
       | none => rfl
       | some p =>
        simp only [j8A, j1A, f0A, List.length_take, List.length_drop] at h6 ⊢
        omega
      rw [← hlt]
      refine ⟨_, m1D (l := j8A l rg) hu (m2D hT hb) hu' ?_, rfl⟩
      by_cases hz : j8A l rg = []
      ·exact .inl hz
      ·right
       have hpos : 0 < (j8A l rg).length := List.length_pos_iff.2 hz
       have hc : cap ≠ 0 := by rw [hlt] at hpos; omega
       obtain ⟨h12, h13⟩ := h7.resolve_left hc
       refine ⟨b, o, rfl, fun i hi => ?_⟩
       have hi' : f0A rg + i < l.length := by rw [hlt] at hi; rw [← hlen]; omega
       have hget : (j8A l rg)[i] = l[f0A rg + i] := by
        cases rg with
        | none => simp [j8A, f0A]
        | some p => simp [j8A, f0A]
       obtain ⟨cs, r1, r2⟩ := h11 (f0A rg + i) hi'
       have r1 : cs = [.int .u8 l[f0A rg + i]] := r1
       subst r1
       have := r2 0 _ rfl
       have e1 : (E.M id).base + f0A rg * a0A (.int .u8) + i = (E.M id).base + (f0A rg + i) * a0A (.int .u8) + 0 := by simp only [a0A]; omega
       have e2 : E.w.cell? ⟨b, o + i, none⟩ = vs[o + i]? := by simp [World.cell?, h8]
       rw [e2, h12, hwd, e1, this, hget]
   ·exact h.elim
  ·exact h.elim
 ·exact h.elim
omit hT
theorem y9G {S : St} {a : Act} (hs : e8A E S.tmps a.tmps) {f : FuncId} {first caps : Array Operand} {v : AV} (h : (b5E f (d3A (ev S) first.toList) (d3A (ev S) caps.toList)).gives v) :
  e7A E v (.func (.func f) (first.map a.eval) (caps.map a.eval)) := by
 unfold b5E at h
 cases hb : (b9B (d3A (ev S) first.toList) && b9B (d3A (ev S) caps.toList)) with
 | false => rw [hb] at h; exact h.elim
 | true =>
  rw [hb] at h
  cases h
  rw [Bool.and_eq_true] at hb
  refine ⟨_, _, rfl, ?_, ?_⟩
  ·rw [Array.toList_map]; exact d6E hs _ hb.1
  ·rw [Array.toList_map]; exact d6E hs _ hb.2
theorem z0G {a : AV} {x : Value} (h : s6A a = true) (r : b8A E a [x]) : e7A E a x := by
 cases a <;> first
  | exact r
  | exact nomatch h
theorem z1G {a : AV} (h : s6A a = true) : a.w = 1 := by
 cases a <;> first
  | rfl
  | exact nomatch h
theorem i8A.ofL : ∀ {l : List AV} {vs : List Value}, b9B l = true → b6A E l vs → i8A E l vs
 | [], _, _, r => r
 | a :: l, vs, h, r => by
  simp only [b9B, Bool.and_eq_true] at h
  obtain ⟨u, s, rfl, r1, r2⟩ := r
  have hu : u.length = 1 := by rw [b8A.length r1, z1G h.1]
  match u, hu, r1 with
  | [v], _, r1 => exact ⟨v, s, rfl, h.1, r1, i8A.ofL h.2 r2⟩
theorem i8A.toL : ∀ {l : List AV} {vs : List Value}, i8A E l vs → b6A E l vs
 | [], _, r => r
 | a :: l, vs, r => by
  obtain ⟨v, s, rfl, _, r1, r2⟩ := r
  exact ⟨[v], s, rfl, r1, i8A.toL r2⟩
include hT in
theorem i2F {t : TypeId} (h : f2C T t = true) : ∃ d, P.underlying t = some d ∧ (∀ m, d ≠ .interface m) ∧ ∃ i, f6A t T = some i := by
 unfold f2C x0A at h
 cases hi : f6A t T with
 | none => rw [hi] at h; exact nomatch h
 | some i =>
  rw [hi] at h
  dsimp only at h
  obtain ⟨d, hd, ht⟩ := (hT t i hi).und
  refine ⟨d, hd, fun m e => ?_, i, rfl⟩
  subst e
  cases htd : i.td with
  | other => rw [htd] at h; exact nomatch h
  | st fs => rw [htd] at ht; obtain ⟨_, e, _⟩ := ht; cases e
  | _ => rw [htd] at ht; cases ht
include hT in
theorem z2G {t : TypeId} {a v : AV} {x : Value} (h : (b6E T t a).gives v) (hx : b0A E a x) : ∃ z, (Instr.makeInterface t x).run P w = .ok z w ∧ e7A E v z := by
 unfold b6E at h
 cases hc : f2C T t with
 | false => rw [hc] at h; exact h.elim
 | true =>
  rw [hc] at h
  obtain ⟨d, hd, hn, _⟩ := i2F hT hc
  have hrun : (Instr.makeInterface t x).run P w = .ok (.iface t x) w := by
   unfold Instr.makeInterface
   simp only [Sem.run_bind, f9A hd, Result.andThen_ok]
   cases d <;> first
    | rfl
    | exact absurd rfl (hn _)
  refine ⟨_, hrun, ?_⟩
  simp only [cond_true] at h
  split at h
  ·rename_i cs
   cases hac : b9B cs with
   | false => rw [hac] at h; exact h.elim
   | true =>
    rw [hac] at h
    cases h
    obtain ⟨vs, e, r⟩ := hx
    exact ⟨vs, i8A.ofL hac r, x, rfl, .inl ⟨rfl, e⟩⟩
  ·cases hac : s6A a with
   | false => rw [hac] at h; exact h.elim
   | true =>
    rw [hac] at h
    cases h
    exact ⟨[x], ⟨x, [], rfl, hac, h3F hx hac, rfl⟩, x, rfl, .inr ⟨rfl, rfl⟩⟩
theorem z3G {u : TypeId} {ag : Bool} {cs : List AV} {x : Value} (hx : b0A E (.iface u ag cs) x) : ∃ y, x = .iface u y ∧ e7A E (unI ag cs) y := by
 obtain ⟨ws, r, y, e, h⟩ := (show b8A E (.iface u ag cs) [x] from hx)
 have e : x = .iface u y := by simpa using e
 refine ⟨y, e, ?_⟩
 rcases h with ⟨rfl, hy⟩ | ⟨rfl, hy⟩
 ·exact ⟨ws, hy, i8A.toL r⟩
 ·subst hy
  cases cs with
  | nil => exact nomatch r
  | cons a l =>
   obtain ⟨v, s, e2, hc, r1, r2⟩ := r
   cases e2
   exact z0G hc r1
include hT in
theorem z4G {t : TypeId} {z : AV} (h : b7E T t = some z) : ∃ y, (zeroValue t).run P w = .ok y w ∧ e7A E z y := by
 unfold b7E at h
 split at h
 ·rename_i i hi
  obtain ⟨inf, h1, _, _, y, h4, h5, _, h7⟩ := (hT t i hi).info
  refine ⟨y, by simp [zeroValue, q1B h1, h4], ?_⟩
  have := k1D (h5 E) h
  unfold mkV at this
  cases ha : i.td.isAgg with
  | true => rw [ha] at h7 this; simp only [if_true] at h7 this; rw [h7]; simpa using this
  | false => rw [ha] at h7 this; simp only [Bool.false_eq_true, if_false] at h7 this; rw [h7] at this; simpa using this
 ·cases h
include hT in
theorem i3F {t u : TypeId} {ok : Bool} {v : AV} {x : Value} {a b : Option TypeId} {s : String} (h : (i8D T t ok).gives v) :
  ∃ z, ((if ok then do pure (.tuple #[← zeroValue t, .bool false]) else runtimePanic (.typeAssertion a b u s) : Sem Value)).run P w = .ok z w ∧ b0A E v z := by
 unfold i8D at h
 split at h
 ·rename_i z hz
  cases h
  obtain ⟨y, h1, h2⟩ := z4G (E := E) (w := w) hT hz
  exact ⟨.tuple #[y, .bool false], by simp [h1], [y, .bool false], rfl, _, _, rfl, h2, _, _, rfl, rfl, rfl⟩
 ·exact h.elim
include hT in
theorem z5G {s t : TypeId} {ok : Bool} {a v : AV} {x : Value} (h : (b8E T t ok a).gives v) (hx : b0A E a x) : ∃ z, (Instr.typeAssert x s t ok).run P w = .ok z w ∧ b0A E v z := by
 unfold b8E at h
 cases hc : f2C T t with
 | false => rw [hc] at h; exact h.elim
 | true =>
  rw [hc] at h
  obtain ⟨d, hd, hn, _⟩ := i2F hT hc
  simp only [cond_true] at h
  split at h
  ·rename_i u ag cs
   obtain ⟨y, rfl, hy⟩ := z3G hx
   have hrun : ∀ r : Result Value, (if u = t then (pure (if ok then .tuple #[y, .bool true] else y) : Sem Value) else (if ok then do pure (.tuple #[← zeroValue t, .bool false]) else runtimePanic (.typeAssertion (some s) (some u) t ""))).run P w = r → (Instr.typeAssert (.iface u y) s t ok).run P w = r := fun r hr => by
    rw [← hr]
    unfold Instr.typeAssert
    simp only [Sem.run_bind, f9A hd, Result.andThen_ok]
   cases hb : Nat.beq u t with
   | true =>
    have he : u = t := Nat.eq_of_beq_eq_true hb
    rw [hb] at h
    simp only [cond_true] at h
    cases ok with
    | true =>
     cases h
     exact ⟨.tuple #[y, .bool true], hrun _ (by rw [if_pos he]; rfl), [y, .bool true], rfl, _, _, rfl, hy, _, _, rfl, rfl, rfl⟩
    | false =>
     cases h
     exact ⟨y, hrun _ (by rw [if_pos he]; rfl), hy.toS⟩
   | false =>
    have he : u ≠ t := fun e => by rw [e, Nat.beq_refl] at hb; cases hb
    rw [hb] at h
    simp only [cond_false] at h
    obtain ⟨z, h1, h2⟩ := i3F (E := E) (w := w) (u := t) (a := some s) (b := some u) (s := "") hT (x := y) h
    exact ⟨z, hrun _ (by rw [if_neg he]; exact h1), h2⟩
  ·have e : x = .nilIface := by
    have : [x] = [.nilIface] := (show b8A E .nili [x] from hx)
    simpa using this
   subst e
   obtain ⟨z, h1, h2⟩ := i3F (E := E) (w := w) (u := t) (a := some s) (b := none) (s := "") hT (x := .nilIface) h
   refine ⟨z, ?_, h2⟩
   rw [← h1]
   unfold Instr.typeAssert
   simp only [Sem.run_bind, f9A hd, Result.andThen_ok]
  ·exact h.elim
theorem q1A {s : Sem Value} {x : Value} {w' : World} (h : s.run P w = .ok x w') : (do pure (Next.value (← s)) : Sem Next).run P w = .ok (.value x) w' := by
 rw [Sem.run_bind, h]; rfl
include hT
theorem e1E {keep : Nat → Prop} {S : St} {a : Act} (hs : e8A E S.tmps a.tmps) (hm : b1A E keep S.objs) (o : Oper) {v : AV} (h : (q8A T S o.op).gives v) :
  ∃ x, (execOp a.eval o).run P E.w = .ok (.value x) E.w ∧ b0A E v x := by
 obtain ⟨dst, op, type, pos, after, guard⟩ := o
 simp only at h
 unfold q8A at h
 split at h
 ·cases h; exact ⟨_, rfl, d8A hs _⟩
 ·cases h; exact ⟨_, rfl, d8A hs _⟩
 ·rename_i c x y
  obtain ⟨z, h1, h2⟩ := w7G (P := P) (w := E.w) h (d8A hs c) (d8A hs x) (d8A hs y)
  refine ⟨z, ?_, h2⟩
  have := q1A h1
  simp only [execOp]
  simpa using this
 ·obtain ⟨z, h1, h2⟩ := y7G hT hs h
  exact ⟨z, q1A h1, h2.toS⟩
 ·rename_i t x
  obtain ⟨z, h1, h2⟩ := h1F hT hm h (d8A hs x)
  exact ⟨z, q1A h1, h2.toS⟩
 ·rename_i x
  have hx := d8A hs x
  simp only [execOp]
  split at h
  ·rename_i id off e
   cases h
   rw [e] at hx
   obtain ⟨_, b, _, e2⟩ := g5C hx
   exact ⟨_, by rw [e2]; rfl, by rw [← e2]; exact hx⟩
  ·rename_i e
   cases h
   rw [e] at hx
   obtain ⟨_, _, b, _, e2⟩ := l5D hx
   exact ⟨_, by rw [e2]; rfl, by rw [← e2]; exact hx⟩
  ·rename_i e
   cases h
   rw [e] at hx
   obtain ⟨_, _, b, _, e2⟩ := l6D hx
   exact ⟨_, by rw [e2]; rfl, by rw [← e2]; exact hx⟩
  ·rename_i e
   cases h
   rw [e] at hx
   obtain ⟨_, b, o, _, e2, _⟩ := d5E hx
   exact ⟨_, by rw [e2]; rfl, by rw [← e2]; exact hx⟩
  ·rename_i f l1 l2 e
   cases h
   rw [e] at hx
   obtain ⟨A, B, e2, _⟩ := (show b8A E _ [a.eval x] from hx)
   have e2 : a.eval x = .func (.func f) A B := by simpa using e2
   exact ⟨_, by rw [e2]; rfl, by rw [← e2]; exact hx⟩
  ·exact h.elim
 ·rename_i op t x y _
  obtain ⟨z, h1, h2⟩ := w4G hT (w := E.w) (y2G hT) h (d8A hs x) (d8A hs y) x y
  exact ⟨z, q1A h1, h2⟩
 ·rename_i op t x
  obtain ⟨z, h1, h2⟩ := w5G (P := P) (w := E.w) h (d8A hs x)
  exact ⟨z, q1A h1, h2⟩
 ·rename_i src dst x
  obtain ⟨z, h1, h2⟩ := y8G hT hm h (d8A hs x)
  exact ⟨z, q1A h1, h2.toS⟩
 ·exact ⟨_, rfl, (y9G hs h).toS⟩
 ·rename_i t x lo hi
  obtain ⟨z, h1, h2⟩ := y4G hT (w := E.w) hm hs h (d8A hs x)
  exact ⟨z, q1A h1, h2.toS⟩
 ·rename_i t x f
  obtain ⟨z, h1, h2⟩ := x5G hT (w := E.w) h (d8A hs x)
  exact ⟨z, q1A h1, h2.toS⟩
 ·rename_i t x f
  obtain ⟨z, h1, h2⟩ := x7G hT (w := E.w) h (d8A hs x)
  exact ⟨z, q1A h1, h2.toS⟩
 ·rename_i t x ix
  obtain ⟨z, h1, h2⟩ := x8G hT (w := E.w) hm h (d8A hs x) (d8A hs ix)
  exact ⟨z, q1A h1, h2.toS⟩
 ·rename_i t x ix
  obtain ⟨z, h1, h2⟩ := y3G hT (w := E.w) h (d8A hs x) (d8A hs ix)
  exact ⟨z, q1A h1, h2.toS⟩
 ·rename_i x ix
  have hx := d8A hs x
  split at h
  ·rename_i vs e
   rw [e] at hx
   obtain ⟨us, e2, hr⟩ := hx
   obtain ⟨y, h1, h2⟩ := h2F hr (w7B h)
   refine ⟨y, q1A ?_, h2.toS⟩
   rw [e2]
   simp [Instr.extract, h1]
  ·exact h.elim
 ·rename_i args argTypes
  split at h
  ·rename_i x t e1 e2
   have e1 := h4F e1
   have e2 := h4F e2
   subst e1 e2
   obtain ⟨z, h1, h2⟩ := y5G hT (w := E.w) hm (ty := type) h (d8A hs x)
   refine ⟨z, ?_, h2.toS⟩
   simp [execOp, resolve, invoke, builtin, h1]
  ·exact h.elim
 ·rename_i args argTypes
  cases hl : args.toList with
  | nil => rw [hl] at h; exact h.elim
  | cons p ps =>
   rw [hl] at h
   obtain ⟨z, h1, h2⟩ := e0E (P := P) (w := E.w) false (d3A (ev S) ps) _ v (a.eval p) (ps.map a.eval) h (d8A hs p) (d8E hs ps) (by rw [d9E, List.length_map])
   refine ⟨z, ?_, h2⟩
   have e : (args.map a.eval).toList = a.eval p :: ps.map a.eval := by rw [Array.toList_map, hl]; rfl
   have : (Builtin.min_ argTypes type (args.map a.eval)).run P E.w = .ok z E.w := by
    unfold Builtin.min_
    rw [e]; exact h1
   simp [execOp, resolve, invoke, builtin, this]
 ·rename_i args argTypes
  cases hl : args.toList with
  | nil => rw [hl] at h; exact h.elim
  | cons p ps =>
   rw [hl] at h
   obtain ⟨z, h1, h2⟩ := e0E (P := P) (w := E.w) true (d3A (ev S) ps) _ v (a.eval p) (ps.map a.eval) h (d8A hs p) (d8E hs ps) (by rw [d9E, List.length_map])
   refine ⟨z, ?_, h2⟩
   have e : (args.map a.eval).toList = a.eval p :: ps.map a.eval := by rw [Array.toList_map, hl]; rfl
   have : (Builtin.max_ argTypes type (args.map a.eval)).run P E.w = .ok z E.w := by
    unfold Builtin.max_
    rw [e]; exact h1
   simp [execOp, resolve, invoke, builtin, this]
 ·rename_i t x
  obtain ⟨z, h1, h2⟩ := z2G hT (w := E.w) h (d8A hs x)
  exact ⟨z, q1A h1, h2.toS⟩
 ·rename_i x s t ok
  obtain ⟨z, h1, h2⟩ := z5G hT (w := E.w) (s := s) h (d8A hs x)
  exact ⟨z, q1A h1, h2⟩
 ·exact h.elim
end
end Go.Rx
