/- Parts of a proof: evaluation of Go code over typed values, and what it computes. -/
import Derived.Calls
import Derived.Orders
import Derived.Laws.Sem
import Derived.Laws.World
import Derived.Laws.Cells
import Derived.Laws.Rows
import Derived.Laws.Append
import Derived.Laws.Tables
import Derived.Laws.Slices
import Derived.Great.BuildSlice
import Derived.Laws.StructEq
import Derived.Laws.BytesArg
set_option linter.unusedSimpArgs false
set_option linter.unusedVariables false
set_option linter.unusedSectionVars false
namespace Go.Rx
inductive Ty where
 | int (k : IntKind) | bool | str
 | sl (t : Ty)
 | own (t : Ty)
 | unit
 | pair (a b : Ty)
 | arr (n : Nat) (t : Ty)
 deriving DecidableEq
@[reducible] def den : Ty → Type
 | .int _ => Int
 | .bool => Bool
 | .str => ByteArray
 | .sl t => List (den t)
 | .own t => List (den t)
 | .unit => Unit
 | .pair a b => den a × den b
 | .arr _ t => List (den t)
def width : Ty → Nat
 | .unit => 0
 | .pair a b => width a + width b
 | .arr n t => n * width t
 | _ => 1
def Ty.pure : Ty → Bool
 | .int _ | .bool | .str | .unit => true
 | .own _ => false
 | .sl t => t.pure
 | .arr _ t => t.pure
 | .pair a b => a.pure && b.pure
def Ty.scalar : Ty → Bool
 | .unit => false
 | .pair _ _ => false
 | .arr _ _ => false
 | _ => true
def Ty.okp : Ty → Bool
 | .own t => t.pure
 | .pair a b => a.okp && b.okp
 | t => t.pure
def dflt : (t : Ty) → den t
 | .int _ => (0 : Int)
 | .bool => false
 | .str => ByteArray.empty
 | .sl _ => []
 | .own _ => []
 | .unit => ()
 | .pair a b => (dflt a, dflt b)
 | .arr n t => List.replicate n (dflt t)
structure GW where
 find : Nat → Option ((t : Ty) × den t)
def gfind [Inhabited GW] (g : Nat) : Option ((t : Ty) × den t) := (default : GW).find g
inductive AV where
 | top
 | int (k : IntKind) (n : Int)
 | bool (b : Bool)
 | str (s : ByteArray)
 | sl (t : Ty) (l : List (den t))
 | slv (t : Ty) (l : List (den t))
 | nilsl
 | arr (n : Nat) (t : Ty) (l : List (den t))
 | oref (id : Nat) (r : Option (Nat × Nat))
 | ptr (id off : Nat)
 | ptrA (id off n : Nat) (t : Ty) (i sub : Nat)
 | ptrO (id i sub : Nat)
 | ptrR (t : Ty) (l : List (den t)) (i sub : Nat)
 | bsl (id off n : Nat) (t : Ty) (lo len : Nat)
 | yld (l : Nat)
 | gptr (g : Nat)
 | cbox (c : AV)
 | nilp
 | func (f : FuncId) (first caps : List AV)
 | nilf
 | mapr (id : Nat)
 | nilm
 | iface (t : TypeId) (ag : Bool) (cs : List AV)
 | nili
 | agg (cs : List AV)
 | tup (vs : List AV)
instance : Inhabited AV := ⟨.top⟩
def getA (l : List AV) (i : Nat) : AV :=
 match l, i with
 | [], _ => .top
 | a :: l, i => match i with
  | 0 => a
  | i + 1 => getA l i
def setA (l : List AV) (i : Nat) (v : AV) : List AV :=
 match l, i with
 | [], _ => []
 | a :: l, i => match i with
  | 0 => v :: l
  | i + 1 => a :: setA l i v
def appA : List AV → List AV → List AV
 | [], m => m
 | a :: l, m => a :: appA l m
def lenA : List AV → Nat
 | [] => 0
 | _ :: l => lenA l + 1
def headA : List AV → AV
 | [] => .top
 | a :: _ => a
def repA (v : AV) : Nat → List AV
 | 0 => []
 | n + 1 => v :: repA v n
def mapA {α : Type} (f : α → AV) : List α → List AV
 | [] => []
 | a :: l => f a :: mapA f l
def oB {α β : Type} (x : Option α) (f : α → Option β) : Option β :=
 match x with
 | some a => f a
 | none => none
def oM {α β : Type} (x : Option α) (f : α → β) : Option β :=
 match x with
 | some a => some (f a)
 | none => none
def rOff : Option (Nat × Nat) → Nat
 | none => 0
 | some p => p.1
def rLen (n : Nat) : Option (Nat × Nat) → Nat
 | none => n
 | some p => p.2
def rTake {α : Type} (l : List α) : Option (Nat × Nat) → List α
 | none => l
 | some p => (l.drop p.1).take p.2
def enc : (t : Ty) → den t → List AV
 | .int k, x => [.int k x]
 | .bool, x => [.bool x]
 | .str, x => [.str x]
 | .sl t, x => [.sl t x]
 | .own t, x => [.sl t x]
 | .unit, _ => []
 | .pair a b, x => appA (enc a x.1) (enc b x.2)
 | .arr n t, x => [.arr n t x]
inductive OC where
 | box (cs : List AV)
 | arr (t : Ty) (l : List (den t))
 | map (es : List (Int × AV))
 | iter (s : ByteArray) (pos : Nat)
 | mp (k v : Bool × Ty) (es : List (Nat × (den k.2 × den v.2))) (ck : Nat)
 | mit (m since : Nat) (seen : List Nat) (last : Nat)
 | hol (t : Ty) (l : List (den t)) (g : Nat) (cs : List AV) (far : Bool)
structure St where
 tmps : List AV
 objs : List (Nat × OC)
 next : Nat
def St.put (S : St) (d : Option Nat) (v : AV) : St :=
 match d with
 | some d => { S with tmps := setA S.tmps d v }
 | none => S
def look (id : Nat) : List (Nat × OC) → Option OC
 | [] => none
 | (j, o) :: r => bif Nat.beq j id then some o else look id r
def setO (id : Nat) (o : OC) : List (Nat × OC) → List (Nat × OC)
 | [] => [(id, o)]
 | (j, p) :: r => bif Nat.beq j id then (id, o) :: r else bif Nat.blt id j then (id, o) :: (j, p) :: r else (j, p) :: setO id o r
def dropO (id : Nat) : List (Nat × OC) → List (Nat × OC)
 | [] => []
 | (j, p) :: r => bif Nat.beq j id then dropO id r else (j, p) :: dropO id r
end Go.Rx
namespace Go.Rx
variable [Inhabited GW]
inductive TD where
 | bool | int (k : IntKind) | str
 | ptr (e : TypeId) | sl (e : TypeId) | arr (n : Nat) (e : TypeId) | st (fs : List (Nat × TypeId))
 | map (k e : TypeId)
 | fn
 | other
structure TInfo where
 td : TD
 size : Nat
 bytes : Nat
 ty : Option Ty
 zc : List AV
 eq : Bool := false
 op : Bool := false   -- of a slice: what is built of one element stays open
 fz : Bool := false   -- of a slice: what is built of it in a drawn region is not changed any more
abbrev Tab := List (Nat × TInfo)
def tget (t : TypeId) : Tab → Option TInfo
 | [] => none
 | (j, i) :: r => bif Nat.beq j t then some i else tget t r
def TD.isAgg : TD → Bool
 | .arr .. => true
 | .st .. => true
 | _ => false
def tdOf (T : Tab) (t : TypeId) : Option TD :=
 match tget t T with
 | some i => some i.td
 | none => none
def AV.w : AV → Nat
 | .arr n t _ => n * Rx.width t
 | _ => 1
def widthL : List AV → Nat
 | [] => 0
 | c :: cs => c.w + widthL cs
def skipC : List AV → Nat → Option (List AV)
 | [], n => bif Nat.beq n 0 then some [] else none
 | c :: cs, n => bif Nat.beq n 0 then some (c :: cs) else bif Nat.ble c.w n then skipC cs (n - c.w) else none
def takeC : List AV → Nat → Option (List AV)
 | [], n => bif Nat.beq n 0 then some [] else none
 | c :: cs, n => bif Nat.beq n 0 then some [] else bif Nat.ble c.w n then oM (takeC cs (n - c.w)) (c :: ·) else none
def cut (cs : List AV) (off n : Nat) : Option (List AV) := oB (skipC cs off) fun r => takeC r n
def splice (cs : List AV) (off : Nat) (new : List AV) : Option (List AV) :=
 oB (takeC cs off) fun a => oM (skipC cs (off + widthL new)) fun b => appA a (appA new b)
def cellsOf : AV → Option (List AV)
 | .agg cs => some cs
 | .tup _ => none
 | .top => none
 | .arr .. => none
 | v => some [v]
def valOf (agg : Bool) (cs : List AV) : Option AV :=
 match agg, cs with
 | true, cs => some (.agg cs)
 | false, [.arr ..] => none
 | false, [c] => some c
 | _, _ => none
abbrev Objs := List (Nat × OC)
def castL (t' t : Ty) (l : List (den t')) : Option (List (den t)) := if h : t' = t then some (h ▸ l) else none
def takeOwn (t : Ty) (objs : Objs) (id : Nat) (rg : Option (Nat × Nat)) : Option (List (den t) × Objs) :=
 match look id objs with
 | some (.arr t' l) => oM (castL t' t l) fun l => (rTake l rg, dropO id objs)
 | _ => none
def manyTy {α : Type} (f : List AV → Objs → Option (α × List AV × Objs)) : Nat → List AV → Objs → Option (List α × List AV × Objs)
 | 0, cs, objs => some ([], cs, objs)
 | n + 1, cs, objs => match f cs objs with
  | some (x, cs, objs) => match manyTy f n cs objs with
   | some (xs, cs, objs) => some (x :: xs, cs, objs)
   | none => none
  | none => none
def toTy : (t : Ty) → List AV → Objs → Option (den t × List AV × Objs)
 | .int k, cs, objs => match cs with
  | .int k' n :: r => if k' = k then some (n, r, objs) else none
  | _ => none
 | .bool, cs, objs => match cs with
  | .bool b :: r => some (b, r, objs)
  | _ => none
 | .str, cs, objs => match cs with
  | .str s :: r => some (s, r, objs)
  | _ => none
 | .sl t, cs, objs => match cs with
  | .sl t' l :: r => oM (castL t' t l) fun l => (l, r, objs)
  | .nilsl :: r => some ([], r, objs)
  | .oref id rg :: r => oM (takeOwn t objs id rg) fun x => (x.1, r, x.2)
  | _ => none
 | .own t, cs, objs => match cs with
  | .nilsl :: r => some ([], r, objs)
  | .oref id rg :: r => oM (takeOwn t objs id rg) fun x => (x.1, r, x.2)
  | _ => none
 | .unit, cs, objs => some ((), cs, objs)
 | .pair a b, cs, objs => match toTy a cs objs with
  | some (x, cs, objs) => match toTy b cs objs with
   | some (y, cs, objs) => some ((x, y), cs, objs)
   | none => none
  | none => none
 | .arr n t, cs, objs => match cs with
  | .arr n' t' l :: r => if n' = n then oM (castL t' t l) fun l => (l, r, objs) else none
  | cs => manyTy (toTy t) n cs objs
def asTy (t : Ty) (v : AV) (objs : Objs) : Option (den t × Objs) :=
 match cellsOf v with
 | some cs => match toTy t cs objs with
  | some (x, [], objs) => some (x, objs)
  | _ => none
 | none => none
structure Mem where
 objs : Objs
 next : Nat
def laid : (t : Ty) → den t → Mem → List AV × Mem
 | .int k, x, m => ([.int k x], m)
 | .bool, x, m => ([.bool x], m)
 | .str, x, m => ([.str x], m)
 | .sl t, x, m => ([.sl t x], m)
 | .own t, x, m => ([.oref m.next none], ⟨setO m.next (.arr t x) m.objs, m.next + 1⟩)
 | .unit, _, m => ([], m)
 | .pair a b, x, m => (appA (laid a x.1 m).1 (laid b x.2 (laid a x.1 m).2).1, (laid b x.2 (laid a x.1 m).2).2)
 | .arr n t, x, m => ([.arr n t x], m)
def litS : Value → AV
 | .bool b => .bool b
 | .int k n => .int k n
 | .string s => .str s
 | .pointer none => .nilp
 | .slice none 0 0 => .nilsl
 | .nilFunc => .nilf
 | .map none => .nilm
 | .nilIface => .nili
 | _ => .top
def noTop : List AV → Bool
 | [] => true
 | .top :: _ => false
 | _ :: l => noTop l
def lit : Value → AV
 | .agg cs => bif noTop (mapA litS cs.toList) then .agg (mapA litS cs.toList) else .top
 | v => litS v
def ev (S : St) : Operand → AV
 | .tmp t => getA S.tmps t
 | .const v => lit v
 | .global g => .gptr g
 | .func f => .func f [] []
def mapP (S : St) : List (Nat × Operand) → List (Nat × AV)
 | [] => []
 | p :: l => (p.1, ev S p.2) :: mapP S l
def lenP : List (Nat × AV) → Nat
 | [] => 0
 | _ :: l => lenP l + 1
def nthF : List (Nat × TypeId) → Nat → Option (Nat × TypeId)
 | [], _ => none
 | f :: l, i => match i with
  | 0 => some f
  | i + 1 => nthF l i
def nthA : List AV → Nat → Option AV
 | [], _ => none
 | f :: l, i => match i with
  | 0 => some f
  | i + 1 => nthA l i
inductive VR where
 | no
 | val (v : AV)
 | gval (b : Bool) (v : AV)
def ofOpt : Option AV → VR
 | some v => .val v
 | none => .no
def bitsI (op : BinOp) (k : IntKind) (x y : Int) : Int :=
 match op with
 | .and => k.wrap (BitVec.ofInt k.bits x &&& BitVec.ofInt k.bits y).toNat
 | .or => k.wrap (BitVec.ofInt k.bits x ||| BitVec.ofInt k.bits y).toNat
 | .xor => k.wrap (BitVec.ofInt k.bits x ^^^ BitVec.ofInt k.bits y).toNat
 | _ => k.wrap (BitVec.ofInt k.bits x &&& ~~~ BitVec.ofInt k.bits y).toNat
def shlI (k : IntKind) (x y : Int) : Int := k.wrap (x * 2 ^ min y.toNat k.bits)
def shrI (k : IntKind) (x y : Int) : Int := x.fdiv (2 ^ min y.toNat k.bits)
def binI (op : BinOp) (k : IntKind) (a b : Int) : VR :=
 match op with
 | .add => .val (.int k (k.wrap (a + b)))
 | .sub => .val (.int k (k.wrap (a - b)))
 | .mul => .val (.int k (k.wrap (a * b)))
 | .quo => .gval (b != 0) (.int k (k.wrap (a.tdiv b)))
 | .rem => .gval (b != 0) (.int k (a.tmod b))
 | .and => .val (.int k (bitsI .and k a b))
 | .or => .val (.int k (bitsI .or k a b))
 | .xor => .val (.int k (bitsI .xor k a b))
 | .andNot => .val (.int k (bitsI .andNot k a b))
 | .eql => .val (.bool (a == b))
 | .neq => .val (.bool (a != b))
 | .lss => .val (.bool (decide (a < b)))
 | .leq => .val (.bool (decide (a ≤ b)))
 | .gtr => .val (.bool (decide (a > b)))
 | .geq => .val (.bool (decide (a ≥ b)))
 | .shl | .shr => .no
def strEq (x y : ByteArray) : Bool := x.toList == y.toList
def isBoolT (T : Tab) (t : TypeId) : Bool :=
 match tget t T with
 | some i => match i.td with
  | .bool => true
  | _ => false
 | none => false
def isSlT (T : Tab) (t : TypeId) : Bool :=
 match tget t T with
 | some i => match i.td with
  | .sl _ => true
  | _ => false
 | none => false
def isFnT (T : Tab) (t : TypeId) : Bool :=
 match tget t T with
 | some i => match i.td with
  | .fn => true
  | _ => false
 | none => false
def eqFl (T : Tab) (eq : TypeId → List AV → List AV → Option Bool) (xs ys : List AV) : List (Nat × TypeId) → Option Bool
 | [] => some true
 | f :: fs => match tget f.2 T with
  | some i => match cut xs f.1 i.size, cut ys f.1 i.size with
   | some a, some b => match eq f.2 a b with
    | some r => match eqFl T eq xs ys fs with
     | some s => some (r && s)
     | none => none
    | none => none
   | _, _ => none
  | none => none
def intEl (T : Tab) (e : TypeId) : Bool :=
 match tget e T with
 | some i => match i.td with
  | .int _ => Nat.beq i.size 1
  | _ => false
 | none => false
def eqC (T : Tab) : Nat → TypeId → List AV → List AV → Option Bool
 | 0, _, _, _ => none
 | d + 1, t, xs, ys => match tget t T with
  | none => none
  | some i => match i.td, xs, ys with
   | .bool, [.bool a], [.bool b] => some (a == b)
   | .int _, [.int k a], [.int k' b] => if k = k' then some (a == b) else none
   | .str, [.str a], [.str b] => some (strEq a b)
   | .arr n e, [.arr n1 (.int k1) l1], [.arr n2 (.int k2) l2] => if n1 = n ∧ n2 = n ∧ k1 = k2 ∧ intEl T e = true then some (l1 == l2) else none
   | .st fs, xs, ys => bif i.eq then eqFl T (eqC T d) xs ys fs else none
   | _, _, _ => none
def eqAgg (T : Tab) (t : TypeId) (xs ys : List AV) : Option Bool :=
 match tget t T with
 | some i => bif i.eq && i.td.isAgg then eqC T 8 t xs ys else none
 | none => none
def binV (T : Tab) (t : TypeId) (op : BinOp) (x y : AV) : VR :=
 match op, x, y with
 | .shl, .int k a, .int _ b => .gval (decide (0 ≤ b)) (.int k (shlI k a b))
 | .shr, .int k a, .int _ b => .gval (decide (0 ≤ b)) (.int k (shrI k a b))
 | op, .int k a, .int k' b => if k = k' then binI op k a b else .no
 | .add, .str a, .str b => .gval (decide (((a.size + b.size : Nat) : Int) ≤ IntKind.i64.max)) (.str (a ++ b))
 | .eql, .str a, .str b => .val (.bool (strEq a b))
 | .neq, .str a, .str b => .val (.bool (!strEq a b))
 | .eql, .bool a, .bool b => bif isBoolT T t then .val (.bool (a == b)) else .no
 | .neq, .bool a, .bool b => bif isBoolT T t then .val (.bool (!(a == b))) else .no
 | .eql, .slv _ _, .nilsl => bif isSlT T t then .val (.bool false) else .no
 | .neq, .slv _ _, .nilsl => bif isSlT T t then .val (.bool true) else .no
 | .eql, .nilsl, .nilsl => bif isSlT T t then .val (.bool true) else .no
 | .neq, .nilsl, .nilsl => bif isSlT T t then .val (.bool false) else .no
 | .eql, .func _ _ _, .nilf => bif isFnT T t then .val (.bool false) else .no
 | .neq, .func _ _ _, .nilf => bif isFnT T t then .val (.bool true) else .no
 | .eql, .nilf, .nilf => bif isFnT T t then .val (.bool true) else .no
 | .neq, .nilf, .nilf => bif isFnT T t then .val (.bool false) else .no
 | .eql, .agg xs, .agg ys => ofOpt (oM (eqAgg T t xs ys) .bool)
 | .neq, .agg xs, .agg ys => ofOpt (oM (eqAgg T t xs ys) fun b => .bool (!b))
 | _, _, _ => .no
def isCell : AV → Bool
 | .top => false
 | .arr .. => false
 | .agg _ => false
 | .tup _ => false
 | _ => true
def allCell : List AV → Bool
 | [] => true
 | a :: l => isCell a && allCell l
def unV (op : UnOp) (x : AV) : VR :=
 match op, x with
 | .neg, .int k n => .val (.int k (k.wrap (0 - n)))
 | .xor, .int k n => .val (.int k (bitsI .xor k (if k.signed then -1 else k.max) n))
 | .not, .bool b => .val (.bool (!b))
 | _, _ => .no
def pickB (c : Bool) (a b : AV) : VR :=
 match a, b with
 | .bool a, .bool b => .val (.bool (bif c then a else b))
 | .int k a, .int k' b => if k = k' then .val (.int k (bif c then a else b)) else .no
 | a, b => match c with
  | true => .val a
  | false => .val b
def pickV (c a b : AV) : VR :=
 match c with
 | .bool c => pickB c a b
 | _ => .no
def within (i : Int) (n : Nat) : Bool := decide (0 ≤ i) && decide (i < (n : Int))
def gOpt (b : Bool) : Option AV → VR
 | some v => .gval b v
 | none => .no
def arrAt (cs : List AV) (off n : Nat) (ty : Ty) : Option (List (den ty)) :=
 match cut cs off (n * width ty) with
 | some [.arr n' ty' l] => bif Nat.beq n' n then castL ty' ty l else none
 | _ => none
def cutV (i : TInfo) (cs : List AV) (off : Nat) : VR := ofOpt (oB (cut cs off i.size) (valOf i.td.isAgg))
def gV (b : Bool) : VR → VR
 | .val v => .gval b v
 | _ => .no
def loadV (T : Tab) (S : St) (t : TypeId) (a : AV) : VR :=
 match tget t T with
 | none => .no
 | some i =>
  match a with
  | .ptr id off => match look id S.objs with
   | some (.box cs) => cutV i cs off
   | _ => .no
  | .ptrA id off n ty k sub => match look id S.objs with
   | some (.box cs) => match arrAt cs off n ty with
    | some l => cutV i (enc ty (l.getD k (dflt ty))) sub
    | none => .no
   | _ => .no
  | .ptrO id k sub => match look id S.objs with
   | some (.arr ty l) => cutV i (enc ty (l.getD k (dflt ty))) sub
   | some (.hol ty l g cs far) => match far with
    | false => gV (Nat.beq k g) (cutV i cs sub)
    | true => gV (!Nat.beq k g) (cutV i (enc ty (l.getD k (dflt ty))) sub)
   | _ => .no
  | .ptrR ty l k sub => cutV i (enc ty (l.getD k (dflt ty))) sub
  | .gptr g => match gfind g with
   | some x => cutV i (enc x.1 x.2) 0
   | none => .no
  | .cbox c => cutV i [c] 0
  | _ => .no
def fieldAV (T : Tab) (t : TypeId) (a : AV) (f : Nat) : VR :=
 match tdOf T t with
 | some (.st fs) => match nthF fs f with
  | some (o, ft) => match tget ft T with
   | some fi => bif Nat.beq fi.size 0 then .no else match a with
    | .ptr id off => .val (.ptr id (off + o))
    | .ptrA id off n ty k sub => .val (.ptrA id off n ty k (sub + o))
    | .ptrO id k sub => .val (.ptrO id k (sub + o))
    | .ptrR ty l k sub => .val (.ptrR ty l k (sub + o))
    | .gptr g => match gfind g with
     | some x => .val (.ptrR x.1 [x.2] 0 o)
     | none => .no
    | _ => .no
   | none => .no
  | none => .no
 | _ => .no
def fieldV (T : Tab) (t : TypeId) (x : AV) (f : Nat) : VR :=
 match tdOf T t, x with
 | some (.st fs), .agg cs => match nthF fs f with
  | some (o, ft) => match tget ft T with
   | some fi => cutV fi cs o
   | none => .no
  | none => .no
 | _, _ => .no
def elemOK (T : Tab) (e : TypeId) (ty : Ty) : Bool :=
 match tget e T with
 | some i => Nat.beq i.size (width ty)
 | none => false
def orefN (T : Tab) (S : St) (e : TypeId) (id : Nat) : Option Nat :=
 match look id S.objs with
 | some (.arr ty l) => bif elemOK T e ty then some l.length else none
 | some (.hol ty l _ _ _) => bif elemOK T e ty then some l.length else none
 | _ => none
def offAdd : Option (Nat × Nat) → Nat → Nat
 | none, i => i
 | some p, i => p.1 + i
def indexAV (T : Tab) (S : St) (t : TypeId) (x : AV) (ix : AV) : VR :=
 match tdOf T t, x, ix with
 | some (.arr n e), .ptr id off, .int _ i => match tget e T, look id S.objs with
  | some ei, some (.box cs) => match cut cs off (n * ei.size) with
   | some [.arr _ ty _] => bif Nat.beq ei.size (width ty) then .gval (within i n) (.ptrA id off n ty i.toNat 0) else .no
   | _ => .no
  | _, _ => .no
 | some (.arr n e), .gptr g, .int _ i => match gfind g with
  | some ⟨.arr n' ty, l⟩ => bif Nat.beq n' n && elemOK T e ty then .gval (within i n) (.ptrR ty l i.toNat 0) else .no
  | _ => .no
 | some (.sl e), .sl ty l, .int _ i => bif elemOK T e ty then .gval (within i l.length) (.ptrR ty l i.toNat 0) else .no
 | some (.sl e), .oref id rg, .int _ i => match orefN T S e id with
  | some n => .gval (within i (rLen n rg)) (.ptrO id (offAdd rg i.toNat) 0)
  | none => .no
 | some (.sl e), .bsl id off n ty lo len, .int _ i => bif elemOK T e ty then .gval (within i len) (.ptrA id off n ty (i.toNat + lo) 0) else .no
 | _, _, _ => .no
def indexV (T : Tab) (t : TypeId) (x : AV) (ix : AV) : VR :=
 match tdOf T t, x, ix with
 | some (.arr n e), .agg [.arr n' ty l], .int _ i => match tget e T with
  | some ei => bif Nat.beq n' n && Nat.beq ei.size (width ty) then gOpt (within i n) (valOf ei.td.isAgg (enc ty (l.getD i.toNat (dflt ty)))) else .no
  | none => .no
 | some .str, .str s, .int _ i => .gval (within i s.size) (.int .u8 ((s.data.getD i.toNat 0).toNat : Int))
 | some (.arr n e), .agg cs, .int _ i => match tget e T with
  | some ei => match cutV ei cs (i.toNat * ei.size) with
   | .val v => .gval (within i n) v
   | _ => .no
  | none => .no
 | _, _, _ => .no
def loB (S : St) : Option Operand → Option Int
 | none => some 0
 | some x => match ev S x with
  | .int _ i => some i
  | _ => none
def hiB (S : St) (len : Nat) : Option Operand → Option Int
 | none => some (len : Int)
 | some x => match ev S x with
  | .int _ i => some i
  | _ => none
def cutG (lo hi : Int) (len : Nat) : Bool := decide (0 ≤ lo) && decide (lo ≤ hi) && decide (hi ≤ (len : Int))
def sliceV (T : Tab) (S : St) (t : TypeId) (x : AV) (lo hi : Option Operand) : VR :=
 match tdOf T t, x with
 | some .str, .str s => match loB S lo, hiB S s.size hi with
  | some l, some h => .gval (cutG l h s.size) (.str (s.extract l.toNat h.toNat))
  | _, _ => .no
 | some (.sl e), .sl ty xs => match loB S lo, hiB S xs.length hi with
  | some l, some h => bif elemOK T e ty then .gval (cutG l h xs.length) (.sl ty ((xs.take h.toNat).drop l.toNat)) else .no
  | _, _ => .no
 | some (.sl e), .oref id rg => match orefN T S e id with
  | some n => match loB S lo, hiB S (rLen n rg) hi with
   | some l, some h => .gval (cutG l h (rLen n rg)) (.oref id (some (offAdd rg l.toNat, h.toNat - l.toNat)))
   | _, _ => .no
  | none => .no
 | some (.arr n e), .ptr id off => match look id S.objs, tget e T with
  | some (.box cs), some ei => match cut cs off (n * ei.size) with
   | some [.arr n' ty _] => match loB S lo, hiB S n hi with
    | some l, some h => bif Nat.beq n' n && Nat.beq ei.size (width ty) then .gval (cutG l h n) (.bsl id off n ty l.toNat (h.toNat - l.toNat)) else .no
    | _, _ => .no
   | _ => .no
  | _, _ => .no
 | _, _ => .no
def lenV (T : Tab) (S : St) (t : TypeId) (x : AV) : VR :=
 match tdOf T t, x with
 | some .str, .str s => .val (.int .i64 (s.size : Int))
 | some (.sl _), .sl _ l => .val (.int .i64 (l.length : Int))
 | some (.sl _), .nilsl => .val (.int .i64 0)
 | some (.sl _), .bsl _ _ _ _ _ len => .val (.int .i64 (len : Int))
 | some (.sl e), .oref id rg => match orefN T S e id with
  | some n => .val (.int .i64 (rLen n rg : Nat))
  | none => .no
 | some (.arr n _), _ => .val (.int .i64 (n : Int))
 | some (.map _ _), .mapr id => match look id S.objs with
  | some (.mp _ _ es _) => .val (.int .i64 (es.length : Int))
  | _ => .no
 | _, _ => .no
def minV (mx : Bool) : AV → List AV → VR
 | x, [] => .val x
 | .int k a, .int k' b :: r => if k = k' then minV mx (.int k (bif mx then (if a < b then b else a) else (if b < a then b else a))) r else .no
 | _, _ => .no
def fillC (place : Nat → Option (Nat × Nat)) (cs : List AV) : List (Nat × AV) → Option (List AV)
 | [] => some cs
 | (i, v) :: rest => match place i, cellsOf v with
  | some (off, size), some new => bif Nat.beq (widthL new) size then oB (splice cs off new) fun cs => fillC place cs rest else none
  | _, _ => none
def scal : (t : Ty) → AV → Option (den t)
 | .int k, .int k' n => if k' = k then some n else none
 | .bool, .bool b => some b
 | .str, .str s => some s
 | _, _ => none
def setAll (t : Ty) (l : List (den t)) : List (Nat × AV) → Option (List (den t))
 | [] => some l
 | (i, v) :: r => bif Nat.blt i l.length then (match scal t v with
  | some x => setAll t (l.set i x) r
  | none => none) else none
def buildV (T : Tab) (t : TypeId) (parts : List (Nat × AV)) : VR :=
 match tget t T with
 | some i => match i.td with
  | .st fs => ofOpt (oM (fillC (fun j => oB (nthF fs j) fun f => oM (tget f.2 T) fun fi => (f.1, fi.size)) i.zc parts) .agg)
  | .arr n e => match i.zc with
   | [.arr n' ty l] => bif Nat.beq n' n && elemOK T e ty then ofOpt (oM (setAll ty l parts) fun l => .agg [.arr n ty l]) else .no
   | _ => match tget e T with
    | some ei => ofOpt (oM (fillC (fun j => some (j * ei.size, ei.size)) i.zc parts) .agg)
    | none => .no
  | _ => .no
 | none => .no
def strOf (l : List Int) : ByteArray := ⟨(l.map fun n => UInt8.ofNat n.toNat).toArray⟩
def isU8 (T : Tab) (e : TypeId) : Bool :=
 match tdOf T e with
 | some (.int .u8) => true
 | _ => false
def convV (T : Tab) (S : St) (src dst : TypeId) (x : AV) : VR :=
 match tget src T, tget dst T with
 | some i, some j => match i.td, j.td, x with
  | _, .int k, .int _ n => .val (.int k (k.wrap n))
  | .str, .str, .str s => .val (.str s)
  | .int _, .str, .int _ n => .val (.str (Utf8.encode n))
  | .sl e, .str, .sl (.int .u8) l => bif isU8 T e then .val (.str (strOf l)) else .no
  | .sl e, .str, .nilsl => bif isU8 T e then .val (.str (strOf [])) else .no
  | .sl e, .str, .oref id rg => match look id S.objs with
   | some (.arr (.int .u8) l) => bif isU8 T e then .val (.str (strOf (rTake l rg))) else .no
   | _ => .no
  | _, _, _ => .no
 | _, _ => .no
def funcV (f : FuncId) (first caps : List AV) : VR := bif allCell first && allCell caps then .val (.func f first caps) else .no
def fitsA (agg : Bool) : AV → Bool
 | .agg _ => agg
 | _ => !agg
def keyEq : (t : Ty) → den t → den t → Bool
 | .int _, a, b => (a : Int) == b
 | .arr _ (.int _), a, b => (a : List Int) == b
 | _, _, _ => false
def findE {A V : Type} (eq : A → Bool) : List (Nat × (A × V)) → Option V
 | [] => none
 | p :: es => bif eq p.2.1 then some p.2.2 else findE eq es
def putE {A V : Type} (eq : A → Bool) (x : V) : List (Nat × (A × V)) → List (Nat × (A × V))
 | [] => []
 | p :: es => bif eq p.2.1 then (p.1, (p.2.1, x)) :: es else p :: putE eq x es
def bornE {A V : Type} (eq : A → Bool) (ck : Nat) : List (Nat × (A × V)) → Nat
 | [] => ck
 | p :: es => bif eq p.2.1 then p.1 else bornE eq ck es
def delE {A V : Type} (eq : A → Bool) : List (Nat × (A × V)) → List (Nat × (A × V))
 | [] => []
 | p :: es => bif eq p.2.1 then es else p :: delE eq es
def setE {A V : Type} (n : Int) (x : V) : List (Nat × (A × V)) → List (Nat × (A × V))
 | [] => []
 | p :: es => bif ((p.1 : Nat) : Int) == n then (p.1, (p.2.1, x)) :: es else p :: setE n x es
def hasB {A V : Type} (n : Int) : List (Nat × (A × V)) → Bool
 | [] => false
 | p :: es => ((p.1 : Nat) : Int) == n || hasB n es
def insE {A V : Type} (eq : A → Bool) (k : A) (x : V) (ck : Nat) (es : List (Nat × (A × V))) : List (Nat × (A × V)) :=
 bif (findE eq es).isSome then putE eq x es else es ++ [(ck, (k, x))]
def entE {A V : Type} (eq : A → Bool) (k : A) (x : V) (ck : Nat) (es : List (Nat × (A × V))) : List (Nat × (A × V)) :=
 bif (findE eq es).isSome then es else es ++ [(ck, (k, x))]
def ckE {A V : Type} (eq : A → Bool) (ck : Nat) (es : List (Nat × (A × V))) : Nat := bif (findE eq es).isSome then ck else ck + 1
def keyOK (T : Tab) (td : TD) (t : Ty) : Bool :=
 match td, t with
 | .int k, .int k' => decide (k = k')
 | .arr n e, .arr n' (.int _) => Nat.beq n n' && intEl T e
 | _, _ => false
def mpTy (T : Tab) (t : TypeId) : Option ((Bool × Ty) × (Bool × Ty)) :=
 match tdOf T t with
 | some (.map kt et) => match tget kt T, tget et T with
  | some ki, some ei => match ki.ty, ei.ty with
   | some tk, some tv => bif keyOK T ki.td tk && (tv.pure && (ei.td.isAgg || tv.scalar)) then some ((ki.td.isAgg, tk), (ei.td.isAgg, tv)) else none
   | _, _ => none
  | _, _ => none
 | _ => none
def mpIs (T : Tab) (t : TypeId) (k v : Bool × Ty) : Bool :=
 match mpTy T t with
 | some p => decide (p.1 = k) && decide (p.2 = v)
 | none => false
def valIn (t : Bool × Ty) (v : AV) (objs : Objs) : Option (den t.2 × Objs) := bif fitsA t.1 v then asTy t.2 v objs else none
def keyIn (t : Bool × Ty) (v : AV) : Option (den t.2) :=
 match t, v with
 | (false, .int k), .int k' n => if k' = k then some n else none
 | (true, .arr n t), .agg [.arr n' t' l] => if n' = n then castL t' t l else none
 | _, _ => none
def outV (t : Bool × Ty) (x : den t.2) : AV := if t.1 then .agg (enc t.2 x) else headA (enc t.2 x)
def lookV (T : Tab) (S : St) (t : TypeId) (ok : Bool) (m k : AV) : VR :=
 match m with
 | .mapr id => match look id S.objs with
  | some (.mp kt vt es _) => bif mpIs T t kt vt then (match keyIn kt k with
   | some x => match ok with
    | true => .val (.tup [outV vt ((findE (keyEq kt.2 x) es).getD (dflt vt.2)), .bool (findE (keyEq kt.2 x) es).isSome])
    | false => .val (outV vt ((findE (keyEq kt.2 x) es).getD (dflt vt.2)))
   | none => .no) else .no
  | _ => .no
 | _ => .no
def concT (T : Tab) (t : TypeId) : Bool :=
 match tdOf T t with
 | some .other => false
 | some _ => true
 | none => false
def ifaceV (T : Tab) (t : TypeId) (x : AV) : VR :=
 bif concT T t then (match x with
  | .agg cs => bif allCell cs then .val (.iface t true cs) else .no
  | x => bif isCell x then .val (.iface t false [x]) else .no) else .no
def unI (ag : Bool) (cs : List AV) : AV :=
 match ag with
 | true => .agg cs
 | false => headA cs
def zeroV (T : Tab) (t : TypeId) : Option AV :=
 match tget t T with
 | some i => valOf i.td.isAgg i.zc
 | none => none
def missV (T : Tab) (t : TypeId) (ok : Bool) : VR :=
 match ok, zeroV T t with
 | true, some z => .val (.tup [z, .bool false])
 | _, _ => .no
def assertV (T : Tab) (t : TypeId) (ok : Bool) (x : AV) : VR :=
 bif concT T t then (match x with
  | .iface u ag cs => bif Nat.beq u t then (match ok with
    | true => .val (.tup [unI ag cs, .bool true])
    | false => .val (unI ag cs)) else missV T t ok
  | .nili => missV T t ok
  | _ => .no) else .no
def pureOp (T : Tab) (S : St) (op : Op) : VR :=
 match op with
 | .move x => .val (ev S x)
 | .assign x => .val (ev S x)
 | .pick c a b => pickV (ev S c) (ev S a) (ev S b)
 | .build t parts => buildV T t (mapP S parts.toList)
 | .load t a => loadV T S t (ev S a)
 | .nilCheck x => match ev S x with
  | .ptr id off => .val (.ptr id off)
  | .ptrA id off n ty k sub => .val (.ptrA id off n ty k sub)
  | .ptrO id k sub => .val (.ptrO id k sub)
  | .ptrR ty l k sub => .val (.ptrR ty l k sub)
  | .gptr g => .val (.gptr g)
  | .cbox c => .val (.cbox c)
  | .func f a b => .val (.func f a b)
  | _ => .no
 | .binOp op t x y _ => binV T t op (ev S x) (ev S y)
 | .unOp op _ x => unV op (ev S x)
 | .convert src dst x => convV T S src dst (ev S x)
 | .makeFunc (.func f) first captured => funcV f (mapA (ev S) first.toList) (mapA (ev S) captured.toList)
 | .slice t x lo hi none => sliceV T S t (ev S x) lo hi
 | .fieldAddr t x f => fieldAV T t (ev S x) f
 | .field t x f => fieldV T t (ev S x) f
 | .indexAddr t x ix => indexAV T S t (ev S x) (ev S ix)
 | .index t x ix => indexV T t (ev S x) (ev S ix)
 | .extract x ix => match ev S x with
  | .tup vs => ofOpt (nthA vs ix)
  | _ => .no
 | .call { callee := .builtin .len, args, argTypes } => match args.toList, argTypes.toList with
  | [x], [t] => lenV T S t (ev S x)
  | _, _ => .no
 | .call { callee := .builtin .min, args, .. } => match mapA (ev S) args.toList with
  | x :: r => minV false x r
  | _ => .no
 | .call { callee := .builtin .max, args, .. } => match mapA (ev S) args.toList with
  | x :: r => minV true x r
  | _ => .no
 | .makeInterface t x => ifaceV T t (ev S x)
 | .typeAssert x _ t ok => assertV T t ok (ev S x)
 | .lookup t m k ok => lookV T S t ok (ev S m) (ev S k)
 | _ => .no
inductive HR where
 | no
 | fork (b : Bool) (v : AV) (objs : Objs) (v' : AV) (objs' : Objs)
 | done (v : AV) (objs : Objs)
 | guard (b : Bool) (v : AV) (objs : Objs)
 | pick (n : Int) (es : List (Int × AV)) (z : AV) (objs : Objs)
def storeH (T : Tab) (S : St) (t : TypeId) (a v : AV) : HR :=
 match tget t T with
 | none => .no
 | some i =>
  match a with
  | .ptr id off => match look id S.objs, cellsOf v with
   | some (.box cs), some new => bif Nat.beq (widthL new) i.size then (match splice cs off new with
    | some cs => .done (.tup []) (setO id (.box cs) S.objs)
    | none => .no) else .no
   | _, _ => .no
  | .ptrA id off n ty k sub => match look id S.objs, cellsOf v with
   | some (.box cs), some new => match arrAt cs off n ty with
    | some l => bif Nat.beq (widthL new) i.size && ty.pure then (match oB (splice (enc ty (l.getD k (dflt ty))) sub new) fun e => toTy ty e S.objs with
     | some (x, [], objs) => match splice cs off [.arr n ty (l.set k x)] with
      | some cs => .done (.tup []) (setO id (.box cs) objs)
      | none => .no
     | _ => .no) else .no
    | none => .no
   | _, _ => .no
  | .ptrO id k sub => match look id S.objs, cellsOf v with
   | some (.arr ty l), some new => bif Nat.beq (widthL new) i.size && ty.pure then (match oB (splice (enc ty (l.getD k (dflt ty))) sub new) fun e => toTy ty e S.objs with
    | some (x, [], objs) => match look id objs with
     | some _ => .done (.tup []) (setO id (.arr ty (l.set k x)) objs)
     | none => .no
    | _ => .no) else .no
   | some (.hol ty l g cs far), some new => bif Nat.beq (widthL new) i.size && ty.pure then (match far with
    | false => match splice cs sub new with
     | some cs => .guard (Nat.beq k g) (.tup []) (setO id (.hol ty l g cs false) S.objs)
     | none => .no
    | true => match oB (splice (enc ty (l.getD k (dflt ty))) sub new) fun e => toTy ty e S.objs with
     | some (x, [], objs) => match look id objs with
      | some _ => .guard (!Nat.beq k g) (.tup []) (setO id (.hol ty (l.set k x) g cs true) objs)
      | none => .no
     | _ => .no) else .no
   | _, _ => .no
  | _ => .no
def elemsOf (t : Ty) (objs : Objs) : AV → Option (List (den t))
 | .nilsl => some []
 | .sl t' l => castL t' t l
 | .slv t' l => castL t' t l
 | .oref id rg => match look id objs with
  | some (.arr t' l) => oM (castL t' t l) fun l => rTake l rg
  | _ => none
 | .bsl id off n t' lo len => bif Nat.beq (width t') (width t) then (match look id objs with
  | some (.box cs) => oM (arrAt cs off n t) fun l => (l.drop lo).take len
  | _ => none) else none
 | _ => none
def partsTy (t : Ty) : List AV → Objs → Option (List (den t) × Objs)
 | [], objs => some ([], objs)
 | v :: vs, objs => match asTy t v objs with
  | some (x, objs) => match partsTy t vs objs with
   | some (xs, objs) => some (x :: xs, objs)
   | none => none
  | none => none
def inOrder : Nat → List (Nat × AV) → Bool
 | _, [] => true
 | n, (i, _) :: r => Nat.beq i n && inOrder (n + 1) r
def room (bytes n : Nat) : Bool := decide (n * bytes ≤ 140737488355328)
def elTy (T : Tab) (t : TypeId) : Option (Ty × Nat) :=
 match tdOf T t with
 | some (.sl e) => match tget e T with
  | some i => match i.ty with
   | some ty => bif ty.pure && Nat.blt 0 i.bytes then some (ty, i.bytes) else none
   | none => none
  | none => none
 | _ => none
def appendH (T : Tab) (S : St) (id : Nat) (t : TypeId) (s x : AV) : HR :=
 match elTy T t with
 | some (ty, bytes) => match elemsOf ty S.objs x with
  | some ys => match s with
   | .nilsl => .guard (room bytes ys.length) (.oref id none) (setO id (.arr ty ys) S.objs)
   | .oref j rg => match elemsOf ty S.objs (.oref j rg) with
    | some xs => .guard (room bytes (xs ++ ys).length) (.oref id none) (setO id (.arr ty (xs ++ ys)) (dropO j S.objs))
    | none => .no
   | _ => .no
  | none => .no
 | none => .no
def makeH (T : Tab) (S : St) (id : Nat) (t : TypeId) (l c : AV) : HR :=
 match elTy T t with
 | some (ty, bytes) => match l, c with
  | .int .i64 n, .int .i64 m => .guard (decide (0 ≤ n) && decide (n ≤ m) && room bytes m.toNat) (.oref id none) (setO id (.arr ty (List.replicate n.toNat (dflt ty))) S.objs)
  | _, _ => .no
 | none => .no
def opT (T : Tab) (t : TypeId) : Bool :=
 match tget t T with
 | some i => i.op
 | none => false
def openSH (S : St) (id : Nat) (ty : Ty) : List (Nat × AV) → HR
 | [(0, v)] => match cellsOf v with
  | some cs => bif Nat.beq (widthL cs) (width ty) && Nat.blt 0 (width ty) && Nat.ble (width ty) 16777216 then .done (.oref id none) (setO id (.hol ty [dflt ty] 0 cs false) S.objs) else .no
  | none => .no
 | _ => .no
def buildSH (T : Tab) (S : St) (id : Nat) (t : TypeId) (len : Nat) (ps : List (Nat × AV)) : HR :=
 match elTy T t with
 | some (ty, _) => bif opT T t && Nat.beq len 1 then openSH S id ty ps else bif inOrder 0 ps && Nat.beq (lenP ps) len && Nat.ble (len * width ty) 16777216 && Nat.blt 0 (width ty) then (match partsTy ty (mapA (·.2) ps) S.objs with
  | some (xs, objs) => .done (.oref id none) (setO id (.arr ty xs) objs)
  | none => .no) else .no
 | none => .no
def copyL {α : Type} (l : List α) (off : Nat) (zs : List α) : List α := l.take off ++ (zs ++ l.drop (off + zs.length))
def copyH (T : Tab) (S : St) (t : TypeId) (d x : AV) : HR :=
 match elTy T t with
 | some (ty, _) => match elemsOf ty S.objs x, d with
  | some ys, .oref j rg => match look j S.objs with
   | some (.arr t' l) => match castL t' ty l with
    | some l => .done (.int .i64 (((ys.take (rLen l.length rg)).length : Nat) : Int)) (setO j (.arr ty (copyL l (rOff rg) (ys.take (rLen l.length rg)))) S.objs)
    | none => .no
   | _ => .no
  | some ys, .bsl id off n t' lo len => bif Nat.beq (width t') (width ty) then (match look id S.objs with
   | some (.box cs) => match arrAt cs off n ty with
    | some l => match splice cs off [.arr n ty (copyL l lo (ys.take len))] with
     | some cs' => .done (.int .i64 (((ys.take len).length : Nat) : Int)) (setO id (.box cs') S.objs)
     | none => .no
    | none => .no
   | _ => .no) else .no
  | _, _ => .no
 | none => .no
def clearH (T : Tab) (S : St) (t : TypeId) (x : AV) : HR :=
 match elTy T t with
 | some (ty, _) => match x with
  | .nilsl => .done (.tup []) S.objs
  | .oref j rg => match look j S.objs with
   | some (.arr t' l) => match castL t' ty l with
    | some l => .done (.tup []) (setO j (.arr ty (copyL l (rOff rg) (List.replicate (rLen l.length rg) (dflt ty)))) S.objs)
    | none => .no
   | _ => .no
  | _ => .no
 | none => .no
def runeAt (s : ByteArray) (i : Nat) : Int := ((Utf8.decode s i).1 : Nat)
def runeLen (s : ByteArray) (i : Nat) : Nat := (Utf8.decode s i).2
def rangeH (T : Tab) (S : St) (id : Nat) (t : TypeId) (x : AV) : HR :=
 match tdOf T t, x with
 | some .str, .str s => .done (.ptr id 0) (setO id (.iter s 0) S.objs)
 | some (.map _ _), .mapr m => match look m S.objs with
  | some (.mp _ _ _ ck) => .done (.ptr id 0) (setO id (.mit m ck [] ck) S.objs)
  | _ => .no
 | _, _ => .no
def nextH (S : St) (it : AV) : HR :=
 match it with
 | .ptr id 0 => match look id S.objs with
  | some (.iter s pos) => .fork (decide (pos < s.size)) (.tup [.bool true, .int .i64 pos, .int .i32 (runeAt s pos)]) (setO id (.iter s (pos + runeLen s pos)) S.objs) (.tup [.bool false]) S.objs
  | _ => .no
 | _ => .no
def pickM (n : Int) (z : AV) : List (Int × AV) → AV
 | [] => z
 | p :: es => bif decide (n = p.1) then p.2 else pickM n z es
def forkM {R : Type} (n : Int) (z : AV) (K : AV → Option R) : List (Int × AV) → Option R
 | [] => K z
 | p :: es => bif decide (n = p.1) then K p.2 else forkM n z K es
theorem forkM_eq {R : Type} (n : Int) (z : AV) (K : AV → Option R) : ∀ es, forkM n z K es = K (pickM n z es)
 | [] => rfl
 | p :: es => by
  unfold forkM pickM
  cases decide (n = p.1)
  ·exact forkM_eq n z K es
  ·rfl
def hasM (n : Int) : List (Int × AV) → Bool
 | [] => false
 | p :: es => decide (n = p.1) || hasM n es
def endM (n : Int) (v : AV) : List (Int × AV) → List (Int × AV)
 | [] => [(n, v)]
 | p :: es => p :: endM n v es
def putM (T : Tab) (S : St) (t : TypeId) (m k v : AV) : HR :=
 match tdOf T t, m, k with
 | some (.map kt _), .mapr id, .int .i64 n => match tdOf T kt, look id S.objs with
  | some (.int .i64), some (.map es) => bif !hasM n es && isCell v then .done (.tup []) (setO id (.map (endM n v es)) S.objs) else .no
  | _, _ => .no
 | _, _, _ => .no
def atM (T : Tab) (S : St) (t : TypeId) (m k : AV) : HR :=
 match tdOf T t, m, k with
 | some (.map kt et), .mapr id, .int .i64 n => match tdOf T kt, look id S.objs, tget et T with
  | some (.int .i64), some (.map es), some i => match i.zc with
   | [z] => bif isCell z && !i.td.isAgg then .pick n es z S.objs else .no
   | _ => .no
  | _, _, _ => .no
 | _, _, _ => .no
def updH (T : Tab) (S : St) (t : TypeId) (m k x : AV) : HR :=
 match m with
 | .mapr id => match look id S.objs with
  | some (.mp kt vt es ck) => bif mpIs T t kt vt then (match keyIn kt k with
   | some key => match valIn vt x S.objs with
    | some (y, objs) => match look id objs with
     | some _ => .done (.tup []) (setO id (.mp kt vt (insE (keyEq kt.2 key) key y ck es) (ckE (keyEq kt.2 key) ck es)) objs)
     | none => .no
    | none => .no
   | none => .no) else .no
  | _ => putM T S t m k x
 | _ => .no
def entH (T : Tab) (S : St) (t : TypeId) (m k : AV) : HR :=
 match m with
 | .mapr id => match look id S.objs with
  | some (.mp kt vt es ck) => bif mpIs T t kt vt then (match keyIn kt k with
   | some key => .done (.tup [outV vt ((findE (keyEq kt.2 key) es).getD (dflt vt.2)), .int .i64 ((bornE (keyEq kt.2 key) ck es : Nat) : Int)])
     (setO id (.mp kt vt (entE (keyEq kt.2 key) key (dflt vt.2) ck es) (ckE (keyEq kt.2 key) ck es)) S.objs)
   | none => .no) else .no
  | _ => .no
 | _ => .no
def setH (T : Tab) (S : St) (t : TypeId) (m s x : AV) : HR :=
 match m, s with
 | .mapr id, .int .i64 n => match look id S.objs with
  | some (.mp kt vt es ck) => bif mpIs T t kt vt then (match valIn vt x S.objs with
    | some (y, objs) => match look id objs with
     | some _ => .guard (hasB n es) (.tup []) (setO id (.mp kt vt (setE n y es) ck) objs)
     | none => .no
    | none => .no) else .no
  | _ => .no
 | _, _ => .no
def delH (T : Tab) (S : St) (t : TypeId) (m k : AV) : HR :=
 match m with
 | .mapr id => match look id S.objs with
  | some (.mp kt vt es ck) => bif mpIs T t kt vt then (match keyIn kt k with
   | some key => .done (.tup []) (setO id (.mp kt vt (delE (keyEq kt.2 key) es) ck) S.objs)
   | none => .no) else .no
  | _ => .no
 | _ => .no
def heapOp (T : Tab) (S : St) (id : Nat) (op : Op) : HR :=
 match op with
 | .alloc t => match tget t T with
  | some i => .done (.ptr id 0) (setO id (.box i.zc) S.objs)
  | none => .no
 | .box _ x => match ev S x with
  | .ptr i o => .done (.cbox (.ptr i o)) S.objs
  | v => match cellsOf v with
   | some cs => .done (.ptr id 0) (setO id (.box cs) S.objs)
   | none => .no
 | .store t a x => storeH T S t (ev S a) (ev S x)
 | .buildSlice t len parts => buildSH T S id t len (mapP S parts.toList)
 | .makeSlice t l c => makeH T S id t (ev S l) (ev S c)
 | .call { callee := .builtin .append, args, argTypes } => match args.toList, argTypes.toList with
  | [s, x], [t, u] => bif Nat.beq t u then appendH T S id t (ev S s) (ev S x) else .no
  | _, _ => .no
 | .call { callee := .builtin .copy, args, argTypes } => match args.toList, argTypes.toList with
  | [d, x], [t, _] => copyH T S t (ev S d) (ev S x)
  | _, _ => .no
 | .call { callee := .builtin .clear, args, argTypes } => match args.toList, argTypes.toList with
  | [x], [t] => clearH T S t (ev S x)
  | _, _ => .no
 | .range t x => rangeH T S id t (ev S x)
 | .next x true => nextH S (ev S x)
 | .makeMap t none => match tdOf T t with
  | some (.map _ _) => match mpTy T t with
   | some p => .done (.mapr id) (setO id (.mp p.1 p.2 [] 0) S.objs)
   | none => .done (.mapr id) (setO id (.map []) S.objs)
  | _ => .no
 | .insert t m k v => updH T S t (ev S m) (ev S k) (ev S v)
 | .mapUpdate t m k v => updH T S t (ev S m) (ev S k) (ev S v)
 | .mapEntry t m k => entH T S t (ev S m) (ev S k)
 | .entryStore t m s v => setH T S t (ev S m) (ev S s) (ev S v)
 | .call { callee := .builtin .delete, args, argTypes } => match args.toList, argTypes.toList with
  | [m, k], t :: _ => delH T S t (ev S m) (ev S k)
  | _, _ => .no
 | .lookup t m k false => atM T S t (ev S m) (ev S k)
 | _ => .no
end Go.Rx
namespace Go.Rx
variable [Inhabited GW]
inductive Item where
 | slot (s : Nat) (agg : Bool) (t : Ty)     -- a slot's value, by its type
 | keep (s s0 : Nat)               -- a slot's value: what was in a slot at first
 | obj (s : Nat) (t : Ty)          -- the cells of the box that a slot leads to
 | nbox (s : Nat) (t : Ty)         -- a slot that leads to a box, and the box's cells: behind the join it is a new one
 | iter (s : Nat)                  -- the iterator over a text that a slot leads to
 | aob (s : Nat) (t : Ty)          -- the elements of the object that a slot's slice lies in
 | hbox (s n : Nat)                -- a box's numbers, n of them; what else it holds is as it was
 | mp (s : Nat) (k v : Bool × Ty)  -- the entries of the map that a slot leads to
 | hob (s : Nat) (t u : Ty) (n : Nat)   -- an array with an open element: its elements, the open one's place and numbers, and what its slice has
 | pto (s : Nat)                   -- a slot that leads to an element: its place
 | mit (s : Nat)                   -- how far the iterator over a map is that a slot leads to
@[reducible] def IntT : Nat → Type
 | 0 => Unit
 | n + 1 => Int × IntT n
abbrev Spec := List Item
@[reducible] def PT : Spec → Type
 | [] => Unit
 | .slot _ _ t :: r => den t × PT r
 | .keep _ _ :: r => PT r
 | .obj _ t :: r => den t × PT r
 | .nbox _ t :: r => den t × PT r
 | .iter _ :: r => (ByteArray × Int) × PT r
 | .aob _ t :: r => List (den t) × PT r
 | .hbox _ n :: r => IntT n × PT r
 | .mp _ k v :: r => (List (Nat × (den k.2 × den v.2)) × Nat) × PT r
 | .mit _ :: r => (Nat × (List Nat × Nat)) × PT r
 | .hob _ t u n :: r => (List (den t) × (Nat × (IntT n × List (den u)))) × PT r
 | .pto _ :: r => Nat × PT r
mutual
/-- the same place, the same function: one that was there below n -/
def sameS (n : Nat) : AV → AV → Bool
  | .ptr a b, .ptr a' b' => Nat.beq a a' && Nat.beq b b' && Nat.blt a n
  | .func f a b, .func f' a' b' => Nat.beq f f' && sameL n a a' && sameL n b b'
  | .oref a r, .oref b r' => r.isNone && r'.isNone && Nat.beq a b && Nat.blt a n
  | .mapr a, .mapr b => Nat.beq a b && Nat.blt a n
  | .agg a, .agg b => sameL n a b
  | .cbox c, .cbox c' => sameS n c c'
  | .int k a, .int k' b => decide (k = k') && a == b
  | .nilp, .nilp => true
  | .nilf, .nilf => true
  | .nilsl, .nilsl => true
  | .nilm, .nilm => true
  | .nili, .nili => true
  | _, _ => false
def sameL (n : Nat) : List AV → List AV → Bool
  | [], [] => true
  | a :: r, b :: s => sameS n a b && sameL n r s
  | _, _ => false
end
def takeV (t : Bool × Ty) (v : AV) (objs : Objs) : Option (den t.2 × Objs) := bif t.2.okp && fitsA t.1 v && (t.1 || t.2.scalar) then asTy t.2 v objs else none
def ptrId : AV → Option Nat
 | .ptr id _ => some id
 | .cbox c => match c with
  | .ptr id _ => some id
  | _ => none
 | _ => none
def boxId1 (base : St) (s : Nat) : Option Nat :=
 bif Nat.blt s 1000 then ptrId (getA base.tmps s) else
 match getA base.tmps (s % 1000) with
 | .func _ first caps => ptrId (getA (appA first caps) (s / 1000 - 1))
 | _ => none
def boxId (base : St) (s : Nat) : Option Nat :=
 bif Nat.blt s 1000000 then boxId1 base s else
 match boxId1 base (s % 1000000) with
 | none => none
 | some id => match look id base.objs with
  | some (.box cs) => ptrId (getA cs (s / 1000000 - 1))
  | _ => none
def orefId : AV → Option Nat
 | .oref id _ => some id
 | .ptrO id _ _ => some id
 | _ => none
def arrId (base : St) (s : Nat) : Option Nat :=
 bif Nat.blt s 1000000 then orefId (getA base.tmps s) else
 match boxId base (s % 1000000000) with
 | none => none
 | some id => match look id base.objs with
  | some (.box cs) => orefId (getA cs (s / 1000000000 - 1))
  | _ => none
def mapId (base : St) (s : Nat) : Option Nat :=
 match getA base.tmps s with
 | .mapr id => some id
 | _ => none
def mitOf (base : St) (s : Nat) : Option (Nat × Nat) :=
 match boxId base s with
 | none => none
 | some id => match look id base.objs with
  | some (.mit m _ _ _) => some (id, m)
  | _ => none
def keptC : AV → Bool
 | .oref .. | .ptr .. | .func .. => true
 | _ => false
def hp (nx : Nat) : List AV → List AV → (n : Nat) → Option (IntT n)
 | [], [], 0 => some ()
 | b :: bs, c :: cs, n => match keptC b with
  | true => bif sameS nx b c then hp nx bs cs n else none
  | false => match c, n with
   | .int .i64 x, n + 1 => oM (hp nx bs cs n) fun y => (x, y)
   | _, _ => none
 | _, _, _ => none
def hu : List AV → (n : Nat) → IntT n → List AV
 | [], _, _ => []
 | b :: bs, n, x => match keptC b with
  | true => b :: hu bs n x
  | false => match n, x with
   | n + 1, x => .int .i64 x.1 :: hu bs n x.2
   | 0, _ => []
def mpC (k' v' k v : Bool × Ty) (es : List (Nat × (den k'.2 × den v'.2))) : Option (List (Nat × (den k.2 × den v.2))) :=
 if h : k' = k ∧ v' = v then some (h.1 ▸ h.2 ▸ es) else none
def holeId : List AV → Option Nat
 | [] => none
 | c :: cs => match c with
  | .oref id none => some id
  | _ => holeId cs
def pack (base : St) (tmps : List AV) : (sp : Spec) → Objs → Option (PT sp)
 | [], _ => some ()
 | .slot s agg t :: r, objs => match takeV (agg, t) (getA tmps s) objs with
  | some (x, objs) => match pack base tmps r objs with
   | some y => some (x, y)
   | none => none
  | none => none
 | .keep s s0 :: r, objs => bif sameS base.next (getA base.tmps s0) (getA tmps s) then pack base tmps r objs else none
 | .nbox s t :: r, objs => match getA tmps s with
  | .ptr id 0 => match look id objs with
   | some (.box cs) => match (bif t.okp then toTy t cs (dropO id objs) else none) with
    | some (x, [], objs) => match pack base tmps r objs with
     | some y => some (x, y)
     | none => none
    | _ => none
   | _ => none
  | _ => none
 | .iter s :: r, objs => match boxId base s with
  | none => none
  | some id => match look id objs with
   | some (.iter str p) => bif Nat.blt id base.next then oM (pack base tmps r (dropO id objs)) (fun y => ((str, (p : Int)), y)) else none
   | _ => none
 | .hbox s n :: r, objs => match boxId base s with
  | none => none
  | some id => match look id base.objs with
   | some (.box bs) => match look id objs with
    | some (.box cs) => match hp base.next bs cs n with
     | some x => bif Nat.blt id base.next then oM (pack base tmps r (dropO id objs)) (fun y => (x, y)) else none
     | none => none
    | _ => none
   | _ => none
 | .mp s k v :: r, objs => match mapId base s with
  | none => none
  | some id => match look id objs with
   | some (.mp k' v' es ck) => match mpC k' v' k v es with
    | some es => bif Nat.blt id base.next && (k.2.pure && v.2.pure) then oM (pack base tmps r (dropO id objs)) (fun y => ((es, ck), y)) else none
    | none => none
   | _ => none
 | .hob s t u n :: r, objs => match arrId base s with
  | none => none
  | some id => match look id base.objs, look id objs with
   | some (.hol _ _ _ bs _), some (.hol t' l g cs _) => match holeId bs with
    | none => none
    | some j => match look j objs with
     | some (.arr u' m) => match castL t' t l, castL u' u m, hp base.next bs cs n with
      | some l, some m, some x => bif (Nat.blt id base.next && Nat.blt j base.next) && (t.pure && u.pure) && !Nat.beq id j then oM (pack base tmps r (dropO j (dropO id objs))) (fun y => ((l, (g, (x, m))), y)) else none
      | _, _, _ => none
     | _ => none
   | _, _ => none
 | .pto s :: r, objs => match getA base.tmps s, getA tmps s with
  | .ptrO id _ sub, .ptrO id' k sub' => bif Nat.beq id id' && (Nat.beq sub sub' && Nat.blt id base.next) then oM (pack base tmps r objs) (fun y => (k, y)) else none
  | _, _ => none
 | .mit s :: r, objs => match mitOf base s with
  | none => none
  | some q => match look q.1 objs with
   | some (.mit m since seen last) => bif Nat.beq m q.2 && (Nat.blt q.1 base.next && Nat.blt q.2 base.next) then oM (pack base tmps r (dropO q.1 objs)) (fun y => ((since, (seen, last)), y)) else none
   | _ => none
 | .aob s t :: r, objs => match arrId base s with
  | none => none
  | some id => match look id objs with
   | some (.arr t' l) => match castL t' t l with
    | some l => bif Nat.blt id base.next && t.pure then oM (pack base tmps r (dropO id objs)) (fun y => (l, y)) else none
    | none => none
   | _ => none
 | .obj s t :: r, objs => match boxId base s with
  | none => none
  | some id => match look id objs with
   | some (.box cs) => match (bif Nat.blt id base.next && t.okp then toTy t cs (dropO id objs) else none) with
    | some (x, [], objs) => match pack base tmps r objs with
     | some y => some (x, y)
     | none => none
    | _ => none
   | _ => none
def unpack (base : St) : (sp : Spec) → PT sp → St → St
 | [], _, S => S
 | .slot s agg t :: r, p, S =>
  let (cs, m) := laid t p.1 ⟨S.objs, S.next⟩
  unpack base r p.2 { tmps := setA S.tmps s (if agg then .agg cs else headA cs), objs := m.objs, next := m.next }
 | .keep s s0 :: r, p, S => unpack base r p { S with tmps := setA S.tmps s (getA base.tmps s0) }
 | .nbox s t :: r, p, S =>
  let (cs, m) := laid t p.1 ⟨S.objs, S.next⟩
  unpack base r p.2 { tmps := setA S.tmps s (.ptr m.next 0), objs := setO m.next (.box cs) m.objs, next := m.next + 1 }
 | .iter s :: r, p, S => match boxId base s with
  | none => S
  | some id => unpack base r p.2 { S with objs := setO id (.iter p.1.1 p.1.2.toNat) S.objs }
 | .hbox s n :: r, p, S => match boxId base s with
  | none => S
  | some id => match look id base.objs with
   | some (.box bs) => unpack base r p.2 { S with objs := setO id (.box (hu bs n p.1)) S.objs }
   | _ => S
 | .mp s k v :: r, p, S => match mapId base s with
  | none => S
  | some id => unpack base r p.2 { S with objs := setO id (.mp k v p.1.1 p.1.2) S.objs }
 | .hob s t u n :: r, p, S => match arrId base s with
  | none => S
  | some id => match look id base.objs with
   | some (.hol _ _ _ bs far) => match holeId bs with
    | none => S
    | some j => unpack base r p.2 { S with objs := setO j (.arr u p.1.2.2.2) (setO id (.hol t p.1.1 p.1.2.1 (hu bs n p.1.2.2.1) far) S.objs) }
   | _ => S
 | .pto s :: r, p, S => match getA base.tmps s with
  | .ptrO id _ sub => unpack base r p.2 { S with tmps := setA S.tmps s (.ptrO id p.1 sub) }
  | _ => S
 | .mit s :: r, p, S => match mitOf base s with
  | none => S
  | some q => unpack base r p.2 { S with objs := setO q.1 (.mit q.2 p.1.1 p.1.2.1 p.1.2.2) S.objs }
 | .aob s t :: r, p, S => match arrId base s with
  | none => S
  | some id => unpack base r p.2 { S with objs := setO id (.arr t p.1) S.objs }
 | .obj s t :: r, p, S => match boxId base s with
  | none => S
  | some id =>
   let (cs, m) := laid t p.1 ⟨S.objs, S.next⟩
   unpack base r p.2 { S with objs := setO id (.box cs) m.objs, next := m.next }
def fresh (base : St) : St := { tmps := mapA (fun _ => .top) base.tmps, objs := [], next := base.next }
inductive Ex where
 | normal | exit (id : Nat) | ret
 deriving DecidableEq
abbrev Exits := List (Ex × Spec)
@[reducible] def JT : Exits → Type
 | [] => Empty
 | [e] => PT e.2
 | e :: e' :: r => PT e.2 ⊕ JT (e' :: r)
def packE (base : St) : (ex : Exits) → Ex → St → Option (JT ex)
 | [], _, _ => none
 | [e], x, S => if e.1 = x then pack base S.tmps e.2 S.objs else none
 | e :: e' :: r, x, S => if e.1 = x then oM (pack base S.tmps e.2 S.objs) Sum.inl else oM (packE base (e' :: r) x S) Sum.inr
def unpackE {R : Type} (base : St) : (ex : Exits) → JT ex → (Ex → St → Option R) → Option R
 | [], j, _ => nomatch j
 | [e], j, K => K e.1 (unpack base e.2 j (fresh base))
 | e :: e' :: r, j, K => match j with
  | .inl p => K e.1 (unpack base e.2 p (fresh base))
  | .inr j => unpackE base (e' :: r) j K
inductive Ann where
 | no
 | seq (a b : Ann)
 | cond (a b : Ann)
 | blk (a : Ann)
 | loop (sp : Spec) (ex : Exits) (a : Ann)
 | roll (n : Nat) (a : Ann)
 | each (sp : Spec) (ex : Exits) (k v : Bool × Ty) (a : Ann)   -- a loop over a map: whatever entry comes next
 | join (ex : Exits) (a : Ann)
 | draw (pi : List Nat)
 | frz (s : Nat) (a : Ann)     -- of a region: the array at a path is given away ahead of it
 | opn (s q : Nat) (a : Ann)   -- of a region: of the array at a path the element is opened that a slot counts
 | far (s : Nat) (b : Bool) (a : Ann)   -- of a region: of the array at a path the open element is reached, or the others are
 | cls (s : Nat) (a : Ann)     -- of a region, or a return: the open element of the array at a path is closed
 | peel (sp : Spec) (ex : Exits) (a : Ann) (s g : Nat) (b c : Ann)   -- a loop in two parts: rounds, until a slot counts g; that round; the others
 | alt (g : Nat) (a b : Ann)   -- of a callee: where one of its arguments is this function; else
def Ann.ex : Ann → Option Exits
 | .join ex _ => some ex
 | _ => none
def Ann.inner : Ann → Ann
 | .join _ a => a
 | a => a
def Ann.left : Ann → Ann
 | .seq a _ => a
 | .cond a _ => a
 | .blk a => a
 | _ => .no
def Ann.right : Ann → Ann
 | .seq _ b => b
 | .cond _ b => b
 | _ => .no
mutual
def frzV (id : Nat) (t : Ty) (l : List (den t)) : AV → AV
 | .oref j r => bif Nat.beq j id then .sl t (rTake l r) else .oref j r
 | .func f a b => .func f (frzVs id t l a) (frzVs id t l b)
 | .iface u ag cs => .iface u ag (frzVs id t l cs)
 | .agg cs => .agg (frzVs id t l cs)
 | .tup vs => .tup (frzVs id t l vs)
 | .cbox c => .cbox (frzV id t l c)
 | v => v
def frzVs (id : Nat) (t : Ty) (l : List (den t)) : List AV → List AV
 | [] => []
 | v :: vs => frzV id t l v :: frzVs id t l vs
end
def frzO (id : Nat) (t : Ty) (l : List (den t)) : Objs → Objs
 | [] => []
 | p :: r => match p.2 with
  | .box cs => (p.1, .box (frzVs id t l cs)) :: frzO id t l r
  | _ => p :: frzO id t l r
def freeze (S : St) (s : Nat) : Option St :=
 match arrId S s with
 | none => none
 | some id => match look id S.objs with
  | some (.arr t l) => bif t.pure then some ⟨frzVs id t l S.tmps, frzO id t l (dropO id S.objs), S.next⟩ else none
  | _ => none
def natA : AV → Nat
 | .int _ n => n.toNat
 | _ => 0
def openO (S : St) (s q : Nat) : Option (Bool × St) :=
 match arrId S s with
 | none => none
 | some id => match look id S.objs with
  | some (.arr t l) => bif t.pure then some (Nat.blt (natA (getA S.tmps q)) l.length, { S with objs := setO id (.hol t l (natA (getA S.tmps q)) (enc t (l.getD (natA (getA S.tmps q)) (dflt t))) false) S.objs }) else none
  | _ => none
def farO (S : St) (s : Nat) (b : Bool) : Option St :=
 match arrId S s with
 | none => none
 | some id => match look id S.objs with
  | some (.hol t l g cs _) => some { S with objs := setO id (.hol t l g cs b) S.objs }
  | _ => none
def closeO (S : St) (s : Nat) : Option St :=
 match arrId S s with
 | none => none
 | some id => match look id S.objs with
  | some (.hol t l g cs _) => match toTy t cs S.objs with
   | some (x, [], objs) => match look id objs with
    | some _ => bif t.pure then some { S with objs := setO id (.arr t (l.set g x)) objs } else none
    | none => none
   | _ => none
  | _ => none
def frzA : St → Ann → Option (Bool × (St × Ann))
 | S, .frz s a => match freeze S s with
  | some S => frzA S a
  | none => none
 | S, .opn s q a => match openO S s q with
  | some (b, S) => oM (frzA S a) fun r => (b && r.1, r.2)
  | none => none
 | S, .far s b a => match farO S s b with
  | some S => frzA S a
  | none => none
 | S, .cls s a => match closeO S s with
  | some S => frzA S a
  | none => none
 | S, a => some (true, (S, a))
def iterN {X R : Type} (f : X → Option (X ⊕ R)) : Nat → X → Option R
 | 0, _ => none
 | n + 1, x => match f x with
  | some (.inl y) => iterN f n y
  | some (.inr r) => some r
  | none => none
open Classical in
noncomputable def iter {X R : Type} (f : X → Option (X ⊕ R)) (x : X) : Option R :=
 if h : ∃ n r, iterN f n x = some r then some (Classical.choose (Classical.choose_spec h)) else none
def runC {X R C : Type} (cs : X → List C) (f : C → X → Option (X ⊕ R)) (r : R) : Nat → X → Prop
 | 0, _ => False
 | n + 1, x => cs x ≠ [] ∧ ∀ c ∈ cs x, match f c x with
  | some (.inl y) => runC cs f r n y
  | some (.inr s) => s = r
  | none => False
open Classical in
noncomputable def iterC {X R C : Type} (cs : X → List C) (f : C → X → Option (X ⊕ R)) (x : X) : Option R :=
 if h : ∃ r n, runC cs f r n x then some (Classical.choose h) else none
def candsM {A V : Type} (es : List (Nat × (A × V))) (since : Nat) (seen : List Nat) (last : Nat) : List (Option (Nat × (A × V))) :=
 bif !seen.isEmpty && (!es.isEmpty && es.all fun e => decide (last ≤ e.1)) then [] else
  (bif ((es.filter fun e => !seen.contains e.1).filter fun e => decide (e.1 < since)).isEmpty then [none] else []) ++
   (((es.filter fun e => !seen.contains e.1).filter fun e => decide (e.1 < since)) ++ ((es.filter fun e => !seen.contains e.1).filter fun e => decide (since ≤ e.1))).map some
structure MitV (k v : Bool × Ty) where
 id : Nat
 m : Nat
 since : Nat
 seen : List Nat
 last : Nat
 es : List (Nat × (den k.2 × den v.2))
 ck : Nat
def okKV (t : Bool × Ty) : Bool := t.2.pure && (t.1 || t.2.scalar)
def mitAt (S : St) (x : AV) (k v : Bool × Ty) : Option (MitV k v) :=
 match x with
 | .ptr id off => match look id S.objs with
  | some (.mit m since seen last) => match look m S.objs with
   | some (.mp k' v' es ck) => bif Nat.beq off 0 && (okKV k && okKV v) then oM (mpC k' v' k v es) fun es => ⟨id, m, since, seen, last, es, ck⟩ else none
   | _ => none
  | _ => none
 | _ => none
def firstM : Code → Option (Oper × Nat)
 | .seq x _ => firstM x
 | .region _ ops false => match ops.toList with
  | o :: _ => match o.op, o.guard with
   | .next (.tmp t) false, none => some (o, t)
   | _, _ => none
  | [] => none
 | _ => none
structure Gv where
 v : AV
 id : Nat
 oc : OC
def gvN {k v : Bool × Ty} (q : MitV k v) : Gv := ⟨.tup [.bool false], q.id, .mit q.m q.since q.seen q.last⟩
def gvS {k v : Bool × Ty} (q : MitV k v) (e : Nat × (den k.2 × den v.2)) : Gv := ⟨.tup [.bool true, outV k e.2.1, outV v e.2.2], q.id, .mit q.m q.since (q.seen ++ [e.1]) q.ck⟩
@[reducible] def denL : List (Bool × Ty) → Type
 | [] => Unit
 | [t] => den t.2
 | t :: t' :: r => den t.2 × denL (t' :: r)
inductive Callee where
  | sem (ins outs : List (Bool × Ty)) (fn : denL ins → Option (denL outs)) (g : Option FuncId)
  /-- slices.Insert of one element that stays open -/
  | insH (t : Ty) (bytes : Nat)
  | inl (fn : Func) (body : Code) (ann : Ann)
  | back (n : Nat)
  /-- a function that the model has an entry for: what comes back at once -/
  | ext (fn : List AV → Option AV)

def Ty.flat : Ty → Bool
 | .int _ | .bool | .str | .unit => true
 | .sl _ | .own _ => false
 | .pair a b => a.flat && b.flat
 | .arr _ t => t.flat
def packArgs : (l : List (Bool × Ty)) → List AV → Objs → Option (denL l × Objs)
 | [], vs, objs => match vs with
  | [] => some ((), objs)
  | _ :: _ => none
 | [t], vs, objs => match vs with
  | [v] => takeV t v objs
  | _ => none
 | t :: t' :: r, vs, objs => match vs with
  | v :: vs => match takeV t v objs with
   | some (x, objs1) => match packArgs (t' :: r) vs objs1 with
    | some (y, objs) => some ((x, y), objs)
    | none => none
   | none => none
  | [] => none
def lendV (t : Bool × Ty) (v : AV) (objs : Objs) : Option (den t.2) :=
 match t, v with
 | (false, .sl ty), .bsl id off n ty' lo len => bif Nat.beq (width ty') (width ty) then (match look id objs with
  | some (.box cs) => match arrAt cs off n ty with
   | some l => some ((l.drop lo).take len)
   | none => none
  | _ => none) else none
 | (false, .sl ty), .oref id none => match look id objs with
  | some (.hol ty' l g cs _) => match castL ty' ty l, toTy ty cs objs with
   | some l, some (x, [], _) => bif ty.pure then some (l.set g x) else none
   | _, _ => none
  | _ => match takeV (false, .sl ty) (.oref id none) objs with
   | some (x, _) => some x
   | none => none
 | t, v => match takeV t v objs with
  | some (x, _) => some x
  | none => none
def packLend (objs : Objs) : (l : List (Bool × Ty)) → List AV → Option (denL l)
 | [], vs => match vs with
  | [] => some ()
  | _ :: _ => none
 | [t], vs => match vs with
  | [v] => lendV t v objs
  | _ => none
 | t :: t' :: r, vs => match vs with
  | v :: vs => match lendV t v objs with
   | some x => match packLend objs (t' :: r) vs with
    | some y => some (x, y)
    | none => none
   | none => none
  | [] => none
def allFlat : List (Bool × Ty) → Bool
 | [] => true
 | t :: l => t.2.flat && allFlat l
def allPure : List (Bool × Ty) → Bool
 | [] => true
 | t :: l => t.2.pure && allPure l
def layOne (t : Bool × Ty) (x : den t.2) (m : Mem) : AV × Mem :=
 (if t.1 then .agg (laid t.2 x m).1 else headA (laid t.2 x m).1, (laid t.2 x m).2)
def layAll : (l : List (Bool × Ty)) → denL l → Mem → List AV × Mem
 | [], _, m => ([], m)
 | [t], x, m => ([(layOne t x m).1], (layOne t x m).2)
 | t :: t' :: r, x, m => ((layOne t x.1 m).1 :: (layAll (t' :: r) x.2 (layOne t x.1 m).2).1, (layAll (t' :: r) x.2 (layOne t x.1 m).2).2)
def oneOf : List AV → AV
 | [v] => v
 | vs => .tup vs
def layOut (l : List (Bool × Ty)) (x : denL l) (m : Mem) : AV × Mem := (oneOf (layAll l x m).1, (layAll l x m).2)
def resultsOf (S : St) : List ResultVar → Tab → Option (List AV)
 | [], _ => some []
 | .tmp t :: r, T => match getA S.tmps t with
  | .tup _ => none
  | v => oM (resultsOf S r T) (v :: ·)
 | .cell a t :: r, T => match loadV T S t (getA S.tmps a) with
  | .val v => oM (resultsOf S r T) (v :: ·)
  | _ => none
structure Handler where
 run : ∀ {R : Type}, FuncId → List AV → St → (AV → St → Option R) → Option R
 lends : FuncId → Bool
 calm : FuncId → Objs → List Nat → Option (List Nat)
 back : FuncId → Option Nat
 ext : FuncId → Bool
section
variable (T : Tab) (H : Handler)
def dstOf : List Oper → Nat → Option Nat
 | [], _ => none
 | o :: l, i => match i with
  | 0 => o.dst
  | i + 1 => dstOf l i
inductive Gd where
 | run
 | skip
 | test (d : Nat) (b want : Bool)
 | no
def guardOf (ops : Array Oper) (S : St) (o : Oper) : Gd :=
 match o.guard with
 | none => .run
 | some (j, want) => match dstOf ops.toList j with
  | none => .no
  | some d => match getA S.tmps d with
   | .bool b => .test d b want
   | .tup _ => .skip
   | _ => .no
def callOf (S : St) : Op → Option (FuncId × List AV)
 | .call { callee := .value f, args, .. } => match ev S f with
  | .func f first caps => some (f, appA first (appA (mapA (ev S) args.toList) caps))
  | _ => none
 | _ => none
def opV {R : Type} (op : Op) (S : St) (K : AV → Objs → Nat → Option R) : Option R :=
 match callOf S op with
 | some (f, args) => H.run f args ⟨[], S.objs, S.next⟩ fun v S' => K v S'.objs S'.next
 | none => match pureOp T S op with
  | .val v => K v S.objs S.next
  | .gval b v => bif b then K v S.objs S.next else none
  | .no => match heapOp T S S.next op with
   | .done v objs => K v objs (S.next + 1)
   | .guard b v objs => bif b then K v objs (S.next + 1) else none
   | .fork b v objs v' objs' => bif b then K v objs (S.next + 1) else K v' objs' (S.next + 1)
   | .pick n es z objs => forkM n z (fun v => K v objs (S.next + 1)) es
   | .no => none
def St.step (S : St) (d : Option Nat) (v : AV) (objs : Objs) (next : Nat) : St := ({ tmps := S.tmps, objs := objs, next := next } : St).put d v
def opK {R : Type} (o : Oper) (S : St) (K : St → Option R) : Option R :=
 opV T H o.op S fun v objs next => K (S.step o.dst v objs next)
def opsK {R : Type} (ops : Array Oper) : List Oper → St → (St → Option R) → Option R
 | [], S, K => K S
 | o :: rest, S, K => match guardOf ops S o with
  | .no => none
  | .run => opK T H o S fun S => opsK ops rest S K
  | .skip => opsK ops rest (S.put o.dst (.tup [])) K
  | .test d b want => match want with
   | true => bif b then opK T H o (S.put (some d) (.bool true)) (fun S => opsK ops rest S K)
     else opsK ops rest ((S.put (some d) (.bool false)).put o.dst (.tup [])) K
   | false => bif b then opsK ops rest ((S.put (some d) (.bool true)).put o.dst (.tup [])) K
     else opK T H o (S.put (some d) (.bool false)) (fun S => opsK ops rest S K)
def tmO : Operand → List Nat
 | .tmp t => [t]
 | _ => []
def tmL : List Operand → List Nat
 | [] => []
 | x :: l => match x with
  | .tmp t => t :: tmL l
  | _ => tmL l
def tmP : List (Nat × Operand) → List Nat
 | [] => []
 | x :: l => match x.2 with
  | .tmp t => t :: tmP l
  | _ => tmP l
def opTmps : Op → List Nat
 | .move x | .assign x | .box _ x | .load _ x | .nilCheck x | .unOp _ _ x | .convert _ _ x | .fieldAddr _ x _ | .field _ x _ | .extract x _
 | .sliceToArrayPointer _ x | .makeInterface _ x | .range _ x | .next x _ | .entry x | .typeAssert x _ _ _ => tmO x
 | .pick c a b => tmL [c, a, b]
 | .build _ ps | .buildSlice _ _ ps => tmP ps.toList
 | .store _ a v | .binOp _ _ a v _ | .makeSlice _ a v | .indexAddr _ a v | .index _ a v | .lookup _ a v _ | .mapEntry _ a v => tmL [a, v]
 | .mapUpdate _ m k v | .entryStore _ m k v | .insert _ m k v => tmL [m, k, v]
 | .makeMap _ (some x) => tmO x
 | .makeFunc _ a b => tmL (a.toList ++ b.toList)
 | .slice _ x l h m => tmL (x :: (l.toList ++ h.toList ++ m.toList))
 | .call { callee := .value f, args, .. } => tmL (f :: args.toList)
 | .call { args, .. } => tmL args.toList
 | _ => []
def memN (i : Nat) : List Nat → Bool
 | [] => false
 | j :: l => Nat.beq j i || memN i l
def maskA (ts : List Nat) : Nat → List AV → List AV
 | _, [] => []
 | i, a :: l => (bif memN i ts then a else .top) :: maskA ts (i + 1) l
def fzT (T : Tab) (t : TypeId) : Bool :=
 match tget t T with
 | some i => i.fz
 | none => false
def chainy (T : Tab) : Op → Bool
 | .buildSlice t _ _ => !fzT T t
 | .alloc _ | .box .. | .store .. | .makeSlice .. | .mapUpdate .. | .makeMap .. | .entryStore .. | .insert .. | .next .. => true
 | .call { callee := .builtin .len, .. } | .call { callee := .builtin .min, .. } | .call { callee := .builtin .max, .. } => false
 | .call _ => true
 | _ => false
def isAllocOp : Op → Bool
 | .alloc _ => true
 | .buildSlice .. => true
 | _ => false
def newOf (T : Tab) (S : St) (op : Op) : Option (Bool × OC) :=
 match op with
 | .alloc t => oM (tget t T) fun i => (true, .box i.zc)
 | .buildSlice t len ps => match buildSH T ⟨S.tmps, [], 0⟩ 0 t len (mapP S ps.toList) with
  | .done _ objs => match look 0 objs with
   | some (.arr t (x :: l)) => some (false, .arr t (x :: l))
   | _ => none
  | _ => none
 | _ => none
def growV (T : Tab) (S : St) (op : Op) : Option AV :=
 match op with
 | .buildSlice t _ _ => match fzT T t with
  | true => match newOf T S op with
   | some (false, .arr t l) => match t.pure with
    | true => some (.sl t l)
    | false => none
   | _ => none
  | false => none
 | _ => none
def isAlloc (T : Tab) (S : St) (o : Oper) : Bool := (isAllocOp o.op && chainy T o.op) && o.guard.isNone && o.dst.isSome && (newOf T S o.op).isSome
def looks : Op → Bool
 | .move _ | .assign _ | .pick .. | .build .. | .nilCheck _ | .binOp .. | .unOp .. | .makeFunc .. | .fieldAddr .. | .field .. | .extract .. => false
 | _ => true
def idsOf : AV → List Nat
 | .oref id _ | .ptr id _ | .ptrA id _ _ _ _ _ | .ptrO id _ _ | .bsl id _ _ _ _ _ | .mapr id => [id]
 | _ => []
def idsAt (tmps : List AV) : List Nat → List Nat
 | [] => []
 | t :: l => idsOf (getA tmps t) ++ idsAt tmps l
def readsOf (S : St) (op : Op) : List Nat := bif looks op then idsAt S.tmps (opTmps op) else []
def pickO (objs : Objs) : List Nat → Objs
 | [] => []
 | id :: r => match look id objs with
  | some oc => (id, oc) :: pickO objs r
  | none => pickO objs r
def viewC (S : St) (o : Oper) : St := ⟨maskA (opTmps o.op) 0 S.tmps, S.objs, S.next⟩
def viewR (S : St) (o : Oper) : St := ⟨maskA (opTmps o.op) 0 S.tmps, pickO S.objs (readsOf S o.op), S.next⟩
def idsV : AV → List Nat
 | .oref id _ | .ptr id _ | .ptrA id _ _ _ _ _ | .ptrO id _ _ | .bsl id _ _ _ _ _ | .mapr id => [id]
 | .func _ a b => idsVs a ++ idsVs b
 | .cbox c => idsV c
 | .agg cs => idsVs cs
 | .tup vs => idsVs vs
 | .iface _ _ cs => idsVs cs
 | _ => []
where idsVs : List AV → List Nat
 | [] => []
 | v :: l => idsV v ++ idsVs l
def idsVsP : List (Nat × AV) → List Nat
 | [] => []
 | p :: l => idsV p.2 ++ idsVsP l
def touchOf (S : St) : Op → Option (List Nat × Nat)
 | .alloc _ | .box .. | .makeSlice .. => some ([], S.next)
 | .buildSlice _ _ ps => some (idsVsP (mapP S ps.toList), S.next)
 | .store _ a _ => match ev S a with
  | .ptr id _ => some ([id], S.next)
  | _ => none
 | .call { callee := .value f, args, .. } => match ev S f with
  | .func g first caps => match H.calm g S.objs (idsV.idsVs (appA first (appA (mapA (ev S) args.toList) caps))) with
   | some l => some (l, S.next)
   | none => none
  | _ => none
 | .call { callee := .builtin .append, args, .. } => match args.toList with
  | [s, _] => match ev S s with
   | .nilsl => some ([], S.next)
   | .oref j _ => some ([j], S.next)
   | _ => none
  | _ => none
 | _ => none
def nthO : List Oper → Nat → Option Oper
 | [], _ => none
 | o :: l, i => match i with
  | 0 => some o
  | i + 1 => nthO l i
def nthN : List Nat → Nat → Nat
 | [], _ => 0
 | o :: l, i => match i with
  | 0 => o
  | i + 1 => nthN l i
def ancE (acc : List Nat) : List Edge → Nat
 | [] => 0
 | e :: l => bif Region.binds .any e then (2 ^ e.on ||| nthN acc e.on) ||| ancE acc l else ancE acc l
def ancs : List Oper → List Nat → List Nat
 | [], acc => acc
 | o :: l, acc => ancs l (acc ++ [ancE acc o.after.toList])
def backE (i : Nat) : List Edge → Bool
 | [] => true
 | e :: l => (!Region.binds .any e || Nat.blt e.on i) && backE i l
def backs : Nat → List Oper → Bool
 | _, [] => true
 | i, o :: l => backE i o.after.toList && backs (i + 1) l
def dstIn (d : Nat) : List Oper → Bool
 | [] => false
 | o :: l => (match o.dst with
  | some t => Nat.beq t d
  | none => false) || dstIn d l
def dstsApart : List Oper → Bool
 | [] => true
 | o :: l => (match o.dst with
  | some t => !dstIn t l
  | none => true) && dstsApart l
def idxOf (d : Nat) : Nat → List Oper → Option Nat
 | _, [] => none
 | i, o :: l => match o.dst with
  | some t => bif Nat.beq t d then some i else idxOf d (i + 1) l
  | none => idxOf d (i + 1) l
def allUp (pi : List Nat) : Nat → Bool
 | 0 => true
 | n + 1 => memN n pi && allUp pi n
def regOK (ops : List Oper) (pi : List Nat) : Bool := dstsApart ops && backs 0 ops && allUp pi ops.length
structure Ent where
 j : Nat
 chain : Bool
 alloc : Bool
 fp : Option (List Nat × Nat)
 anc : Nat
 prev : Nat
def entOf (an : List Nat) (prev j : Nat) (o : Oper) (S : St) : Ent :=
 ⟨j, chainy T o.op, isAlloc T S o, bif chainy T o.op then touchOf H S o.op else some (readsOf S o.op, 0), nthN an j, prev⟩
def apartL : List Nat → List Nat → Bool
 | [], _ => true
 | a :: l, m => !memN a m && apartL l m
def belowL (n : Nat) : List Nat → Bool
 | [] => true
 | a :: l => Nat.blt a n && belowL n l
def apartF : Option (List Nat × Nat) → Option (List Nat × Nat) → Bool
 | some l, some m => apartL l.1 m.1 && belowL m.2 l.1
 | some l, none => match l.1 with
  | [] => true
  | _ => false
 | _, _ => false
def pairOK (e f : Ent) : Bool :=
  !Nat.beq e.j f.j &&
  (Nat.testBit f.anc e.j ||
    (match e.chain, f.chain with
     | true, true => f.alloc
     | false, false => true
     | false, true => apartF e.fp f.fp
     | true, false => apartF f.fp e.fp)) &&
  (!(e.alloc && Nat.testBit f.anc e.j) || Nat.beq (e.prev &&& f.anc) e.prev)
def pairsOK (f : Ent) : List Ent → Bool
 | [] => true
 | e :: l => pairOK e f && pairsOK f l
def inLog (i : Nat) : List Ent → Bool
 | [] => false
 | e :: l => Nat.beq e.j i || inLog i l
def tmpOK (ops : List Oper) (an : List Nat) (j anc : Nat) (log : List Ent) (t : Nat) : Bool :=
 match idxOf t 0 ops with
 | none => true
 | some i => bif inLog i log then Nat.testBit anc i else Nat.beq i j || Nat.testBit (nthN an i) j
def tmpsOK (ops : List Oper) (an : List Nat) (j anc : Nat) (log : List Ent) : List Nat → Bool
 | [] => true
 | t :: l => tmpOK ops an j anc log t && tmpsOK ops an j anc log l
def guardTmp (ops : List Oper) (o : Oper) : List Nat :=
 match o.guard with
 | none => []
 | some (g, _) => match dstOf ops g with
  | some d => [d]
  | none => []
def opOK (ops : List Oper) (an : List Nat) (o : Oper) (f : Ent) (log : List Ent) : Bool :=
 pairsOK f log && tmpsOK ops an f.j f.anc log (opTmps o.op) && tmpsOK ops an f.j f.anc log (guardTmp ops o)
def stepK {R : Type} (o : Oper) (S : St) (K : St → Option R) : Option R :=
 bif chainy T o.op then opV T H o.op (viewC S o) fun v objs next => K (S.step o.dst v objs next)
 else match growV T (viewR S o) o.op with
  | some v => K (S.step o.dst v S.objs S.next)
  | none => match pureOp T (viewR S o) o.op with
  | .val v => K (S.step o.dst v S.objs S.next)
  | .gval b v => bif b then K (S.step o.dst v S.objs S.next) else none
  | .no => none
def regK {R : Type} (ops : Array Oper) (an : List Nat) : List Nat → List Ent → Nat → St → (St → Option R) → Option R
 | [], _, _, S, K => K S
 | j :: rest, log, prev, S, K => match nthO ops.toList j with
  | none => none
  | some o => bif opOK ops.toList an o (entOf T H an prev j o S) log then
    (match guardOf ops S o with
    | .no => none
    | .run => stepK T H o S fun S' => regK ops an rest (entOf T H an prev j o S :: log) (bif chainy T o.op then prev ||| 2 ^ j else prev) S' K
    | .skip => regK ops an rest (entOf T H an prev j o S :: log) (bif chainy T o.op then prev ||| 2 ^ j else prev) (S.step o.dst (.tup []) S.objs S.next) K
    | .test d b want => match want with
     | true => bif b then stepK T H o (S.put (some d) (.bool true)) fun S' => regK ops an rest (entOf T H an prev j o S :: log) (bif chainy T o.op then prev ||| 2 ^ j else prev) S' K
       else regK ops an rest (entOf T H an prev j o S :: log) (bif chainy T o.op then prev ||| 2 ^ j else prev) ((S.put (some d) (.bool false)).step o.dst (.tup []) S.objs S.next) K
     | false => bif b then regK ops an rest (entOf T H an prev j o S :: log) (bif chainy T o.op then prev ||| 2 ^ j else prev) ((S.put (some d) (.bool true)).step o.dst (.tup []) S.objs S.next) K
       else stepK T H o (S.put (some d) (.bool false)) fun S' => regK ops an rest (entOf T H an prev j o S :: log) (bif chainy T o.op then prev ||| 2 ^ j else prev) S' K)
   else none
def drawK {R : Type} (ops : Array Oper) (pi : List Nat) (S : St) (K : St → Option R) : Option R :=
 bif regOK ops.toList pi then regK T H ops (ancs ops.toList []) pi [] 0 S K else none
def setLit (S : St) (c : Operand) (b : Bool) : St :=
 match c with
 | .tmp t => S.put (some t) (.bool b)
 | _ => S
def rollK {R : Type} (body : St → (Ex → St → Option R) → Option R) (K : Ex → St → Option R) : Nat → St → Option R
 | 0, _ => none
 | n + 1, S => body S fun x S => match x with
  | .normal => rollK body K n S
  | x => K x S
def joinK {R : Type} (ex : Option Exits) (S : St) (K : Ex → St → Option R) (run : ∀ {R' : Type}, (Ex → St → Option R') → Option R') : Option R :=
 match ex with
 | none => run K
 | some ex => (run fun x S' => packE S ex x S').bind fun j => unpackE S ex j K
def noRF : Code → Bool
 | .seq a b => noRF a && noRF b
 | .cond _ a b => noRF a && noRF b
 | .block _ a => noRF a
 | .loop a => noRF a
 | .scope a => noRF a
 | .rangeFunc .. => false
 | _ => true
structure Bk where
 sid : Nat
 bid : Nat
 n : Nat
def bkOf (S : St) (v : AV) : Option Bk :=
 match v with
 | .func f [] [.ptr sid 0] => match H.back f with
  | some n => match look sid S.objs with
   | some (.box [.bsl bid 0 n' (.int .i64) 0 len]) => bif Nat.beq n' n && Nat.beq len n && !Nat.beq bid sid then some ⟨sid, bid, n⟩ else none
   | _ => none
  | none => none
 | _ => none
def elAt (S : St) (b : Bk) (i : Nat) : Option AV :=
 match look b.bid S.objs with
 | some (.box [.arr n (.int .i64) l]) => bif Nat.beq n b.n then some (.int .i64 (l.getD i 0)) else none
 | _ => none
def backN {X R : Type} (f : Nat → X → Option (X ⊕ R)) : Nat → X → Option (X ⊕ R)
 | 0, x => some (.inl x)
 | n + 1, x => match f n x with
  | some (.inl y) => backN f n y
  | some (.inr r) => some (.inr r)
  | none => none
def putT (tmps : List AV) : List Nat → List AV → List AV
 | p :: ps, v :: vs => putT (setA tmps p v) ps vs
 | _, _ => tmps
def St.tm (S : St) (tmps : List AV) : St := { S with tmps := tmps }
def rangeR {R : Type} (S : St) (bk : Bk) (ps : List Nat) (sp : Spec) (ex : Exits) (as bo : ∀ {R' : Type}, St → (Ex → St → Option R') → Option R') (K : Ex → St → Option R) : Option R :=
 oB (pack S S.tmps sp S.objs) fun p => (backN (fun i p => oB (elAt (unpack S sp p (fresh S)) bk i) fun v =>
   as ((unpack S sp p (fresh S)).tm (putT S.tmps ps [.int .i64 (i : Int), v])) fun e S1 => match e with
    | .normal => bo S1 fun e S' => match e with
     | .normal => oM (pack S S'.tmps sp S'.objs) Sum.inl
     | e => oM (packE S ex e S') Sum.inr
    | _ => none) bk.n p).bind fun r => match r with
  | .inl p => K .normal ((unpack S sp p (fresh S)).tm S.tmps)
  | .inr j => unpackE S ex j fun e S' => K e (S'.tm S.tmps)
def noG {R : Type} (g : Option Gv) (x : Option R) : Option R :=
 match g with
 | none => x
 | some _ => none
noncomputable def codeK : Code → Ann → Option Gv → {R : Type} → St → (Ex → St → Option R) → Option R
  | .skip, a, g, _, S, K => noG g <| joinK a.ex S K fun K => K .normal S
  | .label _, a, g, _, S, K => noG g <| joinK a.ex S K fun K => K .normal S
  | .exit id, a, g, _, S, K => noG g <| joinK a.ex S K fun K => K (.exit id) S
  | .ret, a, g, _, S, K => noG g <| joinK a.ex S K fun K => match frzA S a.inner with
    | none => none
    | some q => bif q.1 then K .ret q.2.1 else none
  | .region _ ops draw, a, g, _, S, K => match g with
    | none => joinK a.ex S K fun K => match frzA S a.inner with
      | none => none
      | some q => bif q.1 then (match draw with
        | false => opsK T H ops ops.toList q.2.1 (K .normal)
        | true => match q.2.2 with
          | .draw pi => drawK T H ops pi q.2.1 (K .normal)
          | _ => none) else none
    | some g => match draw with
      | false => match ops.toList with
        | o :: rest => opsK T H ops rest (S.step o.dst g.v (setO g.id g.oc S.objs) S.next) (K .normal)
        | [] => none
      | true => none
  | .seq x y, a, g, _, S, K => match g with
    | none => joinK a.ex S K fun K => codeK x a.inner.left none S fun e S => match e with
      | .normal => codeK y a.inner.right none S K
      | e => K e S
    | some g => codeK x a.inner.left (some g) S fun e S => match e with
      | .normal => codeK y a.inner.right none S K
      | e => K e S
  | .cond c x y, a, g, _, S, K => noG g <| joinK a.ex S K fun K => match ev S c with
    | .bool b => bif b then codeK x a.inner.left none (setLit S c true) K else codeK y a.inner.right none (setLit S c false) K
    | _ => none
  | .block id c, a, g, _, S, K => noG g <| joinK a.ex S K fun K => codeK c a.inner.left none S fun e S => match e with
    | .exit id' => bif Nat.beq id' id then K .normal S else K (.exit id') S
    | e => K e S
  | .loop c, a, g, _, S, K => noG g <| joinK a.ex S K fun K => match a.inner with
    | .loop sp ex a => oB (pack S S.tmps sp S.objs) fun p => (iter (fun p => codeK c a none (unpack S sp p (fresh S)) fun e S' => match e with
        | .normal => oM (pack S S'.tmps sp S'.objs) Sum.inl
        | e => oM (packE S ex e S') Sum.inr) p).bind fun j => unpackE S ex j K
    | .roll n a => rollK (fun S K => codeK c a none S K) K n S
    | .peel sp ex a s g b c2 => match c2 with
      | .loop sp2 ex2 a2 => oB (pack S S.tmps sp S.objs) fun p => (iter (R := PT sp ⊕ JT ex) (fun p => bif Nat.beq (natA (getA (unpack S sp p (fresh S)).tmps s)) g then some (Sum.inr (Sum.inl p)) else codeK c a none (unpack S sp p (fresh S)) fun e S' => match e with
            | .normal => oM (pack S S'.tmps sp S'.objs) Sum.inl
            | e => oM (packE S ex e S') fun j => Sum.inr (Sum.inr j)) p).bind fun r => match r with
          | .inl p => codeK c b none (unpack S sp p (fresh S)) fun e S1 => match e with
            | .normal => oB (pack S1 S1.tmps sp2 S1.objs) fun p => (iter (fun p => codeK c a2 none (unpack S1 sp2 p (fresh S1)) fun e S' => match e with
                | .normal => oM (pack S1 S'.tmps sp2 S'.objs) Sum.inl
                | e => oM (packE S1 ex2 e S') Sum.inr) p).bind fun j => unpackE S1 ex2 j K
            | e => K e S1
          | .inr j => unpackE S ex j K
      | _ => none
    | .each sp ex k v a => match firstM c with
      | some q => oB (pack S S.tmps sp S.objs) fun p => (iterC (fun p => match mitAt (unpack S sp p (fresh S)) (getA (unpack S sp p (fresh S)).tmps q.2) k v with
            | some m => candsM m.es m.since m.seen m.last
            | none => [])
          (fun ch p => oB (mitAt (unpack S sp p (fresh S)) (getA (unpack S sp p (fresh S)).tmps q.2) k v) fun m => match ch with
            | none => codeK c a (some (gvN m)) (unpack S sp p (fresh S)) fun e S' => match e with
              | .normal => oM (pack S S'.tmps sp S'.objs) Sum.inl
              | e => oM (packE S ex e S') Sum.inr
            | some en => codeK c a (some (gvS m en)) (unpack S sp p (fresh S)) fun e S' => match e with
              | .normal => oM (pack S S'.tmps sp S'.objs) Sum.inl
              | e => oM (packE S ex e S') Sum.inr) p).bind fun j => unpackE S ex j K
      | none => none
    | _ => none
  | .scope c, a, g, _, S, K => noG g <| joinK a.ex S K fun K => codeK c a.inner.left none S K
  | .rangeFunc f ps x y, a, g, _, S, K => noG g <| joinK a.ex S K fun K => match a.inner with
    | .loop sp ex b => bif noRF x && noRF y && Nat.beq ps.size 2 then oB (bkOf H S (ev S f)) fun bk =>
        rangeR { S with objs := dropO bk.sid S.objs } bk ps.toList sp ex (fun S K => codeK x .no none S K) (fun S K => codeK y b none S K) K
      else none
    | _ => none
  | .goto _, _, _, _, _, _ => none
  | .refuse _, _, _, _, _, _ => none
end
def eget (f : FuncId) : List (Nat × Callee) → Option Callee
 | [] => none
 | (j, c) :: r => bif Nat.beq j f then some c else eget f r
def idsC (objs : Objs) : List Nat → List Nat
 | [] => []
 | id :: l => match look id objs with
  | some (.box cs) => idsV.idsVs cs ++ idsC objs l
  | some (.hol _ _ _ cs _) => idsV.idsVs cs ++ idsC objs l
  | _ => idsC objs l
def reachN (objs : Objs) : Nat → List Nat → List Nat
 | 0, _ => []
 | n + 1, ids => match ids with
  | [] => []
  | ids => ids ++ reachN objs n (idsC objs ids)
def inO (ids : List Nat) : Objs → Objs
 | [] => []
 | p :: l => bif memN p.1 ids then p :: inO ids l else inO ids l
def outO (ids : List Nat) : Objs → Objs
 | [] => []
 | p :: l => bif memN p.1 ids then outO ids l else p :: outO ids l
def newO (ids : List Nat) (n : Nat) : Objs → Objs
 | [] => []
 | p :: l => bif memN p.1 ids || Nat.ble n p.1 then p :: newO ids n l else newO ids n l
def mergeO : Objs → Objs → Objs
 | [], m => m
 | p :: l, m => setO p.1 p.2 (mergeO l m)
def hasFn (g : Nat) : List AV → Bool
 | [] => false
 | v :: l => match v with
  | .func f _ _ => Nat.beq f g || hasFn g l
  | _ => hasFn g l
def annFor (args : List AV) : Ann → Ann
 | .alt g a b => bif hasFn g args then a else annFor args b
 | a => a
def popF : FuncId → List AV → Option (List AV)
 | _, [] => none
 | g, [v] => match v with
  | .func f [] [] => bif Nat.beq f g then some [] else none
  | _ => none
 | g, v :: w :: l => oM (popF g (w :: l)) (v :: ·)
def popG (g : Option FuncId) (args : List AV) : Option (List AV) :=
 match g with
 | none => some args
 | some g => popF g args
def addG (g : Option FuncId) (args : List AV) : List AV :=
 match g with
 | none => args
 | some g => appA args [.func g [] []]
def insHK {R : Type} (t : Ty) (bytes : Nat) (args : List AV) (S : St) (K : AV → St → Option R) : Option R :=
 match args with
 | [.oref a none, .int .i64 k, .oref b none] => match look a S.objs, look b S.objs with
  | some (.arr t1 l), some (.hol t2 m _ cs _) => match castL t1 t l, castL t2 t m with
   | some l, some [_] => bif (decide (0 ≤ k) && decide (k ≤ (l.length : Int))) && room bytes (l.length + 1) then
     K (.oref S.next none) { S with objs := setO S.next (.hol t (l.take k.toNat ++ (dflt t :: l.drop k.toNat)) k.toNat cs false) (dropO b (dropO a S.objs)), next := S.next + 1 } else none
   | _, _ => none
  | _, _ => none
 | _ => none
noncomputable def handler (T : Tab) (E : List (Nat × Callee)) : Nat → Handler
 | 0 => ⟨fun _ _ _ _ => none, fun _ => false, fun _ _ _ => none, fun _ => none, fun _ => false⟩
 | n + 1 => ⟨fun f args S K => match eget f E with
  | none => none
  | some (.back ..) => none
  | some (.ext fn) => (match fn args with
   | some v => K v S
   | none => none)
  | some (.insH t bytes) => insHK t bytes args S K
  | some (.sem ins outs fn g) => oB (popG g args) fun args => bif allFlat outs && allPure ins then (match packLend S.objs ins args with
    | some x => (fn x).bind fun y => match layOut outs y ⟨S.objs, S.next⟩ with
     | (v, m) => K v { S with objs := m.objs, next := m.next }
    | none => none)
   else (match packArgs ins args S.objs with
    | some (x, objs) => (fn x).bind fun y => match layOut outs y ⟨objs, S.next⟩ with
     | (v, m) => K v { S with objs := m.objs, next := m.next }
    | none => none)
  | some (.inl fn body ann) => codeK T (handler T E n) body (annFor args ann) none ⟨appA args (repA (.tup []) (fn.ntmps - lenA args)), inO (reachN S.objs 6 (idsV.idsVs args)) S.objs, S.next⟩ fun e S' => match e with
   | .exit _ => none
   | _ => match resultsOf S' fn.results.toList T with
    | some vs => K (oneOf vs) { S with objs := mergeO (outO (reachN S.objs 6 (idsV.idsVs args)) S.objs) (newO (reachN S.objs 6 (idsV.idsVs args)) S.next S'.objs), next := S'.next }
    | none => none,
  fun f => match eget f E with
   | some (.sem ins outs _ _) => allFlat outs && allPure ins
   | some (.ext _) => true
   | _ => false,
  fun f objs ids => match eget f E with
   | some (.sem ..) => some ids
   | some (.insH ..) => some ids
   | some (.inl ..) => some (reachN objs 6 ids)
   | some (.ext _) => some ids
   | _ => none,
  fun f => match eget f E with
   | some (.back n) => some n
   | _ => none,
  fun f => match eget f E with
   | some (.ext _) => true
   | _ => false⟩
noncomputable def evalF (T : Tab) (E : List (Nat × Callee)) (depth : Nat) (fn : Func) (body : Code) (ann : Ann) (ins outs : List (Bool × Ty)) (x : denL ins) (g : Option FuncId := none) : Option (denL outs) :=
 match layAll ins x ⟨[], 0⟩ with
 | (args, m) => codeK T (handler T E depth) body ann none ⟨appA (addG g args) (repA (.tup []) (fn.ntmps - lenA (addG g args))), m.objs, m.next⟩ fun e S' => match e with
  | .exit _ => none
  | _ => match resultsOf S' fn.results.toList T with
   | some vs => match packArgs outs vs S'.objs with
    | some (y, _) => some y
    | none => none
   | none => none
def insT {A : Type} (bytes : Nat) (l : List A) (i : Int) (v : List A) : Option (List A) :=
 bif (decide (0 ≤ i) && decide (i ≤ (l.length : Int))) && (decide (0 < v.length) && room bytes (l.length + v.length)) then some (l.take i.toNat ++ (v ++ l.drop i.toNat)) else none
end Go.Rx
namespace Go.Rx
variable [Inhabited GW]
structure MI where
 blk : Option Nat
 base : Nat
 len : Nat
 cap : Nat
 wd : Nat
structure Env where
 w : World
 ro : Nat → Prop
 M : Nat → MI
 N : Nat
def TRep (E : Env) : (t : Ty) → den t → List Value → Prop
 | .int k, x, vs => vs = [.int k x]
 | .bool, x, vs => vs = [.bool x]
 | .str, x, vs => vs = [.string x]
 | .sl t, l, vs => ∃ a cap, vs = [.slice a l.length cap] ∧ (l.length ≤ cap ∧ (a = none → cap = 0)) ∧ (l.length = 0 ∨ ∃ b o, a = some ⟨b, o, none⟩ ∧ E.ro b ∧
   ∀ i, (h : i < l.length) → ∃ cs, TRep E t l[i] cs ∧ ∀ j v, cs[j]? = some v → E.w.cell? ⟨b, o + i * width t + j, none⟩ = some v)
 | .own _, _, _ => False
 | .unit, _, vs => vs = []
 | .pair a b, x, vs => ∃ u v, vs = u ++ v ∧ TRep E a x.1 u ∧ TRep E b x.2 v
 | .arr n t, l, vs => l.length = n ∧ vs.length = n * width t ∧ ∀ i, (h : i < l.length) → ∃ cs, TRep E t l[i] cs ∧ ∀ j v, cs[j]? = some v → vs[i * width t + j]? = some v
def Elems (E : Env) (t : Ty) (l : List (den t)) (b o : Nat) : Prop :=
 ∀ i, (h : i < l.length) → ∃ cs, TRep E t l[i] cs ∧ ∀ j v, cs[j]? = some v → E.w.cell? ⟨b, o + i * width t + j, none⟩ = some v
mutual
/-- a cell's value (of an array: its cells) -/
def CRep (E : Env) : AV → List Value → Prop
  | .top, vs => ∃ v : Value, vs = [v] ∧ v.oneCell' = true
  | .int k n, vs => vs = [.int k n]
  | .bool b, vs => vs = [.bool b]
  | .str s, vs => vs = [.string s]
  | .sl t l, vs => TRep E (.sl t) l vs
  | .slv t l, vs => TRep E (.sl t) l vs ∧ ∃ a n c, vs = [.slice (some a) n c]
  | .nilsl, vs => vs = [.slice none 0 0]
  | .arr n t l, vs => TRep E (.arr n t) l vs
  | .oref id r, vs => id < E.N ∧ match (E.M id).blk with
    | none => vs = [.slice none 0 0] ∧ rOff r = 0 ∧ rLen (E.M id).len r = 0
    | some b => ∃ o cap, vs = [.slice (some ⟨b, o, none⟩) (rLen (E.M id).len r) cap] ∧ rLen (E.M id).len r ≤ cap ∧ rOff r + rLen (E.M id).len r ≤ (E.M id).len ∧
        (cap = 0 ∨ (o = (E.M id).base + rOff r * (E.M id).wd ∧ rOff r + cap ≤ (E.M id).cap))
  | .ptr id off, vs => id < E.N ∧ ∃ b, (E.M id).blk = some b ∧ vs = [.pointer (some ⟨b, off, none⟩)]
  | .ptrA id off n t i sub, vs => id < E.N ∧ i < n ∧ ∃ b, (E.M id).blk = some b ∧ vs = [.pointer (some ⟨b, off + i * width t + sub, none⟩)]
  | .ptrO id i sub, vs => id < E.N ∧ i < (E.M id).len ∧ ∃ b, (E.M id).blk = some b ∧ vs = [.pointer (some ⟨b, (E.M id).base + i * (E.M id).wd + sub, none⟩)]
  | .ptrR t l i sub, vs => i < l.length ∧ ∃ b o, E.ro b ∧ vs = [.pointer (some ⟨b, o + i * width t + sub, none⟩)] ∧ Elems E t l b o
  | .bsl id off n t lo len, vs => id < E.N ∧ lo + len ≤ n ∧ ∃ b o, (E.M id).blk = some b ∧ vs = [.slice (some ⟨b, o, none⟩) len (n - lo)] ∧ (lo = n ∨ o = off + lo * width t)
  | .yld l, vs => vs = [.func (.yield l) #[] #[]]
  | .gptr g, vs => vs = [.pointer (some ⟨g, 0, none⟩)]
  | .cbox c, vs => ∃ b v e, vs = [.pointer (some ⟨b, 0, none⟩)] ∧ E.ro b ∧ E.w.heap[b]? = some (.cells #[v] e (0, 0)) ∧ isCell c = true ∧ CRep E c [v]
  | .nilp, vs => vs = [.pointer none]
  | .func f first caps, vs => ∃ A B, vs = [.func (.func f) A B] ∧ CRepF E first A.toList ∧ CRepF E caps B.toList
  | .nilf, vs => vs = [.nilFunc]
  | .mapr id, vs => id < E.N ∧ ∃ b, (E.M id).blk = some b ∧ vs = [.map (some b)]
  | .nilm, vs => vs = [.map none]
  | .iface t ag cs, vs => ∃ ws, CRepF E cs ws ∧ ∃ x, vs = [.iface t x] ∧ ((ag = true ∧ x = .agg ws.toArray) ∨ (ag = false ∧ ws = [x]))
  | .nili, vs => vs = [.nilIface]
  | .agg _, _ => False
  | .tup _, _ => False
def CRepF (E : Env) : List AV → List Value → Prop
  | [], vs => vs = []
  | a :: l, vs => ∃ v r, vs = v :: r ∧ isCell a = true ∧ CRep E a [v] ∧ CRepF E l r
end
def CRepL (E : Env) : List AV → List Value → Prop
 | [], vs => vs = []
 | a :: l, vs => ∃ u r, vs = u ++ r ∧ CRep E a u ∧ CRepL E l r
def VRep (E : Env) : AV → Value → Prop
 | .agg cs, v => ∃ vs : List Value, v = .agg vs.toArray ∧ CRepL E cs vs
 | .top, _ => True
 | .tup _, _ => False
 | .arr .., _ => False
 | a, v => CRep E a [v]
def VRepL (E : Env) : List AV → List Value → Prop
 | [], vs => vs = []
 | a :: l, vs => ∃ v r, vs = v :: r ∧ VRep E a v ∧ VRepL E l r
def SRep (E : Env) : AV → Value → Prop
 | .tup l, v => ∃ vs : List Value, v = .tuple vs.toArray ∧ VRepL E l vs
 | a, v => VRep E a v
def AV.isTup : AV → Bool
 | .tup _ => true
 | _ => false
theorem SRep.iff_V {E : Env} {a : AV} {v : Value} (h : a.isTup = false) : SRep E a v ↔ VRep E a v := by
 cases a <;> first
  | exact Iff.rfl
  | cases h
def ERep (E : Env) (t : Bool × Ty) (x : den t.2) (v : Value) : Prop := ∃ cs : List Value, TRep E t.2 x cs ∧ if t.1 = true then v = .agg cs.toArray else cs = [v]
def MRep (E : Env) (k v : Bool × Ty) : List (Nat × (den k.2 × den v.2)) → List MapEntry → Prop
 | [], ms => ms = []
 | p :: es, ms => ∃ e r, ms = e :: r ∧ e.born = p.1 ∧ ERep E k p.2.1 e.key ∧ ERep E v p.2.2 e.val ∧ MRep E k v es r
def HRep (E : Env) (t : Ty) (l : List (den t)) (g : Nat) (cs : List AV) (seg : List Value) : Prop :=
 seg.length = l.length * width t ∧ g < l.length ∧ (∀ i, (h : i < l.length) → i ≠ g → ∃ us, TRep E t l[i] us ∧ ∀ j v, us[j]? = some v → seg[i * width t + j]? = some v) ∧
  ∃ us, CRepL E cs us ∧ us.length = width t ∧ ∀ j v, us[j]? = some v → seg[g * width t + j]? = some v
def ORep (E : Env) (m : MI) : OC → Prop
 | .box cs => ∃ b vs e, m.blk = some b ∧ E.w.heap[b]? = some (.cells vs e (0, 0)) ∧ CRepL E cs vs.toList
 | .arr t l => m.len = l.length ∧ m.wd = width t ∧ match m.blk with
  | none => l = []
  | some b => ∃ vs e, E.w.heap[b]? = some (.cells vs e (0, 0)) ∧ l.length ≤ m.cap ∧ m.base + m.cap * width t ≤ vs.size ∧
    ∀ i, (h : i < l.length) → ∃ cs, TRep E t l[i] cs ∧ ∀ j v, cs[j]? = some v → vs[m.base + i * width t + j]? = some v
 | .map es => ∃ b ms ck, m.blk = some b ∧ E.w.heap[b]? = some (.map ms ck) ∧ ms.toList.map (·.key) = es.map (fun p => Value.int .i64 p.1) ∧ CRepF E (es.map (·.2)) (ms.toList.map (·.val))
 | .iter s pos => ∃ b, m.blk = some b ∧ E.w.heap[b]? = some (.stringIter s pos)
 | .mp k v es ck => ∃ b ms, m.blk = some b ∧ E.w.heap[b]? = some (.map ms ck) ∧ MRep E k v es ms.toList
 | .hol t l g cs _ => m.len = l.length ∧ m.wd = width t ∧ ∃ b vs e, m.blk = some b ∧ E.w.heap[b]? = some (.cells vs e (0, 0)) ∧ l.length ≤ m.cap ∧ m.base + m.cap * width t ≤ vs.size ∧
   HRep E t l g cs ((vs.toList.drop m.base).take (l.length * width t))
 | .mit j since seen last => ∃ b mb, m.blk = some b ∧ j < E.N ∧ (E.M j).blk = some mb ∧ E.w.heap[b]? = some (.mapIter (some mb) since seen.toArray last)
def LaidE (E : Env) : Prop := ∀ g t x, gfind g = some ⟨t, x⟩ → t.flat = true ∧ E.ro g ∧ ∃ cs e fz, E.w.heap[g]? = some (.cells cs e fz) ∧ TRep E t x cs.toList
def glb (g : Nat) : Prop := (gfind g).isSome = true
theorem TRep.flatE {E E' : Env} : ∀ {t : Ty} {x : den t} {vs : List Value}, t.flat = true → TRep E t x vs → TRep E' t x vs
 | .int _, _, _, _, r => r
 | .bool, _, _, _, r => r
 | .str, _, _, _, r => r
 | .sl _, _, _, h, _ => nomatch h
 | .own _, _, _, h, _ => nomatch h
 | .unit, _, _, _, r => r
 | .pair a b, x, vs, h, r => by
  obtain ⟨u, v, e, r1, r2⟩ := r
  simp only [Ty.flat, Bool.and_eq_true] at h
  exact ⟨u, v, e, TRep.flatE h.1 r1, TRep.flatE h.2 r2⟩
 | .arr n t, l, vs, h, r => by
  obtain ⟨e1, e2, r⟩ := r
  refine ⟨e1, e2, fun i hi => ?_⟩
  obtain ⟨cs, r1, r2⟩ := r i hi
  exact ⟨cs, TRep.flatE (t := t) h r1, r2⟩
theorem LaidE.cells {E E' : Env} (r : LaidE E) (h : ∀ g, glb g → E'.ro g ∧ ∀ cs e fz, E.w.heap[g]? = some (.cells cs e fz) → E'.w.heap[g]? = some (.cells cs e fz)) : LaidE E' := fun g t x e => by
 obtain ⟨f, _, cs, ty, fz, r2, r3⟩ := r g t x e
 have hg := h g (by unfold glb; rw [e]; rfl)
 exact ⟨f, hg.1, cs, ty, fz, hg.2 _ _ _ r2, TRep.flatE f r3⟩
theorem LaidE.mono {E E' : Env} (r : LaidE E) (h : ∀ g, glb g → E'.ro g ∧ E'.w.heap[g]? = E.w.heap[g]?) : LaidE E' :=
 r.cells fun g hg => ⟨(h g hg).1, fun cs e fz hv => by rw [(h g hg).2]; exact hv⟩
theorem LaidE.elems {E : Env} (r : LaidE E) (g : Nat) (t : Ty) (x : den t) (e : gfind g = some ⟨t, x⟩) : t.flat = true ∧ E.ro g ∧ Elems E t [x] g 0 := by
 obtain ⟨f, h1, cs, ty, fz, h2, h3⟩ := r g t x e
 refine ⟨f, h1, fun i hi => ?_⟩
 have hi0 : i = 0 := by simpa using hi
 subst hi0
 refine ⟨_, h3, fun j v hj => ?_⟩
 rw [show 0 + 0 * width t + j = j by omega]
 simp only [World.cell?, h2]
 simpa using hj
theorem LaidE.ro {E : Env} (r : LaidE E) {g : Nat} (h : glb g) : E.ro g := by
 unfold glb at h
 cases e : gfind g with
 | none => rw [e] at h; cases h
 | some x => exact (r g x.1 x.2 e).2.1
structure Mems (E : Env) (keep : Nat → Prop) (objs : Objs) : Prop where
 rep : ∀ id oc, look id objs = some oc → id < E.N ∧ ORep E (E.M id) oc
 sep : ∀ id oc b, look id objs = some oc → (E.M id).blk = some b → ¬ E.ro b ∧ ¬ keep b
 inj : ∀ id id' oc oc' b, look id objs = some oc → look id' objs = some oc' → (E.M id).blk = some b → (E.M id').blk = some b → id = id'
 rob : ∀ b, E.ro b → b < E.w.heap.size
 kb : ∀ b, keep b → b < E.w.heap.size
 gl : LaidE E
def Slots (E : Env) (tmps : List AV) (vals : Array Value) : Prop :=
 tmps.length = vals.size ∧ ∀ (i : Nat) (v : Value), vals[i]? = some v → SRep E (getA tmps i) v
def Marks (keep : Nat → Prop) (E : Env) (ds : List Deferred) : Prop :=
 ∃ Ds : List Nat, ds = Ds.map (fun D => { target := .collected D, args := #[] }) ∧ Ds.Nodup ∧ ∀ D ∈ Ds, ¬ keep D ∧ E.ro D ∧ E.w.heap[D]? = some (.deferred (some []))
theorem Marks.nil (keep : Nat → Prop) (E : Env) : Marks keep E [] := ⟨[], rfl, List.nodup_nil, fun _ h => (nomatch h)⟩
structure Rel (keep : Nat → Prop) (z : Nat) (S : St) (a : Act) (E : Env) : Prop where
 size : a.tmps.size = z
 slots : Slots E S.tmps a.tmps
 mems : Mems E keep S.objs
 next : E.N = S.next
 defers : Marks keep E a.defers
def Quiet (w w' : World) : Prop := w'.os = w.os ∧ w'.output = w.output
theorem Quiet.refl (w : World) : Quiet w w := ⟨rfl, rfl⟩
theorem Quiet.trans {w w' w'' : World} (h : Quiet w w') (h' : Quiet w' w'') : Quiet w w'' := ⟨h'.1.trans h.1, h'.2.trans h.2⟩
structure Later (keep : Nat → Prop) (E E' : Env) : Prop where
 ro : ∀ b, E.ro b → E'.ro b
 roN : ∀ b, E'.ro b → E.ro b ∨ ¬ keep b
 M : ∀ id, id < E.N → E'.M id = E.M id
 N : E.N ≤ E'.N
 size : E.w.heap.size ≤ E'.w.heap.size
 heapRo : ∀ b, E.ro b → E'.w.heap[b]? = E.w.heap[b]?
 heapKeep : ∀ b, keep b → E'.w.heap[b]? = E.w.heap[b]?
 out : Quiet E.w E'.w
theorem Later.refl (keep : Nat → Prop) (E : Env) : Later keep E E :=
 ⟨fun _ h => h, fun _ h => .inl h, fun _ _ => rfl, Nat.le_refl _, Nat.le_refl _, fun _ _ => rfl, fun _ _ => rfl, Quiet.refl _⟩
theorem Later.trans {keep : Nat → Prop} {E E' E'' : Env} (h : Later keep E E') (h' : Later keep E' E'') : Later keep E E'' :=
 ⟨fun b hb => h'.ro b (h.ro b hb), fun b hb => (h'.roN b hb).elim (fun x => h.roN b x) .inr, fun id hi => (h'.M id (Nat.lt_of_lt_of_le hi h.N)).trans (h.M id hi), Nat.le_trans h.N h'.N, Nat.le_trans h.size h'.size,
  fun b hb => (h'.heapRo b (h.ro b hb)).trans (h.heapRo b hb), fun b hb => (h'.heapKeep b hb).trans (h.heapKeep b hb), h.out.trans h'.out⟩
theorem Marks.later {keep : Nat → Prop} {E E' : Env} {ds : List Deferred} (h : Marks keep E ds) (hL : Later keep E E') : Marks keep E' ds := by
 obtain ⟨Ds, e, hn, h⟩ := h
 exact ⟨Ds, e, hn, fun D hD => ⟨(h D hD).1, hL.ro D (h D hD).2.1, (hL.heapRo D (h D hD).2.1).trans (h D hD).2.2⟩⟩
theorem cell_congr {w w' : World} {b o : Nat} (h : w'.heap[b]? = w.heap[b]?) : w'.cell? ⟨b, o, none⟩ = w.cell? ⟨b, o, none⟩ := by
 simp only [World.cell?, h]
set_option linter.unusedSectionVars false
section
variable {keep : Nat → Prop} {E E' : Env} (h : Later keep E E')
include h
theorem TRep.later : ∀ {t : Ty} {x : den t} {vs : List Value}, TRep E t x vs → TRep E' t x vs
 | .int _, _, _, r => r
 | .bool, _, _, r => r
 | .str, _, _, r => r
 | .sl t, l, vs, r => by
  obtain ⟨a, cap, e, hc, r⟩ := r
  refine ⟨a, cap, e, hc, r.imp id ?_⟩
  rintro ⟨b, o, e, hb, r⟩
  refine ⟨b, o, e, h.ro b hb, fun i hi => ?_⟩
  obtain ⟨cs, r1, r2⟩ := r i hi
  exact ⟨cs, TRep.later r1, fun j v hj => (cell_congr (h.heapRo b hb)).trans (r2 j v hj)⟩
 | .own _, _, _, r => r
 | .unit, _, _, r => r
 | .pair a b, x, vs, r => by
  obtain ⟨u, v, e, r1, r2⟩ := r
  exact ⟨u, v, e, TRep.later r1, TRep.later r2⟩
 | .arr n t, l, vs, r => by
  obtain ⟨e1, e2, r⟩ := r
  refine ⟨e1, e2, fun i hi => ?_⟩
  obtain ⟨cs, r1, r2⟩ := r i hi
  exact ⟨cs, TRep.later r1, r2⟩
theorem Elems.later {t : Ty} {l : List (den t)} {b o : Nat} (hb : E.ro b) (r : Elems E t l b o) : Elems E' t l b o := fun i hi => by
 obtain ⟨cs, r1, r2⟩ := r i hi
 exact ⟨cs, TRep.later h r1, fun j v hj => (cell_congr (h.heapRo b hb)).trans (r2 j v hj)⟩
mutual
theorem CRep.later : ∀ {a : AV} {vs : List Value}, CRep E a vs → CRep E' a vs
 | .top, _, r => r
 | .int .., _, r => r
 | .bool _, _, r => r
 | .str _, _, r => r
 | .sl _ _, _, r => TRep.later h r
 | .slv _ _, _, r => ⟨TRep.later h r.1, r.2⟩
 | .nilsl, _, r => r
 | .arr _ _ _, _, r => TRep.later h r
 | .oref id rg, vs, r => by
  obtain ⟨hi, r⟩ := r
  refine ⟨Nat.lt_of_lt_of_le hi h.N, ?_⟩
  rw [h.M id hi]; exact r
 | .ptr id off, vs, r => by
  obtain ⟨hi, r⟩ := r
  refine ⟨Nat.lt_of_lt_of_le hi h.N, ?_⟩
  rw [h.M id hi]; exact r
 | .ptrA id off n t i sub, vs, r => by
  obtain ⟨hi, r⟩ := r
  refine ⟨Nat.lt_of_lt_of_le hi h.N, ?_⟩
  rw [h.M id hi]; exact r
 | .ptrO id i sub, vs, r => by
  obtain ⟨hi, r⟩ := r
  refine ⟨Nat.lt_of_lt_of_le hi h.N, ?_⟩
  rw [h.M id hi]; exact r
 | .ptrR t l i sub, vs, r => by
  obtain ⟨hi, b, o, hb, e, r⟩ := r
  exact ⟨hi, b, o, h.ro b hb, e, Elems.later h hb r⟩
 | .bsl id off n t lo len, vs, r => by
  obtain ⟨hi, r⟩ := r
  refine ⟨Nat.lt_of_lt_of_le hi h.N, ?_⟩
  rw [h.M id hi]; exact r
 | .yld _, _, r => r
 | .gptr _, _, r => r
 | .cbox c, vs, r => by
  obtain ⟨b, v, e, h1, h2, h3, h4, h5⟩ := r
  exact ⟨b, v, e, h1, h.ro b h2, (h.heapRo b h2).trans h3, h4, CRep.later h5⟩
 | .nilp, _, r => r
 | .func f first caps, vs, r => by
  obtain ⟨A, B, e, r1, r2⟩ := r
  exact ⟨A, B, e, CRepF.later r1, CRepF.later r2⟩
 | .nilf, _, r => r
 | .mapr id, vs, r => by
  obtain ⟨hi, r⟩ := r
  refine ⟨Nat.lt_of_lt_of_le hi h.N, ?_⟩
  rw [h.M id hi]; exact r
 | .nilm, _, r => r
 | .iface t ag cs, vs, r => by
  obtain ⟨ws, r1, r2⟩ := r
  exact ⟨ws, CRepF.later r1, r2⟩
 | .nili, _, r => r
 | .agg _, _, r => r
 | .tup _, _, r => r
theorem CRepF.later : ∀ {l : List AV} {vs : List Value}, CRepF E l vs → CRepF E' l vs
 | [], _, r => r
 | a :: l, vs, r => by
  obtain ⟨v, s, e, hc, r1, r2⟩ := r
  exact ⟨v, s, e, hc, CRep.later r1, CRepF.later r2⟩
end
theorem LaidE.later (r : LaidE E) : LaidE E' := r.mono fun g hg => ⟨h.ro g (r.ro hg), h.heapRo g (r.ro hg)⟩
theorem CRepL.later : ∀ {l : List AV} {vs : List Value}, CRepL E l vs → CRepL E' l vs
 | [], _, r => r
 | a :: l, vs, r => by
  obtain ⟨v, s, e, r1, r2⟩ := r
  exact ⟨v, s, e, CRep.later h r1, CRepL.later r2⟩
theorem ERep.later {t : Bool × Ty} {x : den t.2} {v : Value} (r : ERep E t x v) : ERep E' t x v := by
 obtain ⟨cs, h1, h2⟩ := r
 exact ⟨cs, TRep.later h h1, h2⟩
theorem MRep.later {kt vt : Bool × Ty} : ∀ {es : List (Nat × (den kt.2 × den vt.2))} {ms : List MapEntry}, MRep E kt vt es ms → MRep E' kt vt es ms
 | [], _, r => r
 | p :: es, _, r => by
  obtain ⟨e, s, h0, h1, h2, h3, h4⟩ := r
  exact ⟨e, s, h0, h1, ERep.later h h2, ERep.later h h3, MRep.later h4⟩
theorem HRep.later {t : Ty} {l : List (den t)} {g : Nat} {cs : List AV} {seg : List Value} (r : HRep E t l g cs seg) : HRep E' t l g cs seg := by
 obtain ⟨h1, h2, h3, us, h4, h5⟩ := r
 refine ⟨h1, h2, fun i hi hg => ?_, us, CRepL.later h h4, h5⟩
 obtain ⟨us, r1, r2⟩ := h3 i hi hg
 exact ⟨us, TRep.later h r1, r2⟩
theorem VRep.later {a : AV} {v : Value} (r : VRep E a v) : VRep E' a v := by
 cases a
 case agg cs => obtain ⟨vs, e, r⟩ := r; exact ⟨vs, e, CRepL.later h r⟩
 all_goals first | exact r | exact CRep.later h r
theorem VRepL.later : ∀ {l : List AV} {vs : List Value}, VRepL E l vs → VRepL E' l vs
 | [], _, r => r
 | a :: l, vs, r => by
  obtain ⟨v, s, e, r1, r2⟩ := r
  exact ⟨v, s, e, VRep.later h r1, VRepL.later r2⟩
theorem SRep.later {a : AV} {v : Value} (r : SRep E a v) : SRep E' a v := by
 cases ht : a.isTup with
 | true =>
  cases a <;> first
   | (obtain ⟨vs, e, r⟩ := r; exact ⟨vs, e, VRepL.later h r⟩)
   | cases ht
 | false => exact (SRep.iff_V ht).2 (VRep.later h ((SRep.iff_V ht).1 r))
end
end Go.Rx
namespace Go.Rx
variable [Inhabited GW]
theorem TRep.length {E : Env} : ∀ {t : Ty} {x : den t} {vs : List Value}, TRep E t x vs → vs.length = width t
 | .int _, _, _, r => by rw [r]; rfl
 | .bool, _, _, r => by rw [r]; rfl
 | .str, _, _, r => by rw [r]; rfl
 | .sl t, l, vs, r => by obtain ⟨a, cap, e, _⟩ := r; rw [e]; rfl
 | .own _, _, _, r => r.elim
 | .unit, _, _, r => by rw [r]; rfl
 | .pair a b, x, vs, r => by
  obtain ⟨u, v, e, r1, r2⟩ := r
  rw [e, List.length_append, TRep.length r1, TRep.length r2]; rfl
 | .arr n t, l, vs, r => r.2.1
theorem CRep.length {E : Env} {a : AV} {vs : List Value} (r : CRep E a vs) : vs.length = a.w := by
 cases a with
 | top => obtain ⟨v, e, _⟩ := r; rw [e]; rfl
 | sl t l => exact TRep.length r
 | arr n t l => exact r.2.1
 | oref id rg =>
  obtain ⟨_, r⟩ := r
  split at r
  ·rw [r.1]; rfl
  ·obtain ⟨o, cap, e, _⟩ := r; rw [e]; rfl
 | ptr id off => obtain ⟨_, b, _, e⟩ := r; rw [e]; rfl
 | ptrA id off n t i sub => obtain ⟨_, _, b, _, e⟩ := r; rw [e]; rfl
 | ptrO id i sub => obtain ⟨_, _, b, _, e⟩ := r; rw [e]; rfl
 | ptrR t l i sub => obtain ⟨_, b, o, _, e, _⟩ := r; rw [e]; rfl
 | bsl id off n t lo len => obtain ⟨_, _, b, o, _, e, _⟩ := r; rw [e]; rfl
 | func f a b => obtain ⟨A, B, e, _⟩ := r; rw [e]; rfl
 | mapr id => obtain ⟨_, b, _, e⟩ := r; rw [e]; rfl
 | cbox c => obtain ⟨b, v, e, h1, _⟩ := r; rw [h1]; rfl
 | iface t ag cs => obtain ⟨ws, _, x, e, _⟩ := r; rw [e]; rfl
 | agg cs => exact r.elim
 | tup cs => exact r.elim
 | slv t l => obtain ⟨_, a, n, c, e⟩ := r; rw [e]; rfl
 | _ => rw [show vs = _ from r]; rfl
theorem CRepL.length {E : Env} : ∀ {l : List AV} {vs : List Value}, CRepL E l vs → vs.length = widthL l
 | [], _, r => by rw [show _ = [] from r]; rfl
 | a :: l, vs, r => by
  obtain ⟨u, s, e, r1, r2⟩ := r
  rw [e, List.length_append, CRep.length r1, CRepL.length r2]; rfl
theorem TRep.one {E : Env} : ∀ {t : Ty} {x : den t} {vs : List Value}, TRep E t x vs → ∀ v ∈ vs, v.oneCell' = true
 | .int _, _, _, r, v, hv => by rw [show _ = _ from r] at hv; simp at hv; rw [hv]; rfl
 | .bool, _, _, r, v, hv => by rw [show _ = _ from r] at hv; simp at hv; rw [hv]; rfl
 | .str, _, _, r, v, hv => by rw [show _ = _ from r] at hv; simp at hv; rw [hv]; rfl
 | .sl t, l, vs, r, v, hv => by obtain ⟨a, cap, e, _⟩ := r; rw [e] at hv; simp at hv; rw [hv]; rfl
 | .own _, _, _, r, _, _ => r.elim
 | .unit, _, _, r, v, hv => by rw [show _ = _ from r] at hv; simp at hv
 | .pair a b, x, vs, r, v, hv => by
  obtain ⟨u, s, e, r1, r2⟩ := r
  rw [e] at hv
  rcases List.mem_append.1 hv with h | h
  ·exact TRep.one r1 v h
  ·exact TRep.one r2 v h
 | .arr n t, l, vs, r, v, hv => by
  obtain ⟨e1, e2, r⟩ := r
  obtain ⟨k, hk, rfl⟩ := List.getElem_of_mem hv
  have hw : 0 < width t := by
   rcases Nat.eq_zero_or_pos (width t) with h | h
   ·rw [h, Nat.mul_zero] at e2; omega
   ·exact h
  have hi : k / width t < l.length := by rw [e1]; exact Nat.div_lt_of_lt_mul (by rw [Nat.mul_comm]; omega)
  obtain ⟨cs, r1, r2⟩ := r (k / width t) hi
  have hj : k % width t < cs.length := by rw [TRep.length r1]; exact Nat.mod_lt _ hw
  have := r2 (k % width t) _ (List.getElem?_eq_getElem hj)
  rw [Nat.mul_comm, Nat.div_add_mod, List.getElem?_eq_getElem hk] at this
  rw [Option.some.inj this]
  exact TRep.one r1 _ (List.getElem_mem hj)
theorem CRep.one {E : Env} {a : AV} {vs : List Value} (r : CRep E a vs) : ∀ v ∈ vs, v.oneCell' = true := by
 intro v hv
 cases a with
 | top => obtain ⟨v, e, h⟩ := r; rw [e] at hv; simp at hv; rw [hv]; exact h
 | sl t l => exact TRep.one r v hv
 | arr n t l => exact TRep.one (t := .arr n t) r v hv
 | oref id rg =>
  obtain ⟨_, r⟩ := r
  split at r
  ·rw [r.1] at hv; simp at hv; rw [hv]; rfl
  ·obtain ⟨o, cap, e, _⟩ := r; rw [e] at hv; simp at hv; rw [hv]; rfl
 | ptr id off => obtain ⟨_, b, _, e⟩ := r; rw [e] at hv; simp at hv; rw [hv]; rfl
 | ptrA id off n t i sub => obtain ⟨_, _, b, _, e⟩ := r; rw [e] at hv; simp at hv; rw [hv]; rfl
 | ptrO id i sub => obtain ⟨_, _, b, _, e⟩ := r; rw [e] at hv; simp at hv; rw [hv]; rfl
 | ptrR t l i sub => obtain ⟨_, b, o, _, e, _⟩ := r; rw [e] at hv; simp at hv; rw [hv]; rfl
 | bsl id off n t lo len => obtain ⟨_, _, b, o, _, e, _⟩ := r; rw [e] at hv; simp at hv; rw [hv]; rfl
 | func f a b => obtain ⟨A, B, e, _⟩ := r; rw [e] at hv; simp at hv; rw [hv]; rfl
 | mapr id => obtain ⟨_, b, _, e⟩ := r; rw [e] at hv; simp at hv; rw [hv]; rfl
 | cbox c => obtain ⟨b, v, e, h1, _⟩ := r; rw [h1] at hv; simp at hv; rw [hv]; rfl
 | iface t ag cs => obtain ⟨ws, _, x, e, _⟩ := r; rw [e] at hv; simp at hv; rw [hv]; rfl
 | agg cs => exact r.elim
 | tup cs => exact r.elim
 | slv t l => exact TRep.one r.1 v hv
 | _ => rw [show vs = _ from r] at hv; simp at hv; rw [hv]; rfl
theorem CRepL.one {E : Env} : ∀ {l : List AV} {vs : List Value}, CRepL E l vs → ∀ v ∈ vs, v.oneCell' = true
 | [], _, r, v, hv => by rw [show _ = [] from r] at hv; simp at hv
 | a :: l, vs, r, v, hv => by
  obtain ⟨u, s, e, r1, r2⟩ := r
  rw [e] at hv
  rcases List.mem_append.1 hv with h | h
  ·exact CRep.one r1 v h
  ·exact CRepL.one r2 v h
theorem CRepL.app {E : Env} : ∀ {l m : List AV} {us vs : List Value}, CRepL E l us → CRepL E m vs → CRepL E (appA l m) (us ++ vs)
 | [], _, _, _, r, s => by rw [show _ = [] from r]; exact s
 | a :: l, m, us, vs, r, s => by
  obtain ⟨u, t, e, r1, r2⟩ := r
  exact ⟨u, t ++ vs, by rw [e, List.append_assoc], r1, CRepL.app r2 s⟩
theorem bif_some {α : Type} {b : Bool} {x y : Option α} {z : α} (h : (bif b then x else y) = some z) : (b = true ∧ x = some z) ∨ (b = false ∧ y = some z) := by
 cases b
 ·exact .inr ⟨rfl, h⟩
 ·exact .inl ⟨rfl, h⟩
theorem oM_some {α β : Type} {x : Option α} {f : α → β} {z : β} (h : oM x f = some z) : ∃ a, x = some a ∧ f a = z := by
 cases x with
 | none => simp [oM] at h
 | some a => exact ⟨a, rfl, by simpa [oM] using h⟩
theorem oB_some {α β : Type} {x : Option α} {f : α → Option β} {z : β} (h : oB x f = some z) : ∃ a, x = some a ∧ f a = some z := by
 cases x with
 | none => simp [oB] at h
 | some a => exact ⟨a, rfl, by simpa [oB] using h⟩
theorem skip_rep {E : Env} : ∀ {cs : List AV} {vs : List Value} {n : Nat} {r : List AV}, CRepL E cs vs → skipC cs n = some r → n ≤ vs.length ∧ CRepL E r (vs.drop n)
 | [], vs, n, r, h, e => by
  simp only [skipC] at e
  rcases bif_some e with ⟨hb, e⟩ | ⟨_, e⟩
  ·have hn : n = 0 := Nat.eq_of_beq_eq_true hb
   subst hn
   cases e; exact ⟨Nat.zero_le _, h⟩
  ·cases e
 | c :: cs, vs, n, r, h, e => by
  simp only [skipC] at e
  rcases bif_some e with ⟨hb, e⟩ | ⟨hb, e⟩
  ·have hn : n = 0 := Nat.eq_of_beq_eq_true hb
   subst hn
   cases e; exact ⟨Nat.zero_le _, h⟩
  ·rcases bif_some e with ⟨hc, e⟩ | ⟨_, e⟩
   ·have hn : c.w ≤ n := Nat.le_of_ble_eq_true hc
    obtain ⟨u, s, rfl, r1, r2⟩ := h
    obtain ⟨h1, h2⟩ := skip_rep r2 e
    have hl := CRep.length r1
    refine ⟨by rw [List.length_append]; omega, ?_⟩
    rw [List.drop_append, List.drop_eq_nil_of_le (by omega), List.nil_append, hl]; exact h2
   ·cases e
theorem take_rep {E : Env} : ∀ {cs : List AV} {vs : List Value} {n : Nat} {r : List AV}, CRepL E cs vs → takeC cs n = some r → n ≤ vs.length ∧ CRepL E r (vs.take n)
 | [], vs, n, r, h, e => by
  simp only [takeC] at e
  rcases bif_some e with ⟨hb, e⟩ | ⟨_, e⟩
  ·have hn : n = 0 := Nat.eq_of_beq_eq_true hb
   subst hn
   cases e; exact ⟨Nat.zero_le _, by rw [List.take_zero]; rfl⟩
  ·cases e
 | c :: cs, vs, n, r, h, e => by
  simp only [takeC] at e
  rcases bif_some e with ⟨hb, e⟩ | ⟨hb, e⟩
  ·have hn : n = 0 := Nat.eq_of_beq_eq_true hb
   subst hn
   cases e; exact ⟨Nat.zero_le _, by rw [List.take_zero]; rfl⟩
  ·rcases bif_some e with ⟨hc, e⟩ | ⟨_, e⟩
   ·have hn : c.w ≤ n := Nat.le_of_ble_eq_true hc
    obtain ⟨r', e', rfl⟩ := oM_some e
    obtain ⟨u, s, rfl, r1, r2⟩ := h
    obtain ⟨h1, h2⟩ := take_rep r2 e'
    have hl := CRep.length r1
    refine ⟨by rw [List.length_append]; omega, u, s.take (n - c.w), ?_, r1, h2⟩
    rw [List.take_append, List.take_of_length_le (by omega), hl]
   ·cases e
theorem cut_rep {E : Env} {cs : List AV} {vs : List Value} {off n : Nat} {r : List AV} (h : CRepL E cs vs) (e : cut cs off n = some r) :
  off + n ≤ vs.length ∧ CRepL E r ((vs.drop off).take n) := by
 obtain ⟨a, e1, e2⟩ := oB_some e
 obtain ⟨h1, h2⟩ := skip_rep h e1
 obtain ⟨h3, h4⟩ := take_rep h2 e2
 rw [List.length_drop] at h3
 exact ⟨by omega, h4⟩
theorem splice_rep {E : Env} {cs new : List AV} {vs nvs : List Value} {off : Nat} {r : List AV} (h : CRepL E cs vs) (hn : CRepL E new nvs) (e : splice cs off new = some r) :
  off + nvs.length ≤ vs.length ∧ CRepL E r (vs.take off ++ (nvs ++ vs.drop (off + nvs.length))) := by
 obtain ⟨a, e1, e2⟩ := oB_some e
 obtain ⟨b, e3, rfl⟩ := oM_some e2
 obtain ⟨_, h2⟩ := take_rep h e1
 rw [← CRepL.length hn] at e3
 obtain ⟨h3, h4⟩ := skip_rep h e3
 exact ⟨h3, CRepL.app h2 (CRepL.app hn h4)⟩
def mkV (agg : Bool) (vs : List Value) : Value := if agg then .agg vs.toArray else vs.headD undef
theorem valOf_rep {E : Env} {agg : Bool} {cs : List AV} {vs : List Value} {v : AV} (h : CRepL E cs vs) (e : valOf agg cs = some v) : VRep E v (mkV agg vs) := by
  unfold valOf at e
  split at e
  · cases e; exact ⟨vs, rfl, h⟩
  · cases e
  · rename_i c hc
    cases e
    obtain ⟨u, s, rfl, r1, r2⟩ := h
    rw [show s = [] from r2, List.append_nil]
    have hl := CRep.length r1
    cases v <;> first
      | exact (hc _ _ _ rfl).elim
      | exact trivial
      | exact r1.elim
      | (have hl : u.length = 1 := hl
         match u, hl, r1 with
         | [x], _, r1 => exact r1)
  · cases e

theorem enc_rep {E : Env} : ∀ {t : Ty} {x : den t} {vs : List Value}, TRep E t x vs → CRepL E (enc t x) vs
 | .int _, _, vs, r => ⟨vs, [], by simp, r, rfl⟩
 | .bool, _, vs, r => ⟨vs, [], by simp, r, rfl⟩
 | .str, _, vs, r => ⟨vs, [], by simp, r, rfl⟩
 | .sl t, l, vs, r => ⟨vs, [], by simp, r, rfl⟩
 | .own _, _, _, r => r.elim
 | .unit, _, _, r => r
 | .pair a b, x, vs, r => by
  obtain ⟨u, v, rfl, r1, r2⟩ := r
  exact CRepL.app (enc_rep r1) (enc_rep r2)
 | .arr n t, l, vs, r => ⟨vs, [], by simp, r, rfl⟩
theorem litS_rep {E : Env} (v : Value) : litS v = .top ∨ CRep E (litS v) [v] := by
 unfold litS
 split <;> first
  | exact .inl rfl
  | exact .inr rfl
theorem noTop_cons {a : AV} {l : List AV} (h : noTop (a :: l) = true) : a ≠ .top ∧ noTop l = true := by
 cases a <;> first
  | exact ⟨nofun, h⟩
  | exact absurd h (by simp [noTop])
theorem lits_rep {E : Env} : ∀ (vs : List Value), noTop (mapA litS vs) = true → CRepL E (mapA litS vs) vs
 | [], _ => rfl
 | v :: vs, h => by
  obtain ⟨h1, h2⟩ := noTop_cons h
  exact ⟨[v], vs, rfl, (litS_rep v).resolve_left h1, lits_rep vs h2⟩
theorem CRep.toV {E : Env} {a : AV} {v : Value} (r : CRep E a [v]) : a.w = 1 → (∀ n t l, a ≠ .arr n t l) → VRep E a v := by
 intro _ h
 cases a <;> first
  | exact (h _ _ _ rfl).elim
  | exact trivial
  | exact r.elim
  | exact r
theorem litS_V {E : Env} (v : Value) : VRep E (litS v) v := by
 unfold litS
 split <;> first
  | exact trivial
  | exact rfl
theorem lit_rep {E : Env} (v : Value) : VRep E (lit v) v := by
 unfold lit
 split
 ·rename_i cs
  cases h : noTop (mapA litS cs.toList) with
  | true => exact ⟨cs.toList, by simp, lits_rep _ h⟩
  | false => exact trivial
 ·exact litS_V v
theorem VRep.toS {E : Env} {a : AV} {v : Value} (r : VRep E a v) : SRep E a v := by
 cases a <;> first
  | exact r.elim
  | exact r
theorem ev_rep {E : Env} {S : St} {a : Act} (h : Slots E S.tmps a.tmps) (x : Operand) : SRep E (ev S x) (a.eval x) := by
 cases x with
 | tmp t =>
  simp only [ev, Act.eval, Array.getD_eq_getD_getElem?]
  cases hv : a.tmps[t]? with
  | none =>
   have hl : S.tmps.length ≤ t := by rw [h.1]; exact (Array.getElem?_eq_none_iff.1 hv)
   have : ∀ (l : List AV) (t : Nat), l.length ≤ t → getA l t = .top := by
    intro l
    induction l with
    | nil => intro t _; cases t <;> rfl
    | cons a l ih =>
     intro t ht
     cases t with
     | zero => simp at ht
     | succ t => exact ih t (by simpa using ht)
   rw [this _ _ hl]; exact trivial
  | some v => exact h.2 t v hv
 | const v => exact (lit_rep v).toS
 | global g => exact rfl
 | func f => exact ⟨#[], #[], rfl, rfl, rfl⟩
end Go.Rx
namespace Go.Rx
variable [Inhabited GW]
def tdOK : TD → TypeDesc → Prop
 | .bool, d => d = .bool
 | .int k, d => d = .int k
 | .str, d => d = .string
 | .ptr e, d => d = .pointer e
 | .sl e, d => d = .slice e
 | .arr n e, d => d = .array n e
 | .st fs, d => ∃ F : Array Field, d = .struct F ∧ F.toList.map (fun f => (f.offset, f.type)) = fs
 | .map k e, d => d = .map k e
 | .fn, d => ∃ a b c, d = .func a b c
 | .other, d => match d with
  | .struct _ => False
  | .array .. => False
  | _ => True
structure TOK (P : Program) (t : TypeId) (i : TInfo) : Prop where
 und : ∃ d, P.underlying t = some d ∧ tdOK i.td d
 info : ∃ inf, P.info? t = some inf ∧ inf.size = i.size ∧ inf.bytes = i.bytes ∧ ∃ z, inf.zero = some z ∧ (∀ E : Env, CRepL E i.zc z.cells.toList) ∧
  (∀ ty, i.ty = some ty → ∀ E : Env, TRep E ty (dflt ty) z.cells.toList) ∧ (if i.td.isAgg then z = .agg z.cells else z.cells = #[z])
 wd : ∀ ty, i.ty = some ty → width ty = i.size
 eqs : i.eq = true → P.stoodInHeld t = false ∧ P.eqGuardType P.depth t = false ∧ ∀ F, P.underlying t = some (.struct F) → ∀ f ∈ F, f.name ≠ "_"
 fsz : ∀ fs, i.td = .st fs → ∃ places, fs.mapM (fun f => (P.info? f.2).map fun i => (f.1, i.size)) = some places
def TabOK (P : Program) (T : Tab) : Prop := ∀ t i, tget t T = some i → TOK P t i
def VR.gives : VR → AV → Prop
 | .val v, u => v = u
 | .gval b v, u => b = true ∧ v = u
 | .no, _ => False
theorem ofOpt_gives {x : Option AV} {v : AV} (h : (ofOpt x).gives v) : x = some v := by
 cases x with
 | none => exact h.elim
 | some u => exact congrArg some h
theorem gOpt_gives {b : Bool} {x : Option AV} {v : AV} (h : (gOpt b x).gives v) : b = true ∧ x = some v := by
 cases x with
 | none => exact h.elim
 | some u => exact ⟨h.1, congrArg some h.2⟩
section
variable {P : Program} {T : Tab} (hT : TabOK P T) {E : Env} {w : World}
theorem run_und {t : TypeId} {d : TypeDesc} (h : P.underlying t = some d) : (underlying t).run P w = .ok d w := by
 simp [underlying, h]
theorem run_info {t : TypeId} {i : TypeInfo} (h : P.info? t = some i) : (typeInfo t).run P w = .ok i w := by
 simp [typeInfo, h]
theorem run_size {t : TypeId} {i : TypeInfo} (h : P.info? t = some i) : (sizeOf t).run P w = .ok i.size w := by
 simp [sizeOf, run_info h]
def dAgg : TypeDesc → Bool
 | .struct _ => true
 | .array .. => true
 | _ => false
theorem run_isAgg {t : TypeId} {d : TypeDesc} (h : P.underlying t = some d) : (isAgg t).run P w = .ok (dAgg d) w := by
 simp only [isAgg, Sem.run_bind, run_und h, Result.andThen_ok]
 cases d <;> rfl
theorem agg_td {td : TD} {d : TypeDesc} (h : tdOK td d) : dAgg d = td.isAgg := by
 cases td <;> first
  | (rw [show d = _ from h]; rfl)
  | (obtain ⟨F, e, _⟩ := h; rw [e]; rfl)
  | (obtain ⟨_, _, _, e⟩ := h; rw [e]; rfl)
  | (cases d <;> first
    | rfl
    | exact h.elim)
include hT
theorem tab_td {t : TypeId} {td : TD} (h : tdOf T t = some td) : ∃ d, P.underlying t = some d ∧ tdOK td d := by
 unfold tdOf at h
 split at h
 ·rename_i i hi
  cases h
  exact (hT t i hi).und
 ·cases h
theorem tab_size {t : TypeId} {i : TInfo} (h : tget t T = some i) : (sizeOf t).run P w = .ok i.size w := by
 obtain ⟨inf, h1, h2, _⟩ := (hT t i h).info
 rw [← h2]; exact run_size h1
theorem tab_agg {t : TypeId} {i : TInfo} (h : tget t T = some i) : (isAgg t).run P w = .ok i.td.isAgg w := by
 obtain ⟨d, h1, h2⟩ := (hT t i h).und
 rw [← agg_td h2]; exact run_isAgg h1
omit hT
theorem SRep.int_inv {k : IntKind} {n : Int} {x : Value} (h : SRep E (.int k n) x) : x = .int k n := by
 have h : [x] = [Value.int k n] := h
 simpa using h
theorem SRep.bool_inv {b : Bool} {x : Value} (h : SRep E (.bool b) x) : x = .bool b := by
 have h : [x] = [Value.bool b] := h
 simpa using h
theorem SRep.str_inv {s : ByteArray} {x : Value} (h : SRep E (.str s) x) : x = .string s := by
 have h : [x] = [Value.string s] := h
 simpa using h
theorem binI_sound {op : BinOp} {k : IntKind} {a b : Int} {v : AV} (t : TypeId) (h : (binI op k a b).gives v) :
    ∃ x, (binOp op t (.int k a) (.int k b)).run P w = .ok x w ∧ SRep E v x := by
  cases op <;> simp only [binI, VR.gives] at h <;> first
    | exact h.elim
    | (subst h; exact ⟨_, by simp [binOp, Op.intArith, Op.intCmp, Op.intBits, bitsI], rfl⟩)
    | (obtain ⟨hb, rfl⟩ := h
       have hb : ¬ b = 0 := by simpa using hb
       exact ⟨_, by simp [binOp, Op.intDiv, hb], rfl⟩)

theorem guard_int {op : BinOp} {t : TypeId} {p q : Operand} {k k' : IntKind} {a b : Int} : (eqGuard op t p q (.int k a) (.int k' b)).run P w = .ok () w := by
 cases op <;> rfl
theorem guard_str {op : BinOp} {t : TypeId} {p q : Operand} {a b : ByteArray} : (eqGuard op t p q (.string a) (.string b)).run P w = .ok () w := by
 cases op <;> rfl
theorem guard_bool {op : BinOp} {t : TypeId} {p q : Operand} {a b : Bool} : (eqGuard op t p q (.bool a) (.bool b)).run P w = .ok () w := by
 cases op <;> rfl
theorem equalIn_bool {t : TypeId} (hu : P.underlying t = some .bool) {a b : Bool} (d : Nat) : (Op.equalIn (d + 1) t (.bool a) (.bool b)).run P w = .ok (a == b) w := by
 simp only [Op.equalIn, Sem.run_bind, run_und hu, Result.andThen_ok]
 rfl
theorem equal_bool {t : TypeId} (hu : P.underlying t = some .bool) {a b : Bool} : (Op.equal t (.bool a) (.bool b)).run P w = .ok (a == b) w :=
 equalIn_bool hu 9999
theorem guard_slice {op : BinOp} {t : TypeId} {p q : Operand} {a a' : Option Addr} {n n' c c' : Nat} : (eqGuard op t p q (.slice a n c) (.slice a' n' c')).run P w = .ok () w := by
 cases op <;> rfl
theorem equalIn_fn {t : TypeId} {a b c} (hu : P.underlying t = some (.func a b c)) (f A B) (d : Nat) : (Op.equalIn (d + 1) t (.func f A B) .nilFunc).run P w = .ok false w := by
 simp only [Op.equalIn, Sem.run_bind, run_und hu, Result.andThen_ok]
 rfl
theorem equal_fn {t : TypeId} {a b c} (hu : P.underlying t = some (.func a b c)) (f A B) : (Op.equal t (.func f A B) .nilFunc).run P w = .ok false w := equalIn_fn hu f A B 9999
theorem equalIn_nilf {t : TypeId} {a b c} (hu : P.underlying t = some (.func a b c)) (d : Nat) : (Op.equalIn (d + 1) t .nilFunc .nilFunc).run P w = .ok true w := by
 simp only [Op.equalIn, Sem.run_bind, run_und hu, Result.andThen_ok]
 rfl
theorem equal_nilf {t : TypeId} {a b c} (hu : P.underlying t = some (.func a b c)) : (Op.equal t .nilFunc .nilFunc).run P w = .ok true w := equalIn_nilf hu 9999
theorem guard_fn (op : BinOp) (t : TypeId) (p q : Operand) (f A B) : (eqGuard op t p q (.func f A B) .nilFunc).run P w = .ok () w := by
 cases op <;> rfl
theorem guard_nilf (op : BinOp) (t : TypeId) (p q : Operand) : (eqGuard op t p q .nilFunc .nilFunc).run P w = .ok () w := by
 cases op <;> rfl
theorem equalIn_slice {t e : TypeId} (hu : P.underlying t = some (.slice e)) {a : Option Addr} {n c : Nat} (d : Nat) : (Op.equalIn (d + 1) t (.slice a n c) (.slice none 0 0)).run P w = .ok a.isNone w := by
 simp only [Op.equalIn, Sem.run_bind, run_und hu, Result.andThen_ok]
 cases a <;> rfl
theorem equal_slice {t e : TypeId} (hu : P.underlying t = some (.slice e)) {a : Option Addr} {n c : Nat} : (Op.equal t (.slice a n c) (.slice none 0 0)).run P w = .ok a.isNone w :=
 equalIn_slice hu 9999
include hT
theorem slT_und {t : TypeId} (h : isSlT T t = true) : ∃ e, P.underlying t = some (.slice e) := by
 unfold isSlT at h
 split at h
 ·rename_i i hi
  split at h
  ·rename_i e htd
   obtain ⟨d, h1, h2⟩ := (hT t i hi).und
   rw [htd] at h2
   exact ⟨e, by rw [h1, show d = .slice e from h2]⟩
  ·cases h
 ·cases h
theorem fnT_und {t : TypeId} (h : isFnT T t = true) : ∃ a b c, P.underlying t = some (.func a b c) := by
 unfold isFnT at h
 split at h
 ·rename_i i hi
  split at h
  ·rename_i htd
   obtain ⟨d, h1, h2⟩ := (hT t i hi).und
   rw [htd] at h2
   obtain ⟨a, b, c, h2⟩ := h2
   exact ⟨a, b, c, by rw [h1, h2]⟩
  ·cases h
 ·cases h
def AggEq (P : Program) (T : Tab) (E : Env) (w : World) (t : TypeId) : Prop :=
 ∀ xs ys b, eqAgg T t xs ys = some b → ∀ us vs : List Value, CRepL E xs us → CRepL E ys vs →
  P.eqGuardType P.depth t = false ∧ (Op.equal t (.agg us.toArray) (.agg vs.toArray)).run P w = .ok b w
theorem binV_sound {t : TypeId} {op : BinOp} {a b v : AV} {x y : Value} (hagg : AggEq P T E w t) (h : (binV T t op a b).gives v) (hx : SRep E a x) (hy : SRep E b y) (p q : Operand) :
  ∃ z, (do eqGuard op t p q x y; binOp op t x y : Sem Value).run P w = .ok z w ∧ SRep E v z := by
 unfold binV at h
 split at h
 ·rename_i k a yk b
  obtain ⟨hb, rfl⟩ := h
  rw [hx.int_inv, hy.int_inv]
  replace hb := of_decide_eq_true hb
  refine ⟨.int k (shlI k a b), ?_, rfl⟩
  rw [Sem.run_bind, guard_int, Result.andThen_ok]
  simp [binOp, Op.shift, Int.not_lt.2 hb, shlI]
 ·rename_i k a yk b
  obtain ⟨hb, rfl⟩ := h
  rw [hx.int_inv, hy.int_inv]
  replace hb := of_decide_eq_true hb
  refine ⟨.int k (shrI k a b), ?_, rfl⟩
  rw [Sem.run_bind, guard_int, Result.andThen_ok]
  simp [binOp, Op.shift, Int.not_lt.2 hb, shrI]
 ·split at h
  ·rename_i hk
   subst hk
   rw [hx.int_inv, hy.int_inv, Sem.run_bind, guard_int, Result.andThen_ok]
   exact binI_sound t h
  ·exact h.elim
 ·rename_i a b
  obtain ⟨hb, rfl⟩ := h
  replace hb := of_decide_eq_true hb
  rw [hx.str_inv, hy.str_inv, Sem.run_bind, guard_str, Result.andThen_ok]
  refine ⟨.string (a ++ b), ?_, rfl⟩
  have : ¬ ((a.size + b.size : Nat) : Int) > IntKind.i64.max := by omega
  simp only [binOp, Op.stringOp, if_neg this]
  rfl
 ·cases h
  rw [hx.str_inv, hy.str_inv, Sem.run_bind, guard_str, Result.andThen_ok]
  exact ⟨_, rfl, rfl⟩
 ·cases h
  rw [hx.str_inv, hy.str_inv, Sem.run_bind, guard_str, Result.andThen_ok]
  exact ⟨_, rfl, rfl⟩
 ·cases hB : isBoolT T t with
  | false => rw [hB] at h; exact h.elim
  | true =>
   rw [hB] at h
   cases h
   have hu : P.underlying t = some .bool := by
    unfold isBoolT at hB
    split at hB
    ·rename_i i hi
     split at hB
     ·rename_i htd
      obtain ⟨d, h1, h2⟩ := (hT t i hi).und
      rw [htd] at h2
      rw [h1, show d = .bool from h2]
     ·cases hB
    ·cases hB
   rw [hx.bool_inv, hy.bool_inv, Sem.run_bind, guard_bool, Result.andThen_ok]
   rename_i a b
   refine ⟨_, ?_, rfl⟩
   first
    | (change (do pure (Value.bool (← Op.equal t (.bool a) (.bool b))) : Sem Value).run P w = _; rw [Sem.run_bind, equal_bool hu]; rfl)
    | (change (do pure (Value.bool (!(← Op.equal t (.bool a) (.bool b)))) : Sem Value).run P w = _; rw [Sem.run_bind, equal_bool hu]; rfl)
 ·cases hB : isBoolT T t with
  | false => rw [hB] at h; exact h.elim
  | true =>
   rw [hB] at h
   cases h
   have hu : P.underlying t = some .bool := by
    unfold isBoolT at hB
    split at hB
    ·rename_i i hi
     split at hB
     ·rename_i htd
      obtain ⟨d, h1, h2⟩ := (hT t i hi).und
      rw [htd] at h2
      rw [h1, show d = .bool from h2]
     ·cases hB
    ·cases hB
   rw [hx.bool_inv, hy.bool_inv, Sem.run_bind, guard_bool, Result.andThen_ok]
   rename_i a b
   refine ⟨_, ?_, rfl⟩
   first
    | (change (do pure (Value.bool (← Op.equal t (.bool a) (.bool b))) : Sem Value).run P w = _; rw [Sem.run_bind, equal_bool hu]; rfl)
    | (change (do pure (Value.bool (!(← Op.equal t (.bool a) (.bool b)))) : Sem Value).run P w = _; rw [Sem.run_bind, equal_bool hu]; rfl)
 ·cases hB : isSlT T t with
  | false => rw [hB] at h; exact h.elim
  | true =>
   rw [hB] at h
   cases h
   obtain ⟨e, hu⟩ := slT_und hT hB
   obtain ⟨_, a, n, c, e1⟩ := (show CRep E (.slv _ _) [x] from hx)
   have e2 : [y] = [Value.slice none 0 0] := hy
   cases e1; cases e2
   rw [Sem.run_bind, guard_slice, Result.andThen_ok]
   refine ⟨_, ?_, rfl⟩
   change (do pure (Value.bool (← Op.equal t (.slice (some a) n c) (.slice none 0 0))) : Sem Value).run P w = _
   rw [Sem.run_bind, equal_slice hu]; rfl
 ·cases hB : isSlT T t with
  | false => rw [hB] at h; exact h.elim
  | true =>
   rw [hB] at h
   cases h
   obtain ⟨e, hu⟩ := slT_und hT hB
   obtain ⟨_, a, n, c, e1⟩ := (show CRep E (.slv _ _) [x] from hx)
   have e2 : [y] = [Value.slice none 0 0] := hy
   cases e1; cases e2
   rw [Sem.run_bind, guard_slice, Result.andThen_ok]
   refine ⟨_, ?_, rfl⟩
   change (do pure (Value.bool (!(← Op.equal t (.slice (some a) n c) (.slice none 0 0)))) : Sem Value).run P w = _
   rw [Sem.run_bind, equal_slice hu]; rfl
 ·cases hB : isSlT T t with
  | false => rw [hB] at h; exact h.elim
  | true =>
   rw [hB] at h
   cases h
   obtain ⟨e, hu⟩ := slT_und hT hB
   have e1 : [x] = [Value.slice none 0 0] := hx
   have e2 : [y] = [Value.slice none 0 0] := hy
   cases e1; cases e2
   rw [Sem.run_bind, guard_slice, Result.andThen_ok]
   refine ⟨_, ?_, rfl⟩
   change (do pure (Value.bool (← Op.equal t (.slice none 0 0) (.slice none 0 0))) : Sem Value).run P w = _
   rw [Sem.run_bind, equal_slice hu]; rfl
 ·cases hB : isSlT T t with
  | false => rw [hB] at h; exact h.elim
  | true =>
   rw [hB] at h
   cases h
   obtain ⟨e, hu⟩ := slT_und hT hB
   have e1 : [x] = [Value.slice none 0 0] := hx
   have e2 : [y] = [Value.slice none 0 0] := hy
   cases e1; cases e2
   rw [Sem.run_bind, guard_slice, Result.andThen_ok]
   refine ⟨_, ?_, rfl⟩
   change (do pure (Value.bool (!(← Op.equal t (.slice none 0 0) (.slice none 0 0)))) : Sem Value).run P w = _
   rw [Sem.run_bind, equal_slice hu]; rfl
 ·cases hB : isFnT T t with
  | false => rw [hB] at h; exact h.elim
  | true =>
   rw [hB] at h
   cases h
   obtain ⟨a, b, c, hu⟩ := fnT_und hT hB
   obtain ⟨A, B, e1, _⟩ := (show CRep E (.func _ _ _) [x] from hx)
   have e2 : [y] = [Value.nilFunc] := hy
   cases e1; cases e2
   rw [Sem.run_bind, guard_fn, Result.andThen_ok]
   refine ⟨_, ?_, rfl⟩
   change (do pure (Value.bool (← Op.equal t (.func (.func _) A B) .nilFunc)) : Sem Value).run P w = _
   rw [Sem.run_bind, equal_fn hu]; rfl
 ·cases hB : isFnT T t with
  | false => rw [hB] at h; exact h.elim
  | true =>
   rw [hB] at h
   cases h
   obtain ⟨a, b, c, hu⟩ := fnT_und hT hB
   obtain ⟨A, B, e1, _⟩ := (show CRep E (.func _ _ _) [x] from hx)
   have e2 : [y] = [Value.nilFunc] := hy
   cases e1; cases e2
   rw [Sem.run_bind, guard_fn, Result.andThen_ok]
   refine ⟨_, ?_, rfl⟩
   change (do pure (Value.bool (!(← Op.equal t (.func (.func _) A B) .nilFunc))) : Sem Value).run P w = _
   rw [Sem.run_bind, equal_fn hu]; rfl
 ·cases hB : isFnT T t with
  | false => rw [hB] at h; exact h.elim
  | true =>
   rw [hB] at h
   cases h
   obtain ⟨a, b, c, hu⟩ := fnT_und hT hB
   have e1 : [x] = [Value.nilFunc] := hx
   have e2 : [y] = [Value.nilFunc] := hy
   cases e1; cases e2
   rw [Sem.run_bind, guard_nilf, Result.andThen_ok]
   refine ⟨_, ?_, rfl⟩
   change (do pure (Value.bool (← Op.equal t .nilFunc .nilFunc)) : Sem Value).run P w = _
   rw [Sem.run_bind, equal_nilf hu]; rfl
 ·cases hB : isFnT T t with
  | false => rw [hB] at h; exact h.elim
  | true =>
   rw [hB] at h
   cases h
   obtain ⟨a, b, c, hu⟩ := fnT_und hT hB
   have e1 : [x] = [Value.nilFunc] := hx
   have e2 : [y] = [Value.nilFunc] := hy
   cases e1; cases e2
   rw [Sem.run_bind, guard_nilf, Result.andThen_ok]
   refine ⟨_, ?_, rfl⟩
   change (do pure (Value.bool (!(← Op.equal t .nilFunc .nilFunc))) : Sem Value).run P w = _
   rw [Sem.run_bind, equal_nilf hu]; rfl
 ·rename_i xs ys
  obtain ⟨r, hr, rfl⟩ := oM_some (ofOpt_gives h)
  obtain ⟨us, rfl, r1⟩ := hx
  obtain ⟨vs, rfl, r2⟩ := hy
  obtain ⟨h1, h2⟩ := hagg _ _ _ hr _ _ r1 r2
  refine ⟨.bool r, ?_, rfl⟩
  rw [Sem.run_bind, show (eqGuard .eql t p q (.agg us.toArray) (.agg vs.toArray)).run P w = .ok () w by simp [eqGuard, h1], Result.andThen_ok]
  change (do pure (Value.bool (← Op.equal t (.agg us.toArray) (.agg vs.toArray))) : Sem Value).run P w = _
  rw [Sem.run_bind, h2]; rfl
 ·rename_i xs ys
  obtain ⟨r, hr, rfl⟩ := oM_some (ofOpt_gives h)
  obtain ⟨us, rfl, r1⟩ := hx
  obtain ⟨vs, rfl, r2⟩ := hy
  obtain ⟨h1, h2⟩ := hagg _ _ _ hr _ _ r1 r2
  refine ⟨.bool (!r), ?_, rfl⟩
  rw [Sem.run_bind, show (eqGuard .neq t p q (.agg us.toArray) (.agg vs.toArray)).run P w = .ok () w by simp [eqGuard, h1], Result.andThen_ok]
  change (do pure (Value.bool (!(← Op.equal t (.agg us.toArray) (.agg vs.toArray)))) : Sem Value).run P w = _
  rw [Sem.run_bind, h2]; rfl
 ·exact h.elim
omit hT
theorem unV_sound {op : UnOp} {a v : AV} {x : Value} (h : (unV op a).gives v) (hx : SRep E a x) : ∃ z, (Op.unary op x).run P w = .ok z w ∧ SRep E v z := by
 unfold unV at h
 split at h
 ·cases h; rw [hx.int_inv]; exact ⟨_, rfl, rfl⟩
 ·cases h; rw [hx.int_inv]; exact ⟨_, rfl, rfl⟩
 ·cases h; rw [hx.bool_inv]; exact ⟨_, rfl, rfl⟩
 ·exact h.elim
theorem pickB_sound {c : Bool} {a b v : AV} {y z : Value} (h : (pickB c a b).gives v) (ha : SRep E a y) (hb : SRep E b z) : SRep E v (if c then y else z) := by
 unfold pickB at h
 split at h
 ·cases h
  rw [ha.bool_inv, hb.bool_inv]
  cases c <;> rfl
 ·split at h
  ·rename_i hk
   subst hk
   cases h
   rw [ha.int_inv, hb.int_inv]
   cases c <;> rfl
  ·exact h.elim
 ·cases c
  ·cases h; exact hb
  ·cases h; exact ha
theorem pickV_sound {c a b v : AV} {x y z : Value} (h : (pickV c a b).gives v) (hc : SRep E c x) (ha : SRep E a y) (hb : SRep E b z) :
  ∃ u, (do pure (if ← asBool x then y else z) : Sem Value).run P w = .ok u w ∧ SRep E v u := by
 unfold pickV at h
 split at h
 ·rename_i c
  rw [hc.bool_inv]
  exact ⟨if c then y else z, rfl, pickB_sound h ha hb⟩
 ·exact h.elim
end
end Go.Rx
namespace Go.Rx
variable [Inhabited GW]
def eqFs : List (Nat × TypeId) → List Field → Bool
 | [], [] => true
 | (o, t) :: l, f :: m => Nat.beq f.offset o && Nat.beq f.type t && eqFs l m
 | _, _ => false
theorem eqFs_sound : ∀ {l : List (Nat × TypeId)} {m : List Field}, eqFs l m = true → m.map (fun f => (f.offset, f.type)) = l
 | [], [], _ => rfl
 | (o, t) :: l, f :: m, h => by
  simp only [eqFs, Bool.and_eq_true] at h
  rw [List.map_cons, eqFs_sound h.2, Nat.eq_of_beq_eq_true h.1.1, Nat.eq_of_beq_eq_true h.1.2]
 | [], _ :: _, h => nomatch h
 | _ :: _, [], h => nomatch h
def eqTD : TD → TypeDesc → Bool
 | .bool, .bool => true
 | .int k, .int k' => decide (k' = k)
 | .str, .string => true
 | .ptr e, .pointer e' => Nat.beq e' e
 | .sl e, .slice e' => Nat.beq e' e
 | .arr n e, .array n' e' => Nat.beq n' n && Nat.beq e' e
 | .st fs, .struct F => eqFs fs F.toList
 | .map k e, .map k' e' => Nat.beq k' k && Nat.beq e' e
 | .fn, .func .. => true
 | .other, .struct _ => false
 | .other, .array .. => false
 | .other, _ => true
 | _, _ => false
theorem eqTD_sound {td : TD} {d : TypeDesc} (h : eqTD td d = true) : tdOK td d := by
 cases td <;> cases d <;> first
  | (cases h; done)
  | rfl
  | exact True.intro
  | (simp only [eqTD] at h; rw [of_decide_eq_true h]; rfl)
  | (simp only [eqTD] at h; rw [Nat.eq_of_beq_eq_true h]; rfl)
  | (simp only [eqTD, Bool.and_eq_true] at h; rw [Nat.eq_of_beq_eq_true h.1, Nat.eq_of_beq_eq_true h.2]; rfl)
  | exact ⟨_, rfl, eqFs_sound h⟩
  | exact ⟨_, _, _, rfl⟩
def eqZ : Value → Value → Bool
 | .int k n, .int k' n' => decide (k = k') && decide (n = n')
 | .bool b, .bool b' => b == b'
 | .string s, .string s' => Nat.beq s.size 0 && Nat.beq s'.size 0
 | .slice none 0 0, .slice none 0 0 => true
 | .pointer none, .pointer none => true
 | .nilFunc, .nilFunc => true
 | .nilIface, .nilIface => true
 | .map none, .map none => true
 | _, _ => false
theorem empty_of {s : ByteArray} (h : Nat.beq s.size 0 = true) : s = ByteArray.empty := by
 have h := Nat.eq_of_beq_eq_true h
 cases s with
 | mk d => exact congrArg ByteArray.mk (Array.eq_empty_of_size_eq_zero h)
theorem eqZ_sound {v w : Value} (h : eqZ v w = true) : v = w := by
 unfold eqZ at h
 split at h <;> first
  | rfl
  | (cases h; done)
  | (simp only [Bool.and_eq_true, decide_eq_true_eq] at h; rw [h.1, h.2])
  | (simp only [beq_iff_eq] at h; rw [h])
  | (simp only [Bool.and_eq_true] at h; rw [empty_of h.1, empty_of h.2])
def eqZs : List Value → List Value → Bool
 | [], [] => true
 | v :: l, w :: m => eqZ v w && eqZs l m
 | _, _ => false
theorem eqZs_sound : ∀ {l m : List Value}, eqZs l m = true → l = m
 | [], [], _ => rfl
 | v :: l, w :: m, h => by
  simp only [eqZs, Bool.and_eq_true] at h
  rw [eqZ_sound h.1, eqZs_sound h.2]
 | [], _ :: _, h => nomatch h
 | _ :: _, [], h => nomatch h
def repL {α : Type} (l : List α) : Nat → List α
 | 0 => []
 | n + 1 => l ++ repL l n
theorem repL_len {α : Type} (l : List α) : ∀ n, (repL l n).length = n * l.length
 | 0 => by simp [repL]
 | n + 1 => by simp only [repL, List.length_append, repL_len l n, Nat.succ_mul]; omega
theorem repL_get {α : Type} (l : List α) {j : Nat} {v : α} (h : l[j]? = some v) : ∀ (n i : Nat), i < n → (repL l n)[i * l.length + j]? = some v
 | n + 1, 0, _ => by
  have hj : j < l.length := (List.getElem?_eq_some_iff.1 h).1
  rw [repL, Nat.zero_mul, Nat.zero_add, List.getElem?_append_left hj, h]
 | n + 1, i + 1, hi => by
  rw [repL, List.getElem?_append_right (by rw [Nat.succ_mul]; omega), show (i + 1) * l.length + j - l.length = i * l.length + j from by rw [Nat.succ_mul]; omega]
  exact repL_get l h n i (Nat.lt_of_succ_lt_succ hi)
def zeroT : Ty → Option (List Value)
 | .int k => some [.int k 0]
 | .bool => some [.bool false]
 | .str => some [.string ByteArray.empty]
 | .sl _ => some [.slice none 0 0]
 | .own _ => none
 | .unit => some []
 | .pair a b => match zeroT a, zeroT b with
  | some u, some v => some (u ++ v)
  | _, _ => none
 | .arr n t => match zeroT t with
  | some u => some (repL u n)
  | none => none
theorem zeroT_len : ∀ {t : Ty} {vs : List Value}, zeroT t = some vs → vs.length = width t
 | .int _, _, h => by cases h; rfl
 | .bool, _, h => by cases h; rfl
 | .str, _, h => by cases h; rfl
 | .sl _, _, h => by cases h; rfl
 | .own _, _, h => nomatch h
 | .unit, _, h => by cases h; rfl
 | .pair a b, vs, h => by
  simp only [zeroT] at h
  split at h
  ·rename_i u v h1 h2
   cases h
   rw [List.length_append, zeroT_len h1, zeroT_len h2]; rfl
  ·cases h
 | .arr n t, vs, h => by
  simp only [zeroT] at h
  split at h
  ·rename_i u h1
   cases h
   rw [repL_len, zeroT_len h1]; rfl
  ·cases h
theorem zeroT_rep {E : Env} : ∀ {t : Ty} {vs : List Value}, zeroT t = some vs → TRep E t (dflt t) vs
 | .int _, _, h => by cases h; exact rfl
 | .bool, _, h => by cases h; exact rfl
 | .str, _, h => by cases h; exact rfl
 | .sl _, _, h => by cases h; exact ⟨none, 0, rfl, ⟨Nat.le_refl _, fun _ => rfl⟩, .inl rfl⟩
 | .own _, _, h => nomatch h
 | .unit, _, h => by cases h; exact rfl
 | .pair a b, vs, h => by
  simp only [zeroT] at h
  split at h
  ·rename_i u v h1 h2
   cases h
   exact ⟨u, v, rfl, zeroT_rep h1, zeroT_rep h2⟩
  ·cases h
 | .arr n t, vs, h => by
  simp only [zeroT] at h
  split at h
  ·rename_i u h1
   cases h
   have hl := zeroT_len h1
   refine ⟨List.length_replicate, by rw [repL_len, hl], fun i hi => ⟨u, ?_, fun j v hj => ?_⟩⟩
   ·have : (dflt (.arr n t))[i] = dflt t := List.getElem_replicate ..
    rw [this]
    exact zeroT_rep h1
   ·rw [← hl]
    exact repL_get u hj n i (by rw [show (dflt (.arr n t)).length = n from List.length_replicate] at hi; exact hi)
  ·cases h
def eqD : (t : Ty) → den t → den t → Bool
 | .int _, x, y => decide (x = y)
 | .bool, x, y => x == y
 | .str, x, y => Nat.beq x.size 0 && Nat.beq y.size 0
 | .sl t, x, y => go (eqD t) x y
 | .own _, _, _ => false
 | .unit, _, _ => true
 | .pair a b, x, y => eqD a x.1 y.1 && eqD b x.2 y.2
 | .arr _ t, x, y => go (eqD t) x y
where
 go {α : Type} (f : α → α → Bool) : List α → List α → Bool
  | [], [] => true
  | a :: l, b :: m => f a b && go f l m
  | _, _ => false
theorem eqD_go {α : Type} {f : α → α → Bool} (hf : ∀ a b, f a b = true → a = b) : ∀ {l m : List α}, eqD.go f l m = true → l = m
 | [], [], _ => rfl
 | a :: l, b :: m, h => by
  simp only [eqD.go, Bool.and_eq_true] at h
  rw [hf _ _ h.1, eqD_go hf h.2]
 | [], _ :: _, h => nomatch h
 | _ :: _, [], h => nomatch h
theorem eqD_sound : ∀ (t : Ty) (x y : den t), eqD t x y = true → x = y
 | .int _, _, _, h => of_decide_eq_true h
 | .bool, _, _, h => beq_iff_eq.1 h
 | .str, x, y, h => by
  simp only [eqD, Bool.and_eq_true] at h
  rw [empty_of h.1, empty_of h.2]
 | .sl t, _, _, h => eqD_go (eqD_sound t) h
 | .own _, _, _, h => nomatch h
 | .unit, _, _, _ => rfl
 | .pair a b, x, y, h => by
  simp only [eqD, Bool.and_eq_true] at h
  exact Prod.ext (eqD_sound a _ _ h.1) (eqD_sound b _ _ h.2)
 | .arr _ t, _, _, h => eqD_go (eqD_sound t) h
def zeroA : AV → Option (List Value)
 | .int k n => some [.int k n]
 | .bool b => some [.bool b]
 | .str s => some [.string s]
 | .nilsl => some [.slice none 0 0]
 | .nilp => some [.pointer none]
 | .nilf => some [.nilFunc]
 | .nilm => some [.map none]
 | .nili => some [.nilIface]
 | .arr n t l => bif eqD (.arr n t) l (dflt (.arr n t)) then zeroT (.arr n t) else none
 | _ => none
theorem zeroA_rep {E : Env} : ∀ {a : AV} {vs : List Value}, zeroA a = some vs → CRep E a vs := by
 intro a vs h
 cases a <;> first
  | (cases h; exact rfl)
  | (cases h; done)
  | skip
 rename_i n t l
 simp only [zeroA, cond_eq_ite] at h
 split at h
 ·rename_i he
  rw [eqD_sound _ _ _ he]
  exact zeroT_rep h
 ·cases h
def zeroAs : List AV → Option (List Value)
 | [] => some []
 | a :: l => match zeroA a, zeroAs l with
  | some u, some v => some (u ++ v)
  | _, _ => none
theorem zeroAs_rep {E : Env} : ∀ {l : List AV} {vs : List Value}, zeroAs l = some vs → CRepL E l vs
 | [], _, h => by cases h; exact rfl
 | a :: l, vs, h => by
  simp only [zeroAs] at h
  split at h
  ·rename_i u v h1 h2
   cases h
   exact ⟨u, v, rfl, zeroA_rep h1, zeroAs_rep h2⟩
  ·cases h
def allInfo (P : Program) : List (Nat × TypeId) → Bool
 | [] => true
 | f :: l => (P.info? f.2).isSome && allInfo P l
theorem allInfo_sound {P : Program} : ∀ {fs : List (Nat × TypeId)}, allInfo P fs = true → ∃ places, fs.mapM (fun f => (P.info? f.2).map fun i => (f.1, i.size)) = some places
 | [], _ => ⟨[], rfl⟩
 | f :: l, h => by
  simp only [allInfo, Bool.and_eq_true] at h
  obtain ⟨places, hp⟩ := allInfo_sound h.2
  obtain ⟨i, hi⟩ := Option.isSome_iff_exists.1 h.1
  refine ⟨(f.1, i.size) :: places, ?_⟩
  rw [List.mapM_cons, hi, hp]; rfl
def eqO (x : Option (List Value)) (vs : List Value) : Bool :=
 match x with
 | some u => eqZs u vs
 | none => false
theorem eqO_sound {x : Option (List Value)} {vs : List Value} (h : eqO x vs = true) : x = some vs := by
 cases x with
 | none => exact nomatch h
 | some u => exact congrArg some (eqZs_sound h)
def shapeZ (agg : Bool) : Value → Bool
 | .agg _ => agg
 | _ => !agg
theorem shapeZ_sound {agg : Bool} {z : Value} (h : shapeZ agg z = true) : if agg then z = .agg z.cells else z.cells = #[z] := by
 cases agg <;> cases z <;> first
  | rfl
  | exact nomatch h
def chkT (P : Program) (t : TypeId) (i : TInfo) : Bool :=
  (match P.underlying t with
   | some d => eqTD i.td d
   | none => false) &&
  (match P.info? t with
   | some inf => Nat.beq inf.size i.size && Nat.beq inf.bytes i.bytes && (match inf.zero with
     | some z => eqO (zeroAs i.zc) z.cells.toList && (match i.ty with
       | some ty => eqO (zeroT ty) z.cells.toList && Nat.beq (width ty) i.size
       | none => true) && shapeZ i.td.isAgg z
     | none => false)
   | none => false) &&
  (match i.td with
   | .st fs => allInfo P fs
   | _ => true) &&
  (bif i.eq then (!P.stoodInHeld t && !P.eqGuardType P.depth t && (match P.underlying t with
     | some (.struct F) => F.toList.all fun f => f.name != "_"
     | _ => true)) else true)
theorem chkT_sound {P : Program} {t : TypeId} {i : TInfo} (h : chkT P t i = true) : TOK P t i := by
 simp only [chkT, Bool.and_eq_true] at h
 obtain ⟨⟨⟨h1, h2⟩, h3⟩, h9⟩ := h
 split at h1
 ·rename_i d hd
  split at h2
  ·rename_i inf hi
   simp only [Bool.and_eq_true] at h2
   obtain ⟨⟨h4, h5⟩, h6⟩ := h2
   split at h6
   ·rename_i z hz
    simp only [Bool.and_eq_true] at h6
    obtain ⟨⟨h7, h8⟩, h11⟩ := h6
    refine ⟨⟨d, hd, eqTD_sound h1⟩, ⟨inf, hi, Nat.eq_of_beq_eq_true h4, Nat.eq_of_beq_eq_true h5, z, hz, fun E => zeroAs_rep (eqO_sound h7), fun ty hty E => ?_, shapeZ_sound h11⟩, fun ty hty => ?_, fun he => ?_, fun fs hfs => ?_⟩
    ·rw [hty] at h8
     simp only [Bool.and_eq_true] at h8
     exact zeroT_rep (eqO_sound h8.1)
    ·rw [hty] at h8
     simp only [Bool.and_eq_true] at h8
     exact Nat.eq_of_beq_eq_true h8.2
    ·rw [he] at h9
     simp only [cond_true, Bool.and_eq_true, Bool.not_eq_true'] at h9
     refine ⟨h9.1.1, h9.1.2, fun F hF f hf => ?_⟩
     have h10 := h9.2
     rw [hF] at h10
     have := List.all_eq_true.1 h10 f (Array.mem_toList_iff.2 hf)
     simpa using this
    ·rw [hfs] at h3
     exact allInfo_sound h3
   ·cases h6
  ·cases h2
 ·cases h1
def chkTab (P : Program) : Tab → Bool
 | [] => true
 | (t, i) :: l => chkT P t i && chkTab P l
theorem chkTab_sound {P : Program} : ∀ {T : Tab}, chkTab P T = true → TabOK P T
 | [], _ => fun t i h => nomatch h
 | (t, i) :: l, h => by
  simp only [chkTab, Bool.and_eq_true] at h
  intro t' i' h'
  simp only [tget, cond_eq_ite] at h'
  split at h'
  ·rename_i he
   cases h'
   rw [← Nat.eq_of_beq_eq_true he]
   exact chkT_sound h.1
  ·exact chkTab_sound h.2 t' i' h'
end Go.Rx
namespace Go.Rx
variable [Inhabited GW]
theorem addr_add (b o j : Nat) : (⟨b, o, none⟩ : Addr).add j = ⟨b, o + j, none⟩ := by
 unfold Addr.add
 split
 ·rename_i h; subst h; rfl
 ·rfl
def At (w : World) (b o : Nat) (vs : List Value) : Prop := ∀ j v, vs[j]? = some v → w.cell? ⟨b, o + j, none⟩ = some v
theorem At.cut {w : World} {b o : Nat} {vs : List Value} (h : At w b o vs) (off n : Nat) : At w b (o + off) ((vs.drop off).take n) := fun j v e => by
 rw [List.getElem?_take] at e
 split at e
 ·rw [List.getElem?_drop] at e
  rw [Nat.add_assoc]; exact h _ _ e
 ·cases e
theorem At.of_row {w : World} {b : Nat} {vs : Array Value} {e : TypeId} {fz : Nat × Nat} (h : w.heap[b]? = some (.cells vs e fz)) : At w b 0 vs.toList := fun j v hj => by
 rw [Nat.zero_add, cell_of_row w b j vs e fz h]
 simpa using hj
section
variable {P : Program} {T : Tab} (hT : TabOK P T) {E : Env} {w : World}
theorem valOf_one {agg : Bool} {cs : List AV} {vs : List Value} {v : AV} (h : CRepL E cs vs) (e : valOf agg cs = some v) : agg = true ∨ vs.length = 1 := by
 unfold valOf at e
 split at e
 ·exact .inl rfl
 ·cases e
 ·rename_i c hc
  right
  obtain ⟨u, s, rfl, r1, r2⟩ := h
  rw [show s = [] from r2, List.append_nil, CRep.length r1]
  cases c <;> first
   | rfl
   | exact (hc _ _ _ rfl).elim
 ·cases e
include hT
theorem run_loadVar {t : TypeId} {i : TInfo} (hi : tget t T = some i) {b off : Nat} {vs : List Value} (hl : vs.length = i.size) (hc : At w b off vs) (h1 : i.td.isAgg = true ∨ vs.length = 1) :
  (loadVar t ⟨b, off, none⟩).run P w = .ok (mkV i.td.isAgg vs) w := by
 simp only [loadVar, Sem.run_bind, tab_agg hT hi, Result.andThen_ok]
 cases ha : i.td.isAgg with
 | true =>
  simp only [if_true, Sem.run_bind, tab_size hT hi, Result.andThen_ok]
  rw [← hl, run_loadCells_list w ⟨b, off, none⟩ vs (fun j v e => by rw [addr_add]; exact hc j v e)]
  simp [mkV]
 | false =>
  have h1 : vs.length = 1 := h1.resolve_left (by rw [ha]; nofun)
  match vs, h1, hc with
  | [x], _, hc =>
   have := hc 0 x rfl
   simp only [Nat.add_zero] at this
   simp [this, mkV]
theorem cut_load {t : TypeId} {i : TInfo} (hi : tget t T = some i) {cs : List AV} {vs : List Value} {b o off : Nat} {v : AV} (hc : CRepL E cs vs) (ha : At w b o vs)
  (h : (cutV i cs off).gives v) : ∃ x, (loadVar t ⟨b, o + off, none⟩).run P w = .ok x w ∧ VRep E v x := by
 obtain ⟨r, e1, e2⟩ := oB_some (ofOpt_gives h)
 obtain ⟨h1, h2⟩ := cut_rep hc e1
 have hl : ((vs.drop off).take i.size).length = i.size := by rw [List.length_take, List.length_drop]; omega
 refine ⟨_, run_loadVar hT hi hl (ha.cut off i.size) (valOf_one h2 e2), valOf_rep h2 e2⟩
omit hT
theorem castL_eq {t' t : Ty} {l : List (den t')} {m : List (den t)} (h : castL t' t l = some m) : ∃ e : t' = t, e ▸ l = m := by
 unfold castL at h
 split at h
 ·rename_i e; exact ⟨e, Option.some.inj h⟩
 ·cases h
theorem arrAt_rep {cs : List AV} {vs : List Value} {off n : Nat} {ty : Ty} {l : List (den ty)} (hc : CRepL E cs vs) (h : arrAt cs off n ty = some l) :
  off + n * width ty ≤ vs.length ∧ TRep E (.arr n ty) l ((vs.drop off).take (n * width ty)) := by
 unfold arrAt at h
 split at h
 ·rename_i n' ty' l' e
  rcases bif_some h with ⟨hb, h⟩ | ⟨_, h⟩
  ·obtain ⟨rfl, e'⟩ := castL_eq h
   have e' : l' = l := e'
   subst e'
   have hn : n' = n := Nat.eq_of_beq_eq_true hb
   subst hn
   obtain ⟨h1, h2⟩ := cut_rep hc e
   obtain ⟨u, s, e, r1, r2⟩ := h2
   rw [e, show s = [] from r2, List.append_nil]
   exact ⟨h1, r1⟩
  ·cases h
 ·cases h
theorem elem_at {n : Nat} {ty : Ty} {l : List (den ty)} {vs : List Value} {b o k : Nat} (h : TRep E (.arr n ty) l vs) (ha : At w b o vs) (hk : k < n) :
  ∃ cs, TRep E ty (l.getD k (dflt ty)) cs ∧ At w b (o + k * width ty) cs := by
 obtain ⟨e1, _, r⟩ := h
 obtain ⟨cs, r1, r2⟩ := r k (by omega)
 refine ⟨cs, by rw [List.getD_eq_getElem?_getD, List.getElem?_eq_getElem (by omega)]; exact r1, fun j v e => ?_⟩
 rw [Nat.add_assoc]; exact ha _ _ (r2 j v e)
theorem ptr_inv {id off : Nat} {x : Value} (h : SRep E (.ptr id off) x) : id < E.N ∧ ∃ b, (E.M id).blk = some b ∧ x = .pointer (some ⟨b, off, none⟩) := by
 obtain ⟨h0, b, h1, h2⟩ := (show CRep E (.ptr id off) [x] from h)
 exact ⟨h0, b, h1, by simpa using h2⟩
theorem ptrA_inv {id off n i sub : Nat} {t : Ty} {x : Value} (h : SRep E (.ptrA id off n t i sub) x) :
  id < E.N ∧ i < n ∧ ∃ b, (E.M id).blk = some b ∧ x = .pointer (some ⟨b, off + i * width t + sub, none⟩) := by
 obtain ⟨h0, hi, b, h1, h2⟩ := (show CRep E (.ptrA id off n t i sub) [x] from h)
 exact ⟨h0, hi, b, h1, by simpa using h2⟩
theorem ptrO_inv {id i sub : Nat} {x : Value} (h : SRep E (.ptrO id i sub) x) :
  id < E.N ∧ i < (E.M id).len ∧ ∃ b, (E.M id).blk = some b ∧ x = .pointer (some ⟨b, (E.M id).base + i * (E.M id).wd + sub, none⟩) := by
 obtain ⟨h0, hi, b, h1, h2⟩ := (show CRep E (.ptrO id i sub) [x] from h)
 exact ⟨h0, hi, b, h1, by simpa using h2⟩
theorem ptrR_inv {t : Ty} {l : List (den t)} {i sub : Nat} {x : Value} (h : SRep E (.ptrR t l i sub) x) :
  i < l.length ∧ ∃ b o, E.ro b ∧ x = .pointer (some ⟨b, o + i * width t + sub, none⟩) ∧ Elems E t l b o := by
 obtain ⟨hi, b, o, h1, h2, h3⟩ := (show CRep E (.ptrR t l i sub) [x] from h)
 exact ⟨hi, b, o, h1, by simpa using h2, h3⟩
theorem gptr_inv {g : Nat} {x : Value} (h : SRep E (.gptr g) x) : x = .pointer (some ⟨g, 0, none⟩) := by
 have h : [x] = [Value.pointer (some ⟨g, 0, none⟩)] := h
 simpa using h
theorem own_at {m : MI} {ty : Ty} {l : List (den ty)} {b k : Nat} (h : ORep E m (.arr ty l)) (hb : m.blk = some b) (hk : k < m.len) :
  ∃ cs, TRep E ty (l.getD k (dflt ty)) cs ∧ At E.w b (m.base + k * width ty) cs := by
 obtain ⟨h1, h2, h⟩ := h
 rw [hb] at h
 obtain ⟨vs, e, h3, h5, h6, h7⟩ := h
 obtain ⟨cs, r1, r2⟩ := h7 k (by omega)
 refine ⟨cs, by rw [List.getD_eq_getElem?_getD, List.getElem?_eq_getElem (by omega)]; exact r1, fun j v hj => ?_⟩
 rw [cell_of_row E.w b _ vs e _ h3]
 exact r2 j v hj
omit [Inhabited GW] in
theorem gV_gives {b : Bool} {x : VR} {v : AV} (h : (gV b x).gives v) : b = true ∧ x.gives v := by
 cases x with
 | val u => exact h
 | gval c u => exact h.elim
 | no => exact h.elim
theorem hol_seg {m : MI} {ty : Ty} {l : List (den ty)} {g : Nat} {cs : List AV} {far : Bool} (h : ORep E m (.hol ty l g cs far)) : m.len = l.length ∧ m.wd = width ty ∧ ∃ b vs e, m.blk = some b ∧ E.w.heap[b]? = some (.cells vs e (0, 0)) ∧ l.length ≤ m.cap ∧
  m.base + m.cap * width ty ≤ vs.size ∧ HRep E ty l g cs ((vs.toList.drop m.base).take (l.length * width ty)) ∧ At E.w b m.base ((vs.toList.drop m.base).take (l.length * width ty)) := by
 obtain ⟨h1, h2, b, vs, e, h3, h4, h5, h6, h7⟩ := h
 refine ⟨h1, h2, b, vs, e, h3, h4, h5, h6, h7, ?_⟩
 have := (At.of_row h4).cut m.base (l.length * width ty)
 rwa [Nat.zero_add] at this
include hT
theorem loadV_sound {keep : Nat → Prop} {S : St} {t : TypeId} {a v : AV} {x : Value} (hm : Mems E keep S.objs) (h : (loadV T S t a).gives v) (hx : SRep E a x) :
  ∃ y, (Instr.loadAt t x).run P E.w = .ok y E.w ∧ VRep E v y := by
 unfold loadV at h
 split at h
 ·exact h.elim
 ·rename_i i hi
  split at h
  ·rename_i id off
   split at h
   ·rename_i cs hl
    obtain ⟨_, b, hb, rfl⟩ := ptr_inv hx
    obtain ⟨_, b', vs, e, h1, h2, h4⟩ := hm.rep _ _ hl
    rw [hb] at h1; cases h1
    obtain ⟨y, h5, h6⟩ := cut_load hT hi (w := E.w) (o := 0) h4 (At.of_row h2) h
    rw [Nat.zero_add] at h5
    exact ⟨y, by simpa [Instr.loadAt, Instr.sureAddr] using h5, h6⟩
   ·exact h.elim
  ·rename_i id off n ty k sub
   split at h
   ·rename_i cs hl
    split at h
    ·rename_i l hA
     obtain ⟨_, hk, b, hb, rfl⟩ := ptrA_inv hx
     obtain ⟨_, b', vs, e, h1, h2, h4⟩ := hm.rep _ _ hl
     rw [hb] at h1; cases h1
     obtain ⟨_, h5⟩ := arrAt_rep h4 hA
     obtain ⟨cs', r1, r2⟩ := elem_at (w := E.w) h5 ((At.of_row h2).cut off (n * width ty)) hk
     obtain ⟨y, h5, h6⟩ := cut_load hT hi (enc_rep r1) r2 h
     rw [Nat.zero_add] at h5
     exact ⟨y, by simpa [Instr.loadAt, Instr.sureAddr] using h5, h6⟩
    ·exact h.elim
   ·exact h.elim
  ·rename_i id k sub
   split at h
   ·rename_i ty l hl
    obtain ⟨_, hk, b, hb, rfl⟩ := ptrO_inv hx
    obtain ⟨_, ho⟩ := hm.rep _ _ hl
    have hwd : (E.M id).wd = width ty := ho.2.1
    obtain ⟨cs', r1, r2⟩ := own_at ho hb hk
    obtain ⟨y, h5, h6⟩ := cut_load hT hi (enc_rep r1) r2 h
    rw [← hwd] at h5
    exact ⟨y, by simpa [Instr.loadAt, Instr.sureAddr] using h5, h6⟩
   ·rename_i ty l g cs far hl
    obtain ⟨_, hk, b, hb, rfl⟩ := ptrO_inv hx
    obtain ⟨_, ho⟩ := hm.rep _ _ hl
    obtain ⟨hlen, hwd, b', vs, e, hb', hh, _, _, ⟨_, hg, hel, us, hus, hul, huj⟩, hAt⟩ := hol_seg ho
    rw [hb] at hb'; cases hb'
    split at h
    ·obtain ⟨hkg, hgv⟩ := gV_gives h
     have hkg := Nat.eq_of_beq_eq_true hkg
     subst hkg
     obtain ⟨y, h5, h6⟩ := cut_load hT hi (w := E.w) (b := b) (o := (E.M id).base + k * width ty) hus (fun j v hj => by
      have := hAt _ _ (huj j v hj)
      rwa [← Nat.add_assoc] at this) hgv
     rw [← hwd] at h5
     exact ⟨y, by simpa [Instr.loadAt, Instr.sureAddr] using h5, h6⟩
    ·obtain ⟨hkg, hgv⟩ := gV_gives h
     have hkg : k ≠ g := fun e => by rw [e, Nat.beq_refl] at hkg; cases hkg
     have hk2 : k < l.length := by omega
     obtain ⟨us, r1, r2⟩ := hel k hk2 hkg
     rw [List.getD_eq_getElem?_getD, List.getElem?_eq_getElem hk2] at hgv
     obtain ⟨y, h5, h6⟩ := cut_load hT hi (w := E.w) (b := b) (o := (E.M id).base + k * width ty) (enc_rep r1) (fun j v hj => by
      have := hAt _ _ (r2 j v hj)
      rwa [← Nat.add_assoc] at this) hgv
     rw [← hwd] at h5
     exact ⟨y, by simpa [Instr.loadAt, Instr.sureAddr] using h5, h6⟩
   ·exact h.elim
  ·rename_i ty l k sub
   obtain ⟨hk, b, o, hb, rfl, h1⟩ := ptrR_inv hx
   obtain ⟨cs', r1, r2⟩ := h1 k hk
   have e : l.getD k (dflt ty) = l[k] := by rw [List.getD_eq_getElem?_getD, List.getElem?_eq_getElem hk]; rfl
   rw [e] at h
   obtain ⟨y, h5, h6⟩ := cut_load hT hi (w := E.w) (enc_rep r1) (fun j v e => r2 j v e) h
   exact ⟨y, by simpa [Instr.loadAt, Instr.sureAddr] using h5, h6⟩
  ·rename_i g
   split at h
   ·rename_i gx hg
    obtain ⟨_, hb, h1⟩ := hm.gl.elems g gx.1 gx.2 hg
    have hx := gptr_inv hx
    subst hx
    obtain ⟨cs', r1, r2⟩ := h1 0 (Nat.zero_lt_one)
    obtain ⟨y, h5, h6⟩ := cut_load hT hi (w := E.w) (b := g) (o := 0) (enc_rep r1) (fun j v e => by have := r2 j v e; rwa [Nat.zero_mul, Nat.add_zero] at this) h
    exact ⟨y, by simpa [Instr.loadAt, Instr.sureAddr] using h5, h6⟩
   ·exact h.elim
  ·rename_i c
   obtain ⟨b, cv, e, h1, h2, h3, h4, h7⟩ := (show CRep E (.cbox c) [x] from hx)
   have h1 : x = .pointer (some ⟨b, 0, none⟩) := by simpa using h1
   subst h1
   obtain ⟨y, h5, h6⟩ := cut_load hT hi (w := E.w) (b := b) (o := 0) (cs := [c]) (vs := [cv]) ⟨[cv], [], rfl, h7, rfl⟩ (At.of_row h3) h
   exact ⟨y, by simpa [Instr.loadAt, Instr.sureAddr] using h5, h6⟩
  ·exact h.elim
end
end Go.Rx
namespace Go.Rx
variable [Inhabited GW]
theorem nthA_rep {E : Env} : ∀ {l : List AV} {vs : List Value} {i : Nat} {v : AV}, VRepL E l vs → nthA l i = some v → ∃ x, vs[i]? = some x ∧ VRep E v x
 | [], _, i, v, _, h => by cases i <;> cases h
 | a :: l, vs, 0, v, r, h => by
  obtain ⟨x, s, rfl, r1, _⟩ := r
  cases h; exact ⟨x, rfl, r1⟩
 | a :: l, vs, i + 1, v, r, h => by
  obtain ⟨x, s, rfl, _, r2⟩ := r
  exact nthA_rep (l := l) (i := i) r2 h
theorem nthF_get : ∀ (l : List (Nat × TypeId)) (i : Nat), nthF l i = l[i]?
 | [], i => by cases i <;> rfl
 | f :: l, 0 => rfl
 | f :: l, i + 1 => by rw [List.getElem?_cons_succ]; exact nthF_get l i
theorem cellsOf_rep {E : Env} {v : AV} {x : Value} {cs : List AV} (h : SRep E v x) (e : cellsOf v = some cs) : CRepL E cs x.cells.toList := by
  cases v <;> simp only [cellsOf] at e <;> first
    | (cases e; done)
    | (cases e
       obtain ⟨vs, rfl, h⟩ := h
       simpa [Value.cells] using h)
    | (cases e
       have hc : CRep E _ [x] := h
       have h1 := CRep.one hc x (by simp)
       have : x.cells = #[x] := by cases x <;> first | rfl | (simp [Value.oneCell'] at h1)
       rw [this]
       exact ⟨[x], [], rfl, hc, rfl⟩)
theorem cell_rep {E : Env} {v : AV} {x : Value} (h : SRep E v x) (e : isCell v = true) : CRep E v [x] := by
 cases v <;> first
  | (cases e; done)
  | exact h
theorem mapA_rep {E : Env} {S : St} {a : Act} (h : Slots E S.tmps a.tmps) : ∀ (l : List Operand), allCell (mapA (ev S) l) = true → CRepF E (mapA (ev S) l) (l.map a.eval)
 | [], _ => rfl
 | x :: l, hc => by
  simp only [mapA, allCell, Bool.and_eq_true] at hc
  exact ⟨a.eval x, l.map a.eval, rfl, hc.1, cell_rep (ev_rep h x) hc.1, mapA_rep h l hc.2⟩
section
variable {P : Program} {T : Tab} (hT : TabOK P T) {E : Env} {w : World}
theorem toList_one {α : Type} {a : Array α} {x : α} (h : a.toList = [x]) : a = #[x] := by
 have : a = a.toList.toArray := by simp
 rw [this, h]
theorem toList_two {α : Type} {a : Array α} {x y : α} (h : a.toList = [x, y]) : a = #[x, y] := by
 have : a = a.toList.toArray := by simp
 rw [this, h]
include hT
theorem fieldAV_sound {keep : Nat → Prop} {objs : Objs} (hm : Mems E keep objs) {t : TypeId} {a v : AV} {x : Value} {f : Nat} (h : (fieldAV T t a f).gives v) (hx : SRep E a x) :
  ∃ y, (Instr.fieldAt t x f).run P w = .ok y w ∧ VRep E v y := by
 unfold fieldAV at h
 split at h
 ·rename_i fs htd
  split at h
  ·rename_i o ft hn
   split at h
   ·rename_i fi hfi
    obtain ⟨d, hu, F, rfl, rfl⟩ := tab_td hT htd
    rw [nthF_get, List.getElem?_map] at hn
    cases hF : F.toList[f]? with
    | none => rw [hF] at hn; cases hn
    | some g =>
     rw [hF] at hn
     cases hn
     have hF : F[f]? = some g := by simpa using hF
     cases hz : Nat.beq fi.size 0 with
     | true => rw [hz] at h; exact h.elim
     | false =>
      rw [hz] at h
      have hz : ¬ fi.size = 0 := fun e => by rw [e] at hz; cases hz
      have key : ∀ b o', (Instr.fieldAt t (.pointer (some ⟨b, o', none⟩)) f).run P w = .ok (.pointer (some ⟨b, o' + g.offset, none⟩)) w := by
       intro b o'
       simp [Instr.fieldAt, run_und hu, hF, Instr.sureAddr, fieldPlace, tab_size hT hfi, hz, addr_add]
      simp only [cond_false] at h
      split at h
      ·cases h
       obtain ⟨h0, b, h1, rfl⟩ := ptr_inv hx
       exact ⟨_, key _ _, h0, b, h1, rfl⟩
      ·cases h
       obtain ⟨h0, hi, b, h1, rfl⟩ := ptrA_inv hx
       exact ⟨_, key _ _, h0, hi, b, h1, by rw [Nat.add_assoc]⟩
      ·cases h
       obtain ⟨h0, hi, b, h1, rfl⟩ := ptrO_inv hx
       exact ⟨_, key _ _, h0, hi, b, h1, by rw [Nat.add_assoc]⟩
      ·cases h
       obtain ⟨hi, b, o, h1, rfl, h3⟩ := ptrR_inv hx
       exact ⟨_, key _ _, hi, b, o, h1, by rw [Nat.add_assoc], h3⟩
      ·rename_i gg
       split at h
       ·rename_i gx hg
        cases h
        obtain ⟨_, hb, h1⟩ := hm.gl.elems gg gx.1 gx.2 hg
        have hx := gptr_inv hx
        subst hx
        exact ⟨_, key _ _, Nat.zero_lt_one, gg, 0, hb, by rw [Nat.zero_mul], h1⟩
       ·exact h.elim
      ·exact h.elim
   ·exact h.elim
  ·exact h.elim
 ·exact h.elim
theorem run_part {t : TypeId} {i : TInfo} (hi : tget t T = some i) {cs : List AV} {vs : List Value} {off : Nat} {v : AV} (hc : CRepL E cs vs) (h : (cutV i cs off).gives v) :
  ∃ y, (part t vs.toArray off).run P w = .ok y w ∧ VRep E v y := by
 obtain ⟨r, e1, e2⟩ := oB_some (ofOpt_gives h)
 obtain ⟨h1, h2⟩ := cut_rep hc e1
 refine ⟨_, ?_, valOf_rep h2 e2⟩
 have h3 := valOf_one h2 e2
 simp only [part, Sem.run_bind, tab_agg hT hi, Result.andThen_ok]
 cases ha : i.td.isAgg with
 | true =>
  simp only [if_true, Sem.run_bind, tab_size hT hi, Result.andThen_ok, Sem.run_pure, mkV, List.extract_toArray]
  congr 3
  rw [List.extract_eq_take_drop, Nat.add_sub_cancel_left]
 | false =>
  have h3 := h3.resolve_left (by rw [ha]; nofun)
  rw [List.length_take, List.length_drop] at h3
  have hlt : off < vs.length := by omega
  simp only [Bool.false_eq_true, if_false, List.getElem?_toArray, List.getElem?_eq_getElem hlt, Sem.run_pure, mkV]
  congr 1
  rw [List.headD_eq_head?_getD, List.head?_take, if_neg (by omega), List.head?_drop, List.getElem?_eq_getElem hlt]; rfl
theorem fieldV_sound {t : TypeId} {a v : AV} {x : Value} {f : Nat} (h : (fieldV T t a f).gives v) (hx : SRep E a x) :
  ∃ y, (Instr.field t x f).run P w = .ok y w ∧ VRep E v y := by
 unfold fieldV at h
 split at h
 ·rename_i fs cs htd
  split at h
  ·rename_i o ft hn
   split at h
   ·rename_i fi hfi
    obtain ⟨d, hu, F, rfl, rfl⟩ := tab_td hT htd
    rw [nthF_get, List.getElem?_map] at hn
    cases hF : F.toList[f]? with
    | none => rw [hF] at hn; cases hn
    | some g =>
     rw [hF] at hn
     cases hn
     have hF : F[f]? = some g := by simpa using hF
     obtain ⟨vs, rfl, hc⟩ := hx
     obtain ⟨y, h1, h2⟩ := run_part hT (w := w) hfi hc h
     exact ⟨y, by simp [Instr.field, run_und hu, hF, asAgg, h1], h2⟩
   ·exact h.elim
  ·exact h.elim
 ·exact h.elim
omit hT
theorem within_of {i : Int} {n : Nat} (h : within i n = true) : 0 ≤ i ∧ i < n := by
 simpa [within] using h
include hT
theorem elemOK_size {e : TypeId} {ty : Ty} (h : elemOK T e ty = true) : (sizeOf e).run P w = .ok (width ty) w := by
 unfold elemOK at h
 split at h
 ·rename_i i hi
  rw [tab_size hT hi, Nat.eq_of_beq_eq_true h]
 ·cases h
omit hT
theorem orefN_inv {keep : Nat → Prop} {S : St} {e : TypeId} {id n : Nat} (hm : Mems E keep S.objs) (h : orefN T S e id = some n) : ∃ ty, elemOK T e ty = true ∧ (E.M id).len = n ∧ (E.M id).wd = width ty := by
 unfold orefN at h
 split at h
 ·rename_i ty l hl
  rcases bif_some h with ⟨hb, h⟩ | ⟨_, h⟩
  ·cases h
   obtain ⟨_, h1, h2, _⟩ := hm.rep _ _ hl
   exact ⟨ty, hb, h1, h2⟩
  ·cases h
 ·rename_i ty l _ _ _ hl
  rcases bif_some h with ⟨hb, h⟩ | ⟨_, h⟩
  ·cases h
   obtain ⟨_, h1, h2, _⟩ := hm.rep _ _ hl
   exact ⟨ty, hb, h1, h2⟩
  ·cases h
 ·cases h
theorem offAdd_eq (r : Option (Nat × Nat)) (i : Nat) : offAdd r i = rOff r + i := by
 cases r with
 | none => simp [offAdd, rOff]
 | some p => rfl
theorem oref_inv {id : Nat} {r : Option (Nat × Nat)} {x : Value} (h : SRep E (.oref id r) x) : id < E.N ∧ match (E.M id).blk with
  | none => x = .slice none 0 0 ∧ rOff r = 0 ∧ rLen (E.M id).len r = 0
  | some b => ∃ o cap, x = .slice (some ⟨b, o, none⟩) (rLen (E.M id).len r) cap ∧ rLen (E.M id).len r ≤ cap ∧ rOff r + rLen (E.M id).len r ≤ (E.M id).len ∧
    (cap = 0 ∨ (o = (E.M id).base + rOff r * (E.M id).wd ∧ rOff r + cap ≤ (E.M id).cap)) := by
 obtain ⟨h0, h⟩ := (show CRep E (.oref id r) [x] from h)
 refine ⟨h0, ?_⟩
 cases hb : (E.M id).blk with
 | none =>
  rw [hb] at h
  exact ⟨by simpa using h.1, h.2⟩
 | some b =>
  rw [hb] at h
  obtain ⟨o, cap, e, r⟩ := h
  exact ⟨o, cap, by simpa using e, r⟩
include hT
theorem indexAV_sound {keep : Nat → Prop} {S : St} {t : TypeId} {a ix v : AV} {x y : Value} (hm : Mems E keep S.objs) (h : (indexAV T S t a ix).gives v) (hx : SRep E a x) (hy : SRep E ix y) :
  ∃ z, (Instr.indexAt t x y).run P w = .ok z w ∧ VRep E v z := by
 unfold indexAV at h
 split at h
 ·rename_i n e id off k i htd
  obtain ⟨d, hu, rfl⟩ := tab_td hT htd
  split at h
  ·rename_i ei cs hei hl
   split at h
   ·rename_i n' ty l hcut
    cases hb : Nat.beq ei.size (width ty) with
    | false => rw [hb] at h; exact h.elim
    | true =>
     rw [hb] at h
     obtain ⟨hw, rfl⟩ := h
     have hw := within_of hw
     have hsz := Nat.eq_of_beq_eq_true hb
     obtain ⟨h0, b, h1, rfl⟩ := ptr_inv hx
     rw [hy.int_inv]
     refine ⟨.pointer (some ⟨b, off + i.toNat * width ty + 0, none⟩), ?_, h0, by omega, b, h1, rfl⟩
     simp [Instr.indexAt, asIntOf, run_und hu, Instr.sureAddr, hw.1, hw.2, tab_size hT hei, addr_add, hsz]
   ·exact h.elim
  ·exact h.elim
 ·rename_i n e g k i htd
  obtain ⟨d, hu, rfl⟩ := tab_td hT htd
  split at h
  ·rename_i n' ty l hg
   cases hb : Nat.beq n' n && elemOK T e ty with
   | false => rw [hb] at h; exact h.elim
   | true =>
    rw [hb] at h
    obtain ⟨hw, rfl⟩ := h
    have hw := within_of hw
    simp only [Bool.and_eq_true] at hb
    obtain ⟨_, hro, h1⟩ := hm.gl.elems g _ _ hg
    have hx := gptr_inv hx
    subst hx
    rw [hy.int_inv]
    obtain ⟨cs, ⟨e1, e2, r1⟩, r2⟩ := h1 0 Nat.zero_lt_one
    have e1 : l.length = n' := e1
    have en := Nat.eq_of_beq_eq_true hb.1
    refine ⟨.pointer (some ⟨g, 0 + i.toNat * width ty + 0, none⟩), ?_, by omega, g, 0, hro, rfl, fun k hk => ?_⟩
    ·simp [Instr.indexAt, asIntOf, run_und hu, Instr.sureAddr, hw.1, hw.2, elemOK_size hT hb.2, addr_add]
    ·obtain ⟨ck, q1, q2⟩ := r1 k hk
     refine ⟨ck, q1, fun j v hj => ?_⟩
     have := r2 (k * width ty + j) v (q2 j v hj)
     rwa [Nat.zero_mul, Nat.add_zero, ← Nat.add_assoc] at this
  ·exact h.elim
 ·rename_i e ty l k i htd
  obtain ⟨d, hu, rfl⟩ := tab_td hT htd
  cases hb : elemOK T e ty with
  | false => rw [hb] at h; exact h.elim
  | true =>
   rw [hb] at h
   obtain ⟨hw, rfl⟩ := h
   have hw := within_of hw
   obtain ⟨a, cap, e1, hc, r⟩ := (show TRep E (.sl ty) l [x] from hx)
   have e1 : x = .slice a l.length cap := by simpa using e1
   subst e1
   rw [hy.int_inv]
   obtain ⟨b, o, rfl, hro, r⟩ := r.resolve_left (by omega)
   refine ⟨.pointer (some ⟨b, o + i.toNat * width ty + 0, none⟩), ?_, by omega, b, o, hro, rfl, r⟩
   simp [Instr.indexAt, asIntOf, run_und hu, hw.1, hw.2, elemOK_size hT hb, addr_add]
 ·rename_i e id rg k i htd
  obtain ⟨d, hu, rfl⟩ := tab_td hT htd
  split at h
  ·rename_i n hn
   obtain ⟨ty, hb, hlen, hwd⟩ := orefN_inv hm hn
   obtain ⟨hw, rfl⟩ := h
   have hw := within_of hw
   obtain ⟨h0, r⟩ := oref_inv hx
   rw [hy.int_inv]
   rw [← hlen] at hw
   split at r
   ·omega
   ·rename_i b hblk
    obtain ⟨o, cap, rfl, hc, hl2, hcap⟩ := r
    have hcap := hcap.resolve_left (by omega)
    refine ⟨.pointer (some ⟨b, (E.M id).base + (rOff rg + i.toNat) * (E.M id).wd + 0, none⟩), ?_, h0, by rw [offAdd_eq]; omega, b, hblk, by rw [offAdd_eq]⟩
    simp [Instr.indexAt, asIntOf, run_und hu, hw.1, hw.2, elemOK_size hT hb, addr_add, hcap.1, hwd, Nat.add_mul, Nat.add_assoc]
  ·exact h.elim
 ·rename_i e id off n ty lo len k i htd
  obtain ⟨d, hu, rfl⟩ := tab_td hT htd
  cases hb : elemOK T e ty with
  | false => rw [hb] at h; exact h.elim
  | true =>
   rw [hb] at h
   obtain ⟨hw, rfl⟩ := h
   have hw := within_of hw
   obtain ⟨h0, hn, b, o, h1, e1, ho⟩ := (show CRep E (.bsl id off n ty lo len) [x] from hx)
   cases e1
   rw [hy.int_inv]
   have ho := ho.resolve_left (by omega)
   refine ⟨.pointer (some ⟨b, off + (i.toNat + lo) * width ty + 0, none⟩), ?_, h0, by omega, b, h1, rfl⟩
   simp [Instr.indexAt, asIntOf, run_und hu, hw.1, hw.2, elemOK_size hT hb, addr_add, ho, Nat.add_mul, Nat.add_assoc, Nat.add_comm (i.toNat * width ty)]
 ·exact h.elim
end
end Go.Rx
namespace Go.Rx
variable [Inhabited GW]
section
variable {P : Program} {T : Tab} (hT : TabOK P T) {E : Env} {w : World}
def eqElems (d : Nat) (e : TypeId) (n : Nat) (xs ys : Array Value) : List Nat → Sem Bool
 | [] => pure true
 | i :: l => do
   let a ← part e xs (i * n)
   let b ← part e ys (i * n)
   let r ← Op.equalIn d e a b
   if (!r) = true then pure false else eqElems d e n xs ys l
theorem run_equalIn_array (w : World) (d : Nat) (t e : TypeId) (len n : Nat) (xs ys : Array Value) (ht : P.underlying t = some (.array len e)) (hn : ∀ w, (sizeOf e).run P w = .ok n w) :
  (Op.equalIn (d + 1) t (.agg xs) (.agg ys)).run P w = (eqElems d e n xs ys (List.range' 0 len)).run P w := by
 simp only [Op.equalIn, Sem.run_bind, run_und ht, Result.andThen_ok, hn]
 simp only [Std.Legacy.Range.forIn_eq_forIn_range', Std.Legacy.Range.size, Nat.sub_zero, Nat.add_one_sub_one, Nat.div_one]
 generalize List.range' 0 len = l
 clear ht hn
 induction l generalizing w with
 | nil => simp [eqElems]
 | cons i l ih =>
  simp only [List.forIn_cons, eqElems, Sem.run_bind, Sem.run_ite]
  generalize (part e xs (i * n)).run P w = r1
  cases r1 with
  | ok a w1 =>
   simp only [Result.andThen_ok]
   generalize (part e ys (i * n)).run P w1 = r2
   cases r2 with
   | ok b w2 =>
    simp only [Result.andThen_ok]
    generalize (Op.equalIn d e a b).run P w2 = r3
    cases r3 with
    | ok r w3 =>
     cases r
     ·simp only [Result.andThen_ok, Bool.not_false, if_true, Sem.run_pure]
     ·simp only [Result.andThen_ok, Bool.not_true, Bool.false_eq_true, if_false, Sem.run_pure]
      exact ih w3
    | halt x w3 => simp [Result.andThen]
   | halt x w2 => simp [Result.andThen]
  | halt x w1 => simp [Result.andThen]
def isV (i : TInfo) (us : List Value) (x : Value) : Prop := if i.td.isAgg = true then x = .agg us.toArray else us = [x]
theorem beq_split {l m : List Int} (h : l.length = m.length) (i : Nat) (hi : i < l.length) : (l.drop i == m.drop i) = ((l.getD i 0 == m.getD i 0) && (l.drop (i + 1) == m.drop (i + 1))) := by
 rw [List.drop_eq_getElem_cons hi, List.drop_eq_getElem_cons (show i < m.length by omega)]
 rw [List.cons_beq_cons]
 congr 2
 ·rw [List.getD_eq_getElem?_getD, List.getElem?_eq_getElem hi]; rfl
 ·rw [List.getD_eq_getElem?_getD, List.getElem?_eq_getElem (show i < m.length by omega)]; rfl
include hT
theorem part_is {t : TypeId} {i : TInfo} (hi : tget t T = some i) {us : List Value} {off : Nat} (hl : off + i.size ≤ us.length) (h1 : i.td.isAgg = false → i.size = 1) :
  ∃ x, (part t us.toArray off).run P w = .ok x w ∧ isV i ((us.drop off).take i.size) x := by
 simp only [part, Sem.run_bind, tab_agg hT hi, Result.andThen_ok]
 cases ha : i.td.isAgg with
 | true =>
  refine ⟨.agg (us.toArray.extract off (off + i.size)), by simp [tab_size hT hi], ?_⟩
  unfold isV
  rw [if_pos ha]
  congr 1
  apply Array.toList_inj.1
  simp
 | false =>
  have hs := h1 ha
  have hlt : off < us.length := by omega
  refine ⟨us[off], by simp [hlt], ?_⟩
  unfold isV
  rw [if_neg (by rw [ha]; simp), hs, List.drop_eq_getElem_cons hlt]; rfl
theorem eqElems_sound {e : TypeId} {i : TInfo} (hi : tget e T = some i) {k0 : IntKind} (hk : i.td = .int k0) (hs : i.size = 1) {k : IntKind} {n : Nat} {l m : List Int} {us vs : List Value} (hu : TRep E (.arr n (.int k)) l us) (hv : TRep E (.arr n (.int k)) m vs) (D : Nat) :
  ∀ (c s : Nat), s + c = n → (eqElems (D + 1) e 1 us.toArray vs.toArray (List.range' s c)).run P w = .ok (l.drop s == m.drop s) w := by
 obtain ⟨u1, u2, u3⟩ := hu
 obtain ⟨v1, v2, v3⟩ := hv
 have hw : width (.int k) = 1 := rfl
 have hden : P.underlying e = some (.int k0) := by
  obtain ⟨d, h1, h2⟩ := (hT e i hi).und
  rw [hk] at h2
  rw [h1, show d = .int k0 from h2]
 intro c
 induction c with
 | zero =>
  intro s hs'
  rw [List.range'_zero, List.drop_eq_nil_of_le (by omega), List.drop_eq_nil_of_le (by omega)]
  simp [eqElems]
 | succ c ih =>
  intro s hs'
  have get : ∀ {l : List Int} {us : List Value}, l.length = n → (∀ i, (h : i < l.length) → ∃ cs, TRep E (.int k) l[i] cs ∧ ∀ j v, cs[j]? = some v → us[i * width (.int k) + j]? = some v) →
    us[s]? = some (.int k (l.getD s 0)) := by
   intro l us h1 h3
   obtain ⟨cs, r1, r2⟩ := h3 s (by omega)
   have r1 : cs = [.int k l[s]] := r1
   subst r1
   have := r2 0 _ rfl
   rw [hw] at this
   have hs3 : s < l.length := by rw [h1]; omega
   rw [List.getD_eq_getElem?_getD, List.getElem?_eq_getElem hs3]
   simpa using this
  have gu := get u1 u3
  have gv := get v1 v3
  have hp : ∀ {us : List Value} {x : Int}, us[s]? = some (.int k x) → (part e us.toArray (s * 1)).run P w = .ok (.int k x) w := by
   intro us x hx
   simp only [part, Sem.run_bind, tab_agg hT hi, hk, TD.isAgg, Result.andThen_ok, Nat.mul_one, List.getElem?_toArray, hx]
   rfl
  rw [List.range'_succ]
  simp only [eqElems, Sem.run_bind, hp gu, hp gv, Result.andThen_ok, run_equalIn_int w D e k k0 _ _ hden]
  rw [beq_split (by omega) s (by omega)]
  cases hb : (l.getD s 0 == m.getD s 0) with
  | false => simp
  | true =>
   simp only [Bool.not_true, Bool.false_eq_true, if_false, Bool.true_and]
   exact ih (s + 1) (by omega)
theorem eqC_sound : ∀ (d : Nat) (t : TypeId) (xs ys : List AV) (b : Bool), eqC T d t xs ys = some b → ∀ us vs : List Value, CRepL E xs us → CRepL E ys vs →
  ∃ i, tget t T = some i ∧ (i.td.isAgg = false → us.length = 1 ∧ vs.length = 1) ∧ ∀ x y, isV i us x → isV i vs y → ∀ D, d + 2 ≤ D → (Op.equalIn D t x y).run P w = .ok b w
 | 0, t, xs, ys, b, h => by cases h
 | d + 1, t, xs, ys, b, h => by
  intro us vs hu hv
  simp only [eqC] at h
  split at h
  ·cases h
  rename_i i hi
  refine ⟨i, hi, ?_⟩
  obtain ⟨de, hund, htd⟩ := (hT t i hi).und
  split at h
  ·rename_i a c htdi
   cases h
   rw [htdi] at htd
   have htd : de = .bool := htd
   subst htd
   obtain ⟨_, _, rfl, r1, r2⟩ := hu
   obtain ⟨_, _, rfl, r3, r4⟩ := hv
   have r1 : _ = [Value.bool _] := r1
   have r3 : _ = [Value.bool _] := r3
   have r2 : _ = [] := r2
   have r4 : _ = [] := r4
   subst r1; subst r2; subst r3; subst r4
   refine ⟨fun _ => ⟨rfl, rfl⟩, fun x y hx hy D hD => ?_⟩
   simp only [isV, htdi, TD.isAgg, Bool.false_eq_true, if_false, List.append_nil, List.cons.injEq, and_true] at hx hy
   subst hx; subst hy
   obtain ⟨D, rfl⟩ : ∃ D', D = D' + 1 := ⟨D - 1, by omega⟩
   exact run_equalIn_bool' w D t _ _ hund
  ·rename_i k0 k a k' c htdi
   split at h
   ·rename_i hk
    subst hk
    cases h
    rw [htdi] at htd
    have htd : de = .int k0 := htd
    subst htd
    obtain ⟨_, _, rfl, r1, r2⟩ := hu
    obtain ⟨_, _, rfl, r3, r4⟩ := hv
    have r1 : _ = [Value.int _ _] := r1
    have r3 : _ = [Value.int _ _] := r3
    have r2 : _ = [] := r2
    have r4 : _ = [] := r4
    subst r1; subst r2; subst r3; subst r4
    refine ⟨fun _ => ⟨rfl, rfl⟩, fun x y hx hy D hD => ?_⟩
    simp only [isV, htdi, TD.isAgg, Bool.false_eq_true, if_false, List.append_nil, List.cons.injEq, and_true] at hx hy
    subst hx; subst hy
    obtain ⟨D, rfl⟩ : ∃ D', D = D' + 1 := ⟨D - 1, by omega⟩
    exact run_equalIn_int w D t k _ _ _ hund
   ·cases h
  ·rename_i a c htdi
   cases h
   rw [htdi] at htd
   have htd : de = .string := htd
   subst htd
   obtain ⟨_, _, rfl, r1, r2⟩ := hu
   obtain ⟨_, _, rfl, r3, r4⟩ := hv
   have r1 : _ = [Value.string _] := r1
   have r3 : _ = [Value.string _] := r3
   have r2 : _ = [] := r2
   have r4 : _ = [] := r4
   subst r1; subst r2; subst r3; subst r4
   refine ⟨fun _ => ⟨rfl, rfl⟩, fun x y hx hy D hD => ?_⟩
   simp only [isV, htdi, TD.isAgg, Bool.false_eq_true, if_false, List.append_nil, List.cons.injEq, and_true] at hx hy
   subst hx; subst hy
   obtain ⟨D, rfl⟩ : ∃ D', D = D' + 1 := ⟨D - 1, by omega⟩
   exact run_equalIn_string w D t _ _ hund
  ·rename_i n e n1 k1 l1 n2 k2 l2 htdi
   split at h
   ·rename_i hc
    obtain ⟨rfl, rfl, rfl, he⟩ := hc
    cases h
    rw [htdi] at htd
    have htd : de = .array _ e := htd
    subst htd
    obtain ⟨_, _, rfl, r1, r2⟩ := hu
    obtain ⟨_, _, rfl, r3, r4⟩ := hv
    have r2 : _ = [] := r2
    have r4 : _ = [] := r4
    subst r2; subst r4
    refine ⟨fun ha => (by rw [htdi] at ha; cases ha), fun x y hx hy D hD => ?_⟩
    simp only [isV, htdi, TD.isAgg, if_true, List.append_nil] at hx hy
    subst hx; subst hy
    unfold intEl at he
    split at he
    ·rename_i ei hei
     split at he
     ·rename_i k0 hek
      have hes := Nat.eq_of_beq_eq_true he
      obtain ⟨D, rfl⟩ : ∃ D', D = D' + 1 + 1 := ⟨D - 2, by omega⟩
      rw [run_equalIn_array w (D + 1) t e _ 1 _ _ hund (fun w => by rw [tab_size hT hei, hes])]
      have := eqElems_sound hT (w := w) hei hek hes r1 r3 D _ 0 (Nat.zero_add _)
      simpa using this
     ·cases he
    ·cases he
   ·cases h
  ·rename_i xs ys _ _ _ fs htdi
   rcases bif_some h with ⟨hq, h⟩ | ⟨_, h⟩
   ·obtain ⟨hs1, hs2, hs3⟩ := (hT t i hi).eqs hq
    rw [htdi] at htd
    obtain ⟨F, rfl, rfl⟩ := htd
    refine ⟨fun ha => (by rw [htdi] at ha; cases ha), fun x y hx hy D hD => ?_⟩
    simp only [isV, htdi, TD.isAgg, if_true] at hx hy
    subst hx; subst hy
    obtain ⟨D, rfl⟩ : ∃ D', D = D' + 1 := ⟨D - 1, by omega⟩
    have hfo : P.fieldsOf t = F := by simp only [Program.fieldsOf, hund]
    rw [run_equalIn_struct w D t _ _ (by rw [hfo]; exact hund) hs1, hfo]
    have key : ∀ (l : List Field) (b : Bool), (∀ f ∈ l, f.name ≠ "_") → eqFl T (eqC T d) xs ys (l.map fun f => (f.offset, f.type)) = some b → (Op.eqFields D us.toArray vs.toArray l).run P w = .ok b w := by
     intro l
     induction l with
     | nil => intro b _ h; cases h; simp [Op.eqFields]
     | cons f l ih =>
      intro b hn h
      simp only [List.map_cons, eqFl] at h
      split at h
      ·rename_i fi hfi
       split at h
       ·rename_i ca cb hca hcb
        split at h
        ·rename_i r hr
         split at h
         ·rename_i s hs
          cases h
          obtain ⟨g1, g2⟩ := cut_rep hu hca
          obtain ⟨g3, g4⟩ := cut_rep hv hcb
          obtain ⟨fi', hfi', hone, heq⟩ := eqC_sound d f.type ca cb r hr _ _ g2 g4
          rw [hfi] at hfi'; cases hfi'
          have hsz : fi.td.isAgg = false → fi.size = 1 := fun ha => by
           have := (hone ha).1
           rw [List.length_take, List.length_drop] at this; omega
          obtain ⟨x, hx1, hx2⟩ := part_is hT (w := w) hfi g1 hsz
          obtain ⟨y, hy1, hy2⟩ := part_is hT (w := w) hfi g3 hsz
          simp only [Op.eqFields, if_pos (hn f List.mem_cons_self), Sem.run_bind, hx1, hy1, Result.andThen_ok, heq x y hx2 hy2 D (by omega)]
          cases r with
          | false => simp
          | true =>
           simp only [Bool.not_true, Bool.false_eq_true, if_false, Bool.true_and]
           exact ih s (fun f' hf' => hn f' (List.mem_cons_of_mem _ hf')) hs
         ·cases h
        ·cases h
       ·cases h
      ·cases h
    exact key _ _ (fun f hf => hs3 F hund f (Array.mem_toList_iff.1 hf)) h
   ·cases h
  ·cases h
theorem aggEq {t : TypeId} : AggEq P T E w t := by
 intro xs ys b h us vs hu hv
 unfold eqAgg at h
 split at h
 ·rename_i i hi
  rcases bif_some h with ⟨hq, h⟩ | ⟨_, h⟩
  ·rw [Bool.and_eq_true] at hq
   obtain ⟨hs1, hs2, hs3⟩ := (hT t i hi).eqs hq.1
   obtain ⟨i', hi', hone, heq⟩ := eqC_sound hT (w := w) 8 t xs ys b h us vs hu hv
   rw [hi] at hi'; cases hi'
   refine ⟨hs2, ?_⟩
   exact heq _ _ (by rw [isV, if_pos hq.2]) (by rw [isV, if_pos hq.2]) 10000 (by omega)
  ·cases h
 ·cases h
end
end Go.Rx
namespace Go.Rx
variable [Inhabited GW]
section
variable {P : Program} {T : Tab} (hT : TabOK P T) {E : Env} {w : World}
def idxE {A V : Type} (eq : A → Bool) : List (Nat × (A × V)) → Option Nat
 | [] => none
 | p :: es => bif eq p.2.1 then some 0 else oM (idxE eq es) (· + 1)
omit [Inhabited GW] in
theorem idx_find {A V : Type} (eq : A → Bool) : ∀ es : List (Nat × (A × V)), (idxE eq es).isSome = (findE eq es).isSome
 | [] => rfl
 | p :: es => by
  unfold idxE findE
  cases eq p.2.1 with
  | true => rfl
  | false =>
   simp only [cond_false]
   rw [← idx_find eq es]
   cases idxE eq es <;> rfl
def keyTy (t : Bool × Ty) : Prop := (∃ k, t = (false, .int k)) ∨ ∃ n k, t = (true, .arr n (.int k))
omit [Inhabited GW] in
theorem keyEq_iff {t : Bool × Ty} (ht : keyTy t) (x y : den t.2) : keyEq t.2 x y = true ↔ x = y := by
 rcases ht with ⟨k, rfl⟩ | ⟨n, k, rfl⟩
 ·show ((x : Int) == y) = true ↔ x = y
  exact beq_iff_eq
 ·show ((x : List Int) == y) = true ↔ x = y
  exact beq_iff_eq
theorem ERep.int_inv {k : IntKind} {x : Int} {v : Value} (h : ERep E (false, .int k) x v) : v = .int k x := by
 obtain ⟨cs, h1, h2⟩ := h
 have h1 : cs = [.int k x] := h1
 rw [if_neg Bool.false_ne_true, h1] at h2
 exact (List.cons.inj h2).1.symm
theorem ints_are {n : Nat} {k : IntKind} {l : List Int} {cs : List Value} (h : TRep E (.arr n (.int k)) l cs) : cs = l.map (Value.int k) := by
 obtain ⟨h1, h2, h3⟩ := h
 have h2 : cs.length = n * 1 := h2
 apply List.ext_getElem?
 intro i
 by_cases hi : i < l.length
 ·obtain ⟨c, r1, r2⟩ := h3 i hi
  have r1 : c = [.int k l[i]] := r1
  have := r2 0 (.int k l[i]) (by rw [r1]; rfl)
  rw [List.getElem?_map, List.getElem?_eq_getElem hi]
  rw [show i * width (.int k) + 0 = i by simp [width]] at this
  exact this
 ·rw [List.getElem?_eq_none (by omega), List.getElem?_eq_none (by rw [List.length_map]; omega)]
theorem ERep.arr_inv {n : Nat} {k : IntKind} {l : List Int} {v : Value} (h : ERep E (true, .arr n (.int k)) l v) : l.length = n ∧ v = .agg (l.map (Value.int k)).toArray := by
 obtain ⟨cs, h1, h2⟩ := h
 rw [if_pos rfl, ints_are h1] at h2
 exact ⟨h1.1, h2⟩
theorem ERep.uniq {t : Bool × Ty} (ht : keyTy t) {x : den t.2} {v v' : Value} (h : ERep E t x v) (h' : ERep E t x v') : v = v' := by
 rcases ht with ⟨k, rfl⟩ | ⟨n, k, rfl⟩
 ·rw [h.int_inv, h'.int_inv]
 ·rw [h.arr_inv.2, h'.arr_inv.2]
omit [Inhabited GW] in
theorem sameBits_ints (d : Nat) (k : IntKind) : ∀ l : List Int, ((l.map (Value.int k)).zip (l.map (Value.int k))).all (fun (x, y) => Instr.sameBits d x y) = true
 | [] => rfl
 | a :: l => by
  simp only [List.map_cons, List.zip_cons_cons, List.all_cons, Bool.and_eq_true]
  refine ⟨?_, sameBits_ints d k l⟩
  cases d <;> simp [Instr.sameBits]
theorem key_stays {t : Bool × Ty} (ht : keyTy t) {x : den t.2} {v : Value} (h : ERep E t x v) : (Instr.keyThatStays v v).run P w = .ok v w := by
 have : Instr.sameBits 10000 v v = true := by
  rcases ht with ⟨k, rfl⟩ | ⟨n, k, rfl⟩
  ·rw [h.int_inv]; simp [Instr.sameBits]
  ·rw [h.arr_inv.2]
   show (_ == _ && _) = true
   rw [Bool.and_eq_true]
   exact ⟨by simp, by simpa using sameBits_ints 9999 k x⟩
 unfold Instr.keyThatStays
 rw [if_pos this]; rfl
theorem run_checkKey_int {b : Bool} {n : Nat} {t : TypeId} {k : IntKind} {v : Value} {w : World} (h : P.underlying t = some (.int k)) : (Instr.checkKey b (n + 1) t v).run P w = .ok () w := by
 simp [Instr.checkKey, run_und h]
structure KeyAt (P : Program) (T : Tab) (K : TypeId) (t : Bool × Ty) : Prop where
 ty : keyTy t
 ok : ∃ i, tget K T = some i ∧ keyOK T i.td t.2 = true ∧ t.1 = i.td.isAgg
include hT
theorem key_equal {K : TypeId} {t : Bool × Ty} (hK : KeyAt P T K t) {x y : den t.2} {v v' : Value} (h : ERep E t x v) (h' : ERep E t y v') : (Op.equal K v v').run P w = .ok (keyEq t.2 x y) w := by
 obtain ⟨ht, i, hi, hok, hag⟩ := hK
 rcases ht with ⟨k, rfl⟩ | ⟨n, k, rfl⟩
 ·unfold keyOK at hok
  split at hok
  ·rename_i k0 k1 htd e
   cases e
   rw [h.int_inv, h'.int_inv]
   have hC : eqC T 1 K [.int k x] [.int k y] = some ((x : Int) == y) := by
    simp only [eqC, hi, htd, if_true]
   obtain ⟨j, hj, _, he⟩ := eqC_sound hT (E := E) (w := w) 1 K _ _ _ hC [.int k x] [.int k y] ⟨_, [], rfl, rfl, rfl⟩ ⟨_, [], rfl, rfl, rfl⟩
   rw [hi] at hj; cases hj
   exact he _ _ (by simp [isV, htd, TD.isAgg]) (by simp [isV, htd, TD.isAgg]) 10000 (by omega)
  ·rename_i e; cases e
  ·cases hok
 ·unfold keyOK at hok
  split at hok
  ·rename_i e; cases e
  ·rename_i m e n1 k1 htd e1
   cases e1
   rw [Bool.and_eq_true] at hok
   have hm := Nat.eq_of_beq_eq_true hok.1
   subst hm
   obtain ⟨c1, r1, s1⟩ := h
   obtain ⟨c2, r2, s2⟩ := h'
   rw [if_pos rfl] at s1 s2
   subst s1 s2
   have hC : eqC T 1 K [.arr m (.int k) x] [.arr m (.int k) y] = some ((x : List Int) == y) := by
    simp only [eqC, hi, htd]
    simp [hok.2]
   obtain ⟨j, hj, _, he⟩ := eqC_sound hT (E := E) (w := w) 1 K _ _ _ hC c1 c2 ⟨_, [], (List.append_nil _).symm, r1, rfl⟩ ⟨_, [], (List.append_nil _).symm, r2, rfl⟩
   rw [hi] at hj; cases hj
   exact he _ _ (by simp [isV, htd, TD.isAgg]) (by simp [isV, htd, TD.isAgg]) 10000 (by omega)
  ·cases hok
omit hT
theorem check_loop {K : TypeId} {k0 : IntKind} {b : Bool} {d sz : Nat} {xs : Array Value} (hu : P.underlying K = some (.int k0)) (hs : ∀ w, (sizeOf K).run P w = .ok sz w) :
  ∀ (l : List Nat), (∀ i ∈ l, ∃ x, (part K xs (i * sz)).run P w = .ok x w) → (forIn l PUnit.unit fun i _ => (do Instr.checkKey b (d + 1) K (← part K xs (i * (← sizeOf K))); pure (ForInStep.yield PUnit.unit) : Sem (ForInStep PUnit))).run P w = .ok PUnit.unit w
 | [], _ => rfl
 | i :: l, h => by
  obtain ⟨x, hx⟩ := h i List.mem_cons_self
  simp only [List.forIn_cons, Sem.run_bind, hs, Result.andThen_ok, hx, run_checkKey_int hu, Sem.run_pure]
  exact check_loop hu hs l fun j hj => h j (List.mem_cons_of_mem _ hj)
include hT
theorem key_check2 {K : TypeId} {t : Bool × Ty} (hK : KeyAt P T K t) {x : den t.2} {v : Value} (h : ERep E t x v) (b : Bool) (n0 : Nat) : (Instr.checkKey b (n0 + 1 + 1) K v).run P w = .ok () w := by
 obtain ⟨ht, i, hi, hok, hag⟩ := hK
 obtain ⟨d, hd, htd⟩ := (hT K i hi).und
 rcases ht with ⟨k, rfl⟩ | ⟨n, k, rfl⟩
 ·unfold keyOK at hok
  split at hok
  ·rename_i k0 k1 htdi e
   rw [htdi] at htd
   have htd : d = .int k0 := htd
   subst htd
   exact run_checkKey_int hd
  ·rename_i e; cases e
  ·cases hok
 ·unfold keyOK at hok
  split at hok
  ·rename_i e; cases e
  ·rename_i m e n1 k1 htdi e1
   cases e1
   rw [Bool.and_eq_true] at hok
   have hm := Nat.eq_of_beq_eq_true hok.1
   subst hm
   rw [htdi] at htd
   have htd : d = .array m e := htd
   subst htd
   obtain ⟨hl, rfl⟩ := h.arr_inv
   have he := hok.2
   unfold intEl at he
   split at he
   ·rename_i ei hei
    split at he
    ·rename_i k0 hek
     have hes := Nat.eq_of_beq_eq_true he
     obtain ⟨d', hd', htd'⟩ := (hT e ei hei).und
     rw [hek] at htd'
     have htd' : d' = .int k0 := htd'
     subst htd'
     unfold Instr.checkKey
     simp only [Sem.run_bind, run_und hd, Result.andThen_ok]
     simp only [Std.Legacy.Range.forIn_eq_forIn_range', Std.Legacy.Range.size, Nat.sub_zero, Nat.add_one_sub_one, Nat.div_one]
     rw [check_loop hd' (fun w => by rw [tab_size hT hei, hes]) _ fun j hj => ?_]
     ·rfl
     have hj : j < m := by simpa using hj
     refine ⟨.int k (x.getD j 0), ?_⟩
     simp only [part, Sem.run_bind, tab_agg hT hei, hek, TD.isAgg, Result.andThen_ok, Nat.mul_one, List.getElem?_toArray]
     have hj2 : j < (x : List Int).length := by rw [hl]; exact hj
     rw [List.getElem?_map, List.getElem?_eq_getElem hj2, List.getD_eq_getElem?_getD, List.getElem?_eq_getElem hj2]
     rfl
    ·cases he
   ·cases he
  ·cases hok
theorem key_check {K : TypeId} {t : Bool × Ty} (hK : KeyAt P T K t) {x : den t.2} {v : Value} (h : ERep E t x v) (b : Bool) : (Instr.checkKey b 10000 K v).run P w = .ok () w := key_check2 hT hK h b 9998
theorem key_find {K : TypeId} {kt vt : Bool × Ty} (hK : KeyAt P T K kt) {x : den kt.2} {v : Value} (h : ERep E kt x v) {es : List (Nat × (den kt.2 × den vt.2))} {ms : List MapEntry} (hm : MRep E kt vt es ms) :
  (Instr.findKey K v ms).run P w = .ok (oB (idxE (keyEq kt.2 x) es) fun i => oM ms[i]? fun e => (i, e.val)) w := by
 obtain ⟨d, hd, htd⟩ : ∃ d, P.underlying K = some d ∧ True := by
  obtain ⟨i, hi, _⟩ := hK.ok
  obtain ⟨d, hd, _⟩ := (hT K i hi).und
  exact ⟨d, hd, trivial⟩
 have ask : ∀ {es : List (Nat × (den kt.2 × den vt.2))} {ms : List MapEntry} (n : Nat), MRep E kt vt es ms → (Instr.findAsking K v ms n).run P w = .ok (oB (idxE (keyEq kt.2 x) es) fun i => oM ms[i]? fun e => (n + i, e.val)) w := by
  intro es
  induction es with
  | nil => intro ms n hm; have hm : ms = [] := hm; subst hm; rfl
  | cons p es ih =>
   intro ms n hm
   obtain ⟨e, r, rfl, h1, h2, h3, h4⟩ := hm
   simp only [Instr.findAsking, Sem.run_bind, key_equal hT hK h h2, Result.andThen_ok]
   unfold idxE
   cases keyEq kt.2 x p.2.1 with
   | true => rfl
   | false =>
    simp only [Bool.false_eq_true, if_false, cond_false]
    rw [ih (n + 1) h4]
    cases idxE (keyEq kt.2 x) es with
    | none => rfl
    | some i => simp only [oM, oB, List.getElem?_cons_succ]; rw [show n + 1 + i = n + (i + 1) by omega]
 have now : ∀ {es : List (Nat × (den kt.2 × den vt.2))} {ms : List MapEntry} (n : Nat), MRep E kt vt es ms → Instr.findNow d v ms n = some (oB (idxE (keyEq kt.2 x) es) fun i => oM ms[i]? fun e => (n + i, e.val)) ∨ Instr.findNow d v ms n = none := by
  intro es
  induction es with
  | nil => intro ms n hm; have hm : ms = [] := hm; subst hm; exact .inl rfl
  | cons p es ih =>
   intro ms n hm
   obtain ⟨e, r, rfl, h1, h2, h3, h4⟩ := hm
   have hs : Instr.sameNow d v e.key = some (keyEq kt.2 x p.2.1) ∨ Instr.sameNow d v e.key = none := by
    rcases hK.ty with ⟨k, rfl⟩ | ⟨m, k, rfl⟩
    ·rw [h.int_inv, h2.int_inv]
     cases d <;> first
      | exact .inr rfl
      | exact .inl (by simp only [Instr.sameNow, if_true]; rfl)
    ·rw [h.arr_inv.2, h2.arr_inv.2]
     cases d <;> exact .inr rfl
   unfold Instr.findNow idxE
   rcases hs with hs | hs
   ·rw [hs]
    cases keyEq kt.2 x p.2.1 with
    | true => exact .inl rfl
    | false =>
     simp only [cond_false]
     rcases ih (n + 1) h4 with hi | hi
     ·left
      rw [hi]
      cases idxE (keyEq kt.2 x) es with
      | none => rfl
      | some i => simp only [oM, oB, List.getElem?_cons_succ]; rw [show n + 1 + i = n + (i + 1) by omega]
     ·exact .inr hi
   ·rw [hs]; exact .inr rfl
 simp only [Instr.findKey, Sem.run_bind, run_und hd, Result.andThen_ok]
 rcases now 0 hm with h1 | h1
 ·rw [h1]; simp
 ·rw [h1]
  have := ask 0 hm
  simpa using this
omit hT
theorem MRep.length {kt vt : Bool × Ty} : ∀ {es : List (Nat × (den kt.2 × den vt.2))} {ms : List MapEntry}, MRep E kt vt es ms → ms.length = es.length
 | [], ms, h => by rw [show ms = [] from h]; rfl
 | p :: es, ms, h => by
  obtain ⟨e, r, rfl, _, _, _, h4⟩ := h
  rw [List.length_cons, List.length_cons, MRep.length h4]
theorem MRep.at {kt vt : Bool × Ty} (eq : den kt.2 → Bool) : ∀ {es : List (Nat × (den kt.2 × den vt.2))} {ms : List MapEntry} {i : Nat}, MRep E kt vt es ms → idxE eq es = some i →
  ∃ (e : MapEntry) (p : Nat × (den kt.2 × den vt.2)), ms[i]? = some e ∧ findE eq es = some p.2.2 ∧ bornE eq 0 es = e.born ∧ (∀ ck, bornE eq ck es = e.born) ∧ eq p.2.1 = true ∧ ERep E kt p.2.1 e.key ∧ ERep E vt p.2.2 e.val
 | [], ms, i, h, hi => by cases hi
 | p :: es, ms, i, h, hi => by
  obtain ⟨e, r, rfl, h1, h2, h3, h4⟩ := h
  unfold idxE at hi
  unfold findE bornE
  cases hb : eq p.2.1 with
  | true =>
   rw [hb] at hi
   cases hi
   exact ⟨e, p, rfl, rfl, h1.symm, fun _ => h1.symm, hb, h2, h3⟩
  | false =>
   rw [hb] at hi
   obtain ⟨j, hj, rfl⟩ := oM_some hi
   obtain ⟨e', p', g1, g2, g3, g4, g5⟩ := MRep.at eq h4 hj
   exact ⟨e', p', by rw [List.getElem?_cons_succ]; exact g1, g2, g3, g4, g5⟩
theorem MRep.miss {A V : Type} {eq : A → Bool} : ∀ {es : List (Nat × (A × V))}, idxE eq es = none → findE eq es = none ∧ ∀ ck, bornE eq ck es = ck
 | [], _ => ⟨rfl, fun _ => rfl⟩
 | p :: es, h => by
  unfold idxE at h
  unfold findE bornE
  cases hb : eq p.2.1 with
  | true => rw [hb] at h; cases h
  | false =>
   rw [hb] at h
   have : idxE eq es = Option.none := by
    cases hj : idxE eq es with
    | none => rfl
    | some j => rw [hj] at h; cases h
   exact MRep.miss this
theorem outV_rep {t : Bool × Ty} {x : den t.2} {v : Value} (hp : t.2.pure = true) (hs : (t.1 || t.2.scalar) = true) (h : ERep E t x v) : VRep E (outV t x) v := by
 obtain ⟨cs, h1, h2⟩ := h
 obtain ⟨ag, t⟩ := t
 unfold outV
 cases ag with
 | true =>
  rw [if_pos rfl] at h2
  rw [if_pos rfl]
  exact ⟨cs, h2, enc_rep h1⟩
 | false =>
  rw [if_neg Bool.false_ne_true] at h2
  rw [if_neg Bool.false_ne_true]
  subst h2
  have hs : t.scalar = true := by simpa using hs
  cases t <;> first
   | exact h1
   | (simp [Ty.scalar] at hs; done)
   | (simp [Ty.pure] at hp; done)
theorem keyIn_rep {t : Bool × Ty} (ht : keyTy t) {k : AV} {x : den t.2} {v : Value} (h : keyIn t k = some x) (hv : SRep E k v) : ERep E t x v := by
 rcases ht with ⟨i, rfl⟩ | ⟨n, i, rfl⟩
 ·cases k with
  | int k2 m =>
   have h : (if k2 = i then some m else none) = some x := h
   split at h
   ·rename_i hk
    cases h
    subst hk
    exact ⟨[.int k2 x], rfl, by rw [if_neg Bool.false_ne_true]; rw [show v = .int k2 x by simpa [SRep, VRep, CRep] using hv]⟩
   ·cases h
  | _ => cases h
 ·cases k with
  | agg cs =>
   match cs, h, hv with
   | [.arr n2 t2 l], h, hv =>
    have h : (if n2 = n then castL t2 (.int i) l else none) = some x := h
    split at h
    ·rename_i hn
     subst hn
     obtain ⟨rfl, e⟩ := castL_eq h
     have e : l = x := e
     subst e
     obtain ⟨vs, rfl, u, r, rfl, r1, r2⟩ := hv
     have r2 : r = [] := r2
     subst r2
     refine ⟨u, r1, ?_⟩
     rw [if_pos rfl, List.append_nil]
    ·cases h
  | _ => cases h
include hT
theorem mpIs_inv {t : TypeId} {kt vt : Bool × Ty} (h : mpIs T t kt vt = true) : ∃ K e, P.underlying t = some (.map K e) ∧ KeyAt P T K kt ∧ vt.2.pure = true ∧ (vt.1 || vt.2.scalar) = true ∧
  ∃ z, (∀ w, (zeroValue e).run P w = .ok z w) ∧ ∀ E : Env, ERep E vt (dflt vt.2) z := by
 unfold mpIs at h
 split at h
 ·rename_i p hp
  simp only [Bool.and_eq_true, decide_eq_true_eq] at h
  obtain ⟨rfl, rfl⟩ := h
  unfold mpTy at hp
  split at hp
  ·rename_i K e htd
   obtain ⟨d, hu, hd⟩ := tab_td hT htd
   have hd : d = .map K e := hd
   subst hd
   split at hp
   ·rename_i ki ei hki hei
    split at hp
    ·rename_i tk tv hk hv
     rcases bif_some hp with ⟨hc, hp⟩ | ⟨_, hp⟩
     ·cases hp
      simp only [Bool.and_eq_true] at hc
      obtain ⟨inf, i1, i2, i3, z, i4, i5, i6, i7⟩ := (hT e ei hei).info
      refine ⟨K, e, hu, ⟨?_, ki, hki, hc.1, rfl⟩, hc.2.1, hc.2.2, z, fun w => by simp [zeroValue, run_info i1, i4], fun E => ⟨z.cells.toList, i6 _ hv E, ?_⟩⟩
      ·have hk0 := hc.1
       unfold keyOK at hk0
       split at hk0
       ·rename_i k k' htd
        exact .inl ⟨k', by simp only [htd, TD.isAgg]⟩
       ·rename_i n e n' k htd
        exact .inr ⟨n', k, by simp only [htd, TD.isAgg]⟩
       ·cases hk0
      ·cases hag : ei.td.isAgg with
       | true =>
        rw [hag, if_pos rfl] at i7
        rw [if_pos rfl]
        rw [Array.toArray_toList]; exact i7
       | false =>
        rw [hag, if_neg Bool.false_ne_true] at i7
        rw [if_neg Bool.false_ne_true, i7]
     ·cases hp
    ·cases hp
   ·cases hp
  ·cases hp
 ·cases h
theorem lookV_sound {keep : Nat → Prop} {S : St} (hm : Mems E keep S.objs) {t : TypeId} {ok : Bool} {m k r : AV} {vm vk : Value} (h : (lookV T S t ok m k).gives r) (hxm : SRep E m vm) (hxk : SRep E k vk) :
  ∃ x, (Instr.lookup t vm vk ok).run P E.w = .ok x E.w ∧ SRep E r x := by
 unfold lookV at h
 split at h
 ·rename_i id
  split at h
  ·rename_i kt vt es ck hl
   cases hc : mpIs T t kt vt with
   | false => rw [hc] at h; exact h.elim
   | true =>
    rw [hc] at h
    obtain ⟨K, e, hu, hK, hp, hs, z, hz, hzr⟩ := mpIs_inv hT hc
    simp only [cond_true] at h
    split at h
    ·rename_i x hx
     have hxr := keyIn_rep hK.ty hx hxk
     obtain ⟨_, b, hb, rfl⟩ := (show id < E.N ∧ ∃ b, (E.M id).blk = some b ∧ vm = .map (some b) by
      obtain ⟨h1, b, h2, h3⟩ := (show CRep E (.mapr id) [vm] from hxm)
      exact ⟨h1, b, h2, by simpa using h3⟩)
     obtain ⟨_, b', ms, h1, h2, h3⟩ := hm.rep _ _ hl
     rw [hb] at h1; cases h1
     have hg : (getObj b).run P E.w = .ok (.map ms ck) E.w := by simp [getObj, Sem.run, h2]
     have hf := key_find hT (w := E.w) hK hxr h3
     have hck := key_check hT (w := E.w) hK hxr ms.isEmpty
     have key : ∃ v, (Instr.lookup t (.map (some b)) vk ok).run P E.w = .ok (if ok = true then .tuple #[v, .bool (findE (keyEq kt.2 x) es).isSome] else v) E.w ∧ ERep E vt ((findE (keyEq kt.2 x) es).getD (dflt vt.2)) v := by
      cases hi : idxE (keyEq kt.2 x) es with
      | none =>
       rw [hi] at hf
       have hn := (MRep.miss hi).1
       refine ⟨z, ?_, by rw [hn]; exact hzr E⟩
       simp only [Instr.lookup, Sem.run_bind, run_und hu, Result.andThen_ok, hg, hck, hf, oB, hz, Sem.run_pure, hn, Option.isSome_none]
      | some i =>
       rw [hi] at hf
       obtain ⟨e', p, g1, g2, _, _, _, _, g7⟩ := h3.at (keyEq kt.2 x) hi
       refine ⟨e'.val, ?_, by rw [g2]; exact g7⟩
       simp only [Instr.lookup, Sem.run_bind, run_und hu, Result.andThen_ok, hg, hck, hf, oB, oM, g1, Sem.run_pure, g2, Option.isSome_some]
     obtain ⟨v, hrun, hv⟩ := key
     have hv := outV_rep hp hs hv
     split at h
     ·cases h
      refine ⟨_, hrun, ?_⟩
      rw [if_pos rfl]
      exact ⟨[v, .bool _], rfl, _, _, rfl, hv, _, _, rfl, rfl, rfl⟩
     ·cases h
      refine ⟨_, hrun, ?_⟩
      rw [if_neg Bool.false_ne_true]
      refine (SRep.iff_V ?_).2 hv
      obtain ⟨ag, ty⟩ := vt
      unfold outV
      cases ag with
      | true => rfl
      | false =>
       have hs : ty.scalar = true := by simpa using hs
       cases ty <;> first
        | rfl
        | (simp [Ty.scalar] at hs; done)
        | (simp [Ty.pure] at hp; done)
    ·exact h.elim
  ·exact h.elim
 ·exact h.elim
end
end Go.Rx
namespace Go.Rx
variable [Inhabited GW]
section
variable {P : Program} {T : Tab} (hT : TabOK P T) {E : Env} {w : World}
include hT
theorem indexV_sound {t : TypeId} {a ix v : AV} {x y : Value} (h : (indexV T t a ix).gives v) (hx : SRep E a x) (hy : SRep E ix y) :
  ∃ z, (Instr.index t x y).run P w = .ok z w ∧ VRep E v z := by
 unfold indexV at h
 split at h
 ·rename_i n e n' ty l k i htd
  obtain ⟨d, hu, rfl⟩ := tab_td hT htd
  split at h
  ·rename_i ei hei
   rcases hb : (Nat.beq n' n && Nat.beq ei.size (width ty)) with _ | _
   ·rw [hb] at h; exact h.elim
   ·rw [hb] at h
    obtain ⟨hw, hv⟩ := gOpt_gives h
    have hw := within_of hw
    rw [Bool.and_eq_true] at hb
    have hn : n' = n := Nat.eq_of_beq_eq_true hb.1
    have hsz := Nat.eq_of_beq_eq_true hb.2
    subst hn
    obtain ⟨vs, rfl, u, s, rfl, r1, rfl⟩ := hx
    rw [List.append_nil]
    obtain ⟨e1, e2, r⟩ := (show TRep E (.arr n' ty) l u from r1)
    obtain ⟨cs, r1, r2⟩ := r i.toNat (by omega)
    rw [hy.int_inv]
    have hg : l.getD i.toNat (dflt ty) = l[i.toNat]'(by omega) := by rw [List.getD_eq_getElem?_getD, List.getElem?_eq_getElem (by omega)]; rfl
    rw [hg] at hv
    have hc := enc_rep r1
    have hcl := TRep.length r1
    have hcut : (cutV ei (appA (enc ty (l[i.toNat]'(by omega))) []) 0).gives v ∨ True := .inr trivial
    have hseg : (u.drop (i.toNat * width ty)).take (width ty) = cs := by
     apply List.ext_getElem?
     intro j
     rw [List.getElem?_take]
     by_cases hj : j < width ty
     ·rw [if_pos hj, List.getElem?_drop]
      have hj' : j < cs.length := by omega
      rw [List.getElem?_eq_getElem hj', r2 j _ (List.getElem?_eq_getElem hj')]
     ·rw [if_neg hj, List.getElem?_eq_none (by omega)]
    have h3 := valOf_one hc hv
    refine ⟨_, ?_, valOf_rep hc hv⟩
    simp only [Instr.index, asIntOf, Sem.run_bind, Sem.run_pure, Result.andThen_ok, run_und hu]
    rw [if_pos ⟨hw.1, by omega⟩]
    simp only [Sem.run_bind, tab_size hT hei, Result.andThen_ok, part, tab_agg hT hei, hsz]
    cases ha : ei.td.isAgg with
    | true =>
     simp only [if_true, Sem.run_bind, tab_size hT hei, Result.andThen_ok, Sem.run_pure, mkV, List.extract_toArray, hsz]
     congr 3
     rw [List.extract_eq_take_drop, Nat.add_sub_cancel_left]; exact hseg
    | false =>
     have h3 := h3.resolve_left (by rw [ha]; nofun)
     have := r2 0 (cs[0]'(by omega)) (List.getElem?_eq_getElem (by omega))
     simp only [Nat.add_zero] at this
     simp only [Bool.false_eq_true, if_false, List.getElem?_toArray, this, Sem.run_pure, mkV]
     congr 1
     match cs, h3 with
     | [c], _ => rfl
  ·exact h.elim
 ·rename_i s k i htd
  obtain ⟨d, hu, rfl⟩ := tab_td hT htd
  obtain ⟨hw, rfl⟩ := h
  have hw := within_of hw
  rw [hx.str_inv, hy.int_inv]
  have hlt : i.toNat < s.size := by omega
  refine ⟨.int .u8 ((s.data.getD i.toNat 0).toNat : Int), ?_, rfl⟩
  have e : s[i.toNat]? = some (s.data.getD i.toNat 0) := by
   rw [getElem?_pos s i.toNat hlt]
   congr 1
   have hlt : i.toNat < s.data.size := hlt
   rw [Array.getD_eq_getD_getElem?, Array.getElem?_eq_getElem hlt]
   rfl
  simp [Instr.index, asIntOf, run_und hu, hw.1, e]
 ·rename_i n e cs k i _ htd
  obtain ⟨d, hu, rfl⟩ := tab_td hT htd
  split at h
  ·rename_i ei hei
   split at h
   ·rename_i v' hv'
    obtain ⟨hw, rfl⟩ := h
    have hw := within_of hw
    obtain ⟨vs, rfl, r1⟩ := hx
    rw [hy.int_inv]
    obtain ⟨z, g1, g2⟩ := run_part hT (w := w) hei r1 (show (cutV ei cs (i.toNat * ei.size)).gives v' by rw [hv']; rfl)
    refine ⟨z, ?_, g2⟩
    simp only [Instr.index, asIntOf, Sem.run_bind, Sem.run_pure, Result.andThen_ok, run_und hu]
    rw [if_pos ⟨hw.1, by omega⟩]
    simp only [Sem.run_bind, tab_size hT hei, Result.andThen_ok, g1]
   ·exact h.elim
  ·exact h.elim
 ·exact h.elim
omit hT
theorem bounds_run {S : St} {a : Act} (hs : Slots E S.tmps a.tmps) {isSlice : Bool} {len cap : Nat} {lo hi : Option Operand} {l h : Int}
  (hl : loB S lo = some l) (hh : hiB S len hi = some h) (h0 : 0 ≤ l) (h1 : l ≤ h) (h2 : h ≤ cap) :
  (Instr.sliceBounds isSlice len cap (lo.map a.eval) (hi.map a.eval) none).run P w = .ok (l.toNat, h.toNat, cap) w := by
 have eh : ∃ x, hi.map a.eval = x ∧ ((x = none ∧ h = len) ∨ ∃ k, x = some (.int k h)) := by
  cases hi with
  | none => exact ⟨none, rfl, .inl ⟨rfl, by simpa [hiB] using hh.symm⟩⟩
  | some x =>
   refine ⟨_, rfl, .inr ?_⟩
   simp only [hiB] at hh
   split at hh
   ·rename_i k i e
    cases hh
    have := ev_rep hs x
    rw [e] at this
    exact ⟨k, by simp [this.int_inv]⟩
   ·cases hh
 have el : ∃ x, lo.map a.eval = x ∧ ((x = none ∧ l = 0) ∨ ∃ k, x = some (.int k l)) := by
  cases lo with
  | none => exact ⟨none, rfl, .inl ⟨rfl, by simpa [loB] using hl.symm⟩⟩
  | some x =>
   refine ⟨_, rfl, .inr ?_⟩
   simp only [loB] at hl
   split at hl
   ·rename_i k i e
    cases hl
    have := ev_rep hs x
    rw [e] at this
    exact ⟨k, by simp [this.int_inv]⟩
   ·cases hl
 obtain ⟨xh, e1, eh⟩ := eh
 obtain ⟨xl, e2, el⟩ := el
 rw [e1, e2]
 have hb : ((h.toNat : Nat) : Int) = h := by omega
 rcases eh with ⟨rfl, rfl⟩ | ⟨k, rfl⟩ <;> rcases el with ⟨rfl, rfl⟩ | ⟨k', rfl⟩
 ·simp [Instr.sliceBounds]
 ·simp [Instr.sliceBounds, run_sliceBound w k' l len _ h0 (by omega)]
 ·simp [Instr.sliceBounds, run_sliceBound w k h cap _ (by omega) h2]
 ·simp [Instr.sliceBounds, run_sliceBound w k h cap _ (by omega) h2, run_sliceBound w k' l h.toNat _ h0 (by omega)]
theorem rOff_some (p : Nat × Nat) : rOff (some p) = p.1 := rfl
theorem rLen_some (n : Nat) (p : Nat × Nat) : rLen n (some p) = p.2 := rfl
theorem cutG_of {lo hi : Int} {n : Nat} (h : cutG lo hi n = true) : 0 ≤ lo ∧ lo ≤ hi ∧ hi ≤ n := by
 simp only [cutG, Bool.and_eq_true, decide_eq_true_eq] at h
 exact ⟨h.1.1, h.1.2, h.2⟩
include hT
theorem sliceV_sound {keep : Nat → Prop} {S : St} {a : Act} {t : TypeId} {b v : AV} {x : Value} {lo hi : Option Operand} (hm : Mems E keep S.objs) (hs : Slots E S.tmps a.tmps)
  (h : (sliceV T S t b lo hi).gives v) (hx : SRep E b x) : ∃ z, (Instr.sliceAt t x (lo.map a.eval) (hi.map a.eval) none).run P w = .ok z w ∧ VRep E v z := by
 unfold sliceV at h
 split at h
 ·rename_i s htd
  obtain ⟨d, hu, rfl⟩ := tab_td hT htd
  split at h
  ·rename_i l hh hl hhi
   obtain ⟨hg, rfl⟩ := h
   obtain ⟨h0, h1, h2⟩ := cutG_of hg
   rw [hx.str_inv]
   refine ⟨.string (s.extract l.toNat hh.toNat), ?_, rfl⟩
   simp [Instr.sliceAt, Instr.slice, run_und hu, bounds_run hs hl hhi h0 h1 h2]
  ·exact h.elim
 ·rename_i e ty xs htd
  obtain ⟨d, hu, rfl⟩ := tab_td hT htd
  split at h
  ·rename_i l hh hl hhi
   cases hb : elemOK T e ty with
   | false => rw [hb] at h; exact h.elim
   | true =>
    rw [hb] at h
    obtain ⟨hg, rfl⟩ := h
    obtain ⟨h0, h1, h2⟩ := cutG_of hg
    obtain ⟨ad, cap, e1, hc, r⟩ := (show TRep E (.sl ty) xs [x] from hx)
    have e1 : x = .slice ad xs.length cap := by simpa using e1
    subst e1
    refine ⟨.slice (if cap = l.toNat then ad else ad.map (·.add (l.toNat * width ty))) (hh.toNat - l.toNat) (cap - l.toNat), ?_, ?_⟩
    ·simp [Instr.sliceAt, Instr.slice, run_und hu, bounds_run hs hl hhi h0 h1 (show hh ≤ cap by have := hc.1; omega), elemOK_size hT hb]
    ·have hlen : ((xs.take hh.toNat).drop l.toNat).length = hh.toNat - l.toNat := by rw [List.length_drop, List.length_take]; omega
     refine ⟨_, _, by rw [hlen], ⟨by have := hc.1; rw [hlen]; omega, fun hn => ?_⟩, ?_⟩
     ·by_cases hcl : cap = l.toNat
      ·omega
      ·rw [if_neg hcl] at hn
       have := hc.2 (by simpa using hn)
       omega
     by_cases hz : hh.toNat - l.toNat = 0
     ·exact .inl (by rw [hlen]; exact hz)
     ·right
      obtain ⟨bb, o, rfl, hro, r⟩ := r.resolve_left (by omega)
      rw [if_neg (by omega)]
      refine ⟨bb, o + l.toNat * width ty, by simp [addr_add], hro, fun i hi => ?_⟩
      obtain ⟨cs, r1, r2⟩ := r (l.toNat + i) (by omega)
      refine ⟨cs, by rw [List.getElem_drop, List.getElem_take]; exact r1, fun j v hj => ?_⟩
      have := r2 j v hj
      rw [Nat.add_mul] at this
      rw [show o + l.toNat * width ty + i * width ty + j = o + (l.toNat * width ty + i * width ty) + j by omega]; exact this
  ·exact h.elim
 ·rename_i e id rg htd
  obtain ⟨d, hu, rfl⟩ := tab_td hT htd
  split at h
  ·rename_i n hn
   obtain ⟨ty, hb, hlen, hwd⟩ := orefN_inv hm hn
   split at h
   ·rename_i l hh hl hhi
    obtain ⟨hg, rfl⟩ := h
    obtain ⟨h0, h1, h2⟩ := cutG_of hg
    obtain ⟨hid, r⟩ := oref_inv hx
    rw [← hlen] at h2 hhi
    split at r
    ·rename_i hblk
     obtain ⟨rfl, e2, e3⟩ := r
     have hl0 : l.toNat = 0 := by omega
     have hh0 : hh.toNat = 0 := by omega
     refine ⟨.slice none 0 0, ?_, hid, ?_⟩
     ·rw [e3] at hhi
      simp [Instr.sliceAt, Instr.slice, run_und hu, bounds_run hs hl hhi h0 h1 (show hh ≤ (0 : Nat) by omega), elemOK_size hT hb, hl0, hh0]
     ·rw [hblk]; exact ⟨rfl, by rw [rOff_some, offAdd_eq]; omega, by rw [rLen_some]; omega⟩
    ·rename_i bb hblk
     obtain ⟨o, cap, rfl, hc, hl2, hcap⟩ := r
     refine ⟨.slice (if cap = l.toNat then some ⟨bb, o, none⟩ else (some (⟨bb, o, none⟩ : Addr)).map (·.add (l.toNat * width ty))) (hh.toNat - l.toNat) (cap - l.toNat), ?_, hid, ?_⟩
     ·simp [Instr.sliceAt, Instr.slice, run_und hu, bounds_run hs hl hhi h0 h1 (show hh ≤ cap by omega), elemOK_size hT hb]
     ·rw [hblk]
      simp only [rOff_some, rLen_some, offAdd_eq]
      by_cases hcl : cap = l.toNat
      ·refine ⟨o, cap - l.toNat, by rw [if_pos hcl], by omega, by omega, .inl (by omega)⟩
      ·have hcap := hcap.resolve_left (by omega)
       refine ⟨o + l.toNat * width ty, cap - l.toNat, by rw [if_neg hcl]; simp [addr_add], by omega, by omega, .inr ⟨?_, by omega⟩⟩
       rw [hcap.1, ← hwd, Nat.add_mul]; omega
   ·exact h.elim
  ·exact h.elim
 ·rename_i n e id off htd
  obtain ⟨d, hu, rfl⟩ := tab_td hT htd
  split at h
  ·rename_i cs ei hlook hei
   split at h
   ·rename_i n' ty lst hcut
    split at h
    ·rename_i l hh hl hhi
     cases hb : (Nat.beq n' n && Nat.beq ei.size (width ty)) with
     | false => rw [hb] at h; exact h.elim
     | true =>
      rw [hb] at h
      obtain ⟨hg, rfl⟩ := h
      rw [Bool.and_eq_true] at hb
      have hsz := Nat.eq_of_beq_eq_true hb.2
      obtain ⟨h0, h1, h2⟩ := cutG_of hg
      obtain ⟨hid, bb, hblk, rfl⟩ := ptr_inv hx
      refine ⟨.slice (some (if n = l.toNat then (⟨bb, off, none⟩ : Addr) else (⟨bb, off, none⟩ : Addr).add (l.toNat * width ty))) (hh.toNat - l.toNat) (n - l.toNat), ?_, hid, by omega, bb, if n = l.toNat then off else off + l.toNat * width ty, hblk, ?_, ?_⟩
      ·simp [Instr.sliceAt, run_und hu, Instr.sureAddr, bounds_run hs hl hhi h0 h1 h2, tab_size hT hei, hsz]
      ·by_cases hc : n = l.toNat
       ·rw [if_pos hc, if_pos hc]
       ·rw [if_neg hc, if_neg hc]; simp [addr_add]
      ·by_cases hc : n = l.toNat
       ·exact .inl hc.symm
       ·right; rw [if_neg hc]
    ·exact h.elim
   ·exact h.elim
  ·exact h.elim
 ·exact h.elim
theorem lenV_sound {keep : Nat → Prop} {S : St} (hm : Mems E keep S.objs) (hwE : w = E.w) {t ty : TypeId} {a v : AV} {x : Value} (h : (lenV T S t a).gives v) (hx : SRep E a x) : ∃ z, (Builtin.len_ #[t] ty #[x]).run P w = .ok z w ∧ VRep E v z := by
 unfold lenV at h
 split at h
 ·rename_i s htd
  obtain ⟨d, hu, rfl⟩ := tab_td hT htd
  cases h
  rw [hx.str_inv]
  exact ⟨_, by simp [Builtin.len_, run_und hu]; rfl, rfl⟩
 ·rename_i e ty l htd
  obtain ⟨d, hu, rfl⟩ := tab_td hT htd
  cases h
  obtain ⟨ad, cap, e1, _⟩ := (show TRep E (.sl ty) l [x] from hx)
  have e1 : x = .slice ad l.length cap := by simpa using e1
  subst e1
  exact ⟨_, by simp [Builtin.len_, run_und hu]; rfl, rfl⟩
 ·rename_i e htd
  obtain ⟨d, hu, rfl⟩ := tab_td hT htd
  cases h
  have e1 : x = .slice none 0 0 := by simpa using (show [x] = [Value.slice none 0 0] from hx)
  subst e1
  exact ⟨_, by simp [Builtin.len_, run_und hu]; rfl, rfl⟩
 ·rename_i e id off n ty lo len htd
  obtain ⟨d, hu, rfl⟩ := tab_td hT htd
  cases h
  obtain ⟨_, _, b, o, _, e1, _⟩ := (show CRep E (.bsl id off n ty lo len) [x] from hx)
  cases e1
  exact ⟨_, by simp [Builtin.len_, run_und hu]; rfl, rfl⟩
 ·rename_i e id rg htd
  obtain ⟨d, hu, rfl⟩ := tab_td hT htd
  split at h
  ·rename_i n hn
   obtain ⟨ty, hb, hlen, _⟩ := orefN_inv hm hn
   cases h
   obtain ⟨hid, r⟩ := oref_inv hx
   rw [hlen] at r
   split at r
   ·obtain ⟨rfl, _, e3⟩ := r
    exact ⟨_, by simp [Builtin.len_, run_und hu]; rfl, by rw [e3]; rfl⟩
   ·obtain ⟨o, cap, rfl, _⟩ := r
    exact ⟨_, by simp [Builtin.len_, run_und hu]; rfl, rfl⟩
  ·exact h.elim
 ·rename_i n e _ htd
  obtain ⟨d, hu, rfl⟩ := tab_td hT htd
  cases h
  exact ⟨_, by simp [Builtin.len_, run_und hu]; rfl, rfl⟩
 ·rename_i kt et id htd
  obtain ⟨d, hu, rfl⟩ := tab_td hT htd
  split at h
  ·rename_i k v es ck hl
   cases h
   obtain ⟨_, b, hb, e1⟩ := (show id < E.N ∧ ∃ b, (E.M id).blk = some b ∧ [x] = [Value.map (some b)] from hx)
   have e1 : x = .map (some b) := by simpa using e1
   subst e1
   obtain ⟨_, b', ms, h1, h2, h3⟩ := hm.rep _ _ hl
   rw [hb] at h1; cases h1
   have hg : (getObj b).run P w = .ok (.map ms ck) w := by rw [hwE]; simp [getObj, Sem.run, h2]
   have hn : ms.size = es.length := by rw [← Array.length_toList, MRep.length h3]
   exact ⟨_, by simp [Builtin.len_, run_und hu, hg]; rfl, by rw [hn]; rfl⟩
  ·exact h.elim
 ·exact h.elim
end
end Go.Rx
namespace Go.Rx
variable [Inhabited GW]
section
variable {P : Program} {T : Tab} (hT : TabOK P T) {E : Env} {w : World}
theorem mapA_get {S : St} {a : Act} (h : Slots E S.tmps a.tmps) : ∀ (l : List Operand) (i : Nat) (y : Value), (l.map a.eval)[i]? = some y → ∃ b, (mapA (ev S) l)[i]? = some b ∧ SRep E b y
 | [], i, y, e => by simp at e
 | x :: l, 0, y, e => by
  simp only [List.map_cons, List.getElem?_cons_zero, Option.some.injEq] at e
  subst e
  exact ⟨_, rfl, ev_rep h x⟩
 | x :: l, i + 1, y, e => by
  simp only [List.map_cons, List.getElem?_cons_succ] at e
  exact mapA_get h l i y e
theorem mapA_len {S : St} : ∀ (l : List Operand), (mapA (ev S) l).length = l.length
 | [] => rfl
 | _ :: l => by simp only [mapA, List.length_cons, mapA_len l]
theorem SRep.cell_int {k : IntKind} {n : Int} : SRep E (.int k n) (.int k n) := rfl
theorem minV_sound (mx : Bool) : ∀ (l : List AV) (a v : AV) (x : Value) (xs : List Value), (minV mx a l).gives v → SRep E a x → (∀ (i : Nat) (y : Value), xs[i]? = some y → ∃ b, l[i]? = some b ∧ SRep E b y) → xs.length = l.length →
  ∃ z, (xs.foldlM (if mx then Builtin.max2 else Builtin.min2) x).run P w = .ok z w ∧ SRep E v z
 | [], a, v, x, xs, h, hx, _, hl => by
  match xs, hl with
  | [], _ => cases h; exact ⟨x, rfl, hx⟩
 | b :: l, a, v, x, xs, h, hx, hxs, hl => by
  match xs, hl, hxs with
  | y :: ys, hl, hxs =>
   obtain ⟨b', e, hy⟩ := hxs 0 y rfl
   cases e
   have ha : (∃ k n, a = .int k n) ∧ (∃ k m, b = .int k m) := by
    cases a <;> cases b <;> first
     | exact h.elim
     | exact ⟨⟨_, _, rfl⟩, _, _, rfl⟩
   obtain ⟨⟨k, n, rfl⟩, k', m, rfl⟩ := ha
   replace h : VR.gives (if k = k' then minV mx (.int k (bif mx then (if n < m then m else n) else (if m < n then m else n))) l else .no) v := h
   split at h
   ·rename_i hk
    subst hk
    rw [hx.int_inv, hy.int_inv]
    obtain ⟨z, h1, h2⟩ := minV_sound mx l _ v _ ys h SRep.cell_int (fun i y e => hxs (i + 1) y e) (by simpa using hl)
    refine ⟨z, ?_, h2⟩
    rw [List.foldlM_cons, Sem.run_bind]
    cases mx
    ·simp only [Bool.false_eq_true, if_false, Builtin.min2, Sem.run_pure, Result.andThen_ok, cond_false] at h1 ⊢; exact h1
    ·simp only [if_true, Builtin.max2, Sem.run_pure, Result.andThen_ok, gt_iff_lt, cond_true] at h1 ⊢; exact h1
   ·exact h.elim
theorem fill_set (place : Nat → Option (Nat × Nat)) (i off size : Nat) (v : Value) (rest : List (Nat × Value)) (cells : Array Value) (hp : place i = some (off, size)) (hs : v.cells.size = size) (hl : off + size ≤ cells.size) :
  Instr.fill place cells ((i, v) :: rest) = Instr.fill place (cells.toList.take off ++ (v.cells.toList ++ cells.toList.drop (off + v.cells.size))).toArray rest := by
 conv => lhs; unfold Instr.fill
 simp only [hp]
 rw [if_neg (by simp; omega)]
 congr 1
 obtain ⟨g1, g2⟩ := Great.foldl_set off v.cells.toList 0 cells
 have e : v.cells.zipIdx.foldl (fun cs (x : Value × Nat) => cs.setIfInBounds (off + x.2) x.1) cells = (v.cells.toList.zipIdx 0).foldl (fun cs (x : Value × Nat) => cs.setIfInBounds (off + x.2) x.1) cells := by
  rw [← Array.foldl_toList, Array.toList_zipIdx]
 refine Eq.trans e ?_
 apply Array.ext_getElem?
 intro k
 rw [g2 k]
 simp only [Nat.add_zero, Array.length_toList, List.getElem?_toArray]
 by_cases h1 : k < off
 ·rw [if_neg (by omega), List.getElem?_append_left (by rw [List.length_take, Array.length_toList]; omega), List.getElem?_take, if_pos h1]; simp
 ·have ht : (List.take off cells.toList).length = off := by rw [List.length_take, Array.length_toList]; omega
  rw [List.getElem?_append_right (by omega), ht]
  by_cases h2 : k < off + v.cells.size
  ·rw [if_pos ⟨by omega, h2, by omega⟩, List.getElem?_append_left (by rw [Array.length_toList]; omega)]
  ·rw [if_neg (by omega), List.getElem?_append_right (by rw [Array.length_toList]; omega), List.getElem?_drop, Array.length_toList]
   simp only [Array.getElem?_toList]
   congr 1
   omega
theorem fillC_sound {pl : Nat → Option (Nat × Nat)} {place : Nat → Option (Nat × Nat)} (hpl : ∀ i x, pl i = some x → place i = some x) {S : St} {a : Act} (hs : Slots E S.tmps a.tmps) :
  ∀ (parts : List (Nat × Operand)) (cs : List AV) (cells : Array Value) (r : List AV), CRepL E cs cells.toList → fillC pl cs (mapP S parts) = some r →
   ∃ out, Instr.fill place cells (parts.map fun p => (p.1, a.eval p.2)) = some out ∧ CRepL E r out.toList
 | [], cs, cells, r, hc, h => by
  cases h
  exact ⟨cells, rfl, hc⟩
 | (i, x) :: rest, cs, cells, r, hc, h => by
  simp only [mapP, fillC] at h
  split at h
  ·rename_i off size new hp hn
   rcases bif_some h with ⟨hb, h⟩ | ⟨_, h⟩
   ·have hb := Nat.eq_of_beq_eq_true hb
    obtain ⟨cs', e1, e2⟩ := oB_some h
    have hnew := cellsOf_rep (ev_rep hs x) hn
    obtain ⟨h1, h2⟩ := splice_rep hc hnew e1
    have hlen := CRepL.length hnew
    simp only [Array.length_toList] at h1 h2 hlen
    have := fill_set place i off size (a.eval x) (rest.map fun p => (p.1, a.eval p.2)) cells (hpl i _ hp) (by omega) (by omega)
    obtain ⟨out, h3, h4⟩ := fillC_sound hpl hs rest cs' (cells.toList.take off ++ ((a.eval x).cells.toList ++ cells.toList.drop (off + (a.eval x).cells.size))).toArray r (by simpa using h2) e2
    exact ⟨out, by rw [List.map_cons, this, h3], h4⟩
   ·cases h
  ·cases h
theorem scal_rep {ty : Ty} {v : AV} {x : den ty} {y : Value} (h : scal ty v = some x) (hv : SRep E v y) : width ty = 1 ∧ TRep E ty x y.cells.toList ∧ y.cells.size = 1 := by
 unfold scal at h
 split at h
 ·split at h
  ·rename_i hk
   subst hk; cases h
   rw [hv.int_inv]; exact ⟨rfl, rfl, rfl⟩
  ·cases h
 ·cases h; rw [hv.bool_inv]; exact ⟨rfl, rfl, rfl⟩
 ·cases h; rw [hv.str_inv]; exact ⟨rfl, rfl, rfl⟩
 ·cases h
theorem setAll_sound {n : Nat} {ty : Ty} {S : St} {a : Act} (hs : Slots E S.tmps a.tmps) :
  ∀ (parts : List (Nat × Operand)) (l : List (den ty)) (cells : Array Value) {l' : List (den ty)}, TRep E (.arr n ty) l cells.toList → setAll ty l (mapP S parts) = some l' →
   ∃ out, Instr.fill (fun i => some (i * width ty, width ty)) cells (parts.map fun p => (p.1, a.eval p.2)) = some out ∧ TRep E (.arr n ty) l' out.toList
 | [], l, cells, l', hc, h => by
  cases h
  exact ⟨cells, rfl, hc⟩
 | (i, x) :: rest, l, cells, l', hc, h => by
  simp only [mapP, setAll] at h
  rcases bif_some h with ⟨hb, h⟩ | ⟨_, h⟩
  ·have hi : i < l.length := Nat.le_of_ble_eq_true hb
   split at h
   ·rename_i y hy
    obtain ⟨h1, h2, h3⟩ := scal_rep hy (ev_rep hs x)
    obtain ⟨c1, c2, c3⟩ := hc
    rw [h1, Nat.mul_one, Array.length_toList] at c2
    have hf := fill_set (fun i => some (i * width ty, width ty)) i (i * width ty) (width ty) (a.eval x) (rest.map fun p => (p.1, a.eval p.2)) cells rfl (by rw [h1]; exact h3) (by rw [h1]; omega)
    have hv1 : (a.eval x).cells.toList.length = 1 := by rw [Array.length_toList]; exact h3
    obtain ⟨v, hv⟩ : ∃ v, (a.eval x).cells.toList = [v] := by
     match hvl : (a.eval x).cells.toList, hv1 with
     | [v], _ => exact ⟨v, rfl⟩
    have hcells : (cells.toList.take (i * width ty) ++ ((a.eval x).cells.toList ++ cells.toList.drop (i * width ty + (a.eval x).cells.size))) = cells.toList.set i v := by
     rw [h1, h3, Nat.mul_one, hv, List.set_eq_take_append_cons_drop, if_pos (by rw [Array.length_toList]; omega)]
     rfl
    rw [hcells] at hf
    have hr : TRep E (.arr n ty) (l.set i y) (cells.toList.set i v).toArray.toList := by
     refine ⟨by rw [List.length_set]; exact c1, by simp [h1, c2], fun j hj => ?_⟩
     rw [List.length_set] at hj
     obtain ⟨cs, r1, r2⟩ := c3 j hj
     by_cases e : i = j
     ·subst e
      refine ⟨[v], by rw [List.getElem_set_self]; rw [← hv]; exact h2, fun k u hk => ?_⟩
      cases k with
      | zero =>
       cases hk
       rw [h1, Nat.mul_one, Nat.add_zero]
       show (cells.toList.set i v)[i]? = some v
       rw [List.getElem?_set_self (by rw [Array.length_toList]; omega)]
      | succ k => cases hk
     ·refine ⟨cs, by rw [List.getElem_set_ne e]; exact r1, fun k u hk => ?_⟩
      have hk0 : k = 0 := by
       have := TRep.length r1
       rw [h1] at this
       have := (List.getElem?_eq_some_iff.1 hk).1
       omega
      subst hk0
      have := r2 0 u hk
      rw [h1, Nat.mul_one, Nat.add_zero] at this ⊢
      show (cells.toList.set i v)[j]? = some u
      rw [List.getElem?_set_ne e]; exact this
    obtain ⟨out, g1, g2⟩ := setAll_sound hs rest (l.set i y) (cells.toList.set i v).toArray hr h
    exact ⟨out, by rw [List.map_cons, hf, g1], g2⟩
   ·cases h
  ·cases h
include hT
theorem buildV_sound {S : St} {a : Act} (hs : Slots E S.tmps a.tmps) {t : TypeId} {parts : Array (Nat × Operand)} {v : AV} (h : (buildV T t (mapP S parts.toList)).gives v) :
  ∃ z, (Instr.build t (parts.map fun (i, x) => (i, a.eval x))).run P w = .ok z w ∧ VRep E v z := by
 unfold buildV at h
 split at h
 ·rename_i i hi
  split at h
  ·rename_i fs htd
   obtain ⟨r, e1, rfl⟩ := oM_some (ofOpt_gives h)
   obtain ⟨inf, hinf, _, _, z, hz, hzc, _⟩ := (hT t i hi).info
   obtain ⟨d, hu, hd⟩ := (hT t i hi).und
   rw [htd] at hd
   obtain ⟨F, rfl, rfl⟩ := hd
   obtain ⟨places, hp⟩ := (hT t i hi).fsz _ htd
   rw [List.mapM_map] at hp
   have hpl : ∀ j x, (oB (nthF (F.toList.map fun f => (f.offset, f.type)) j) fun f => oM (tget f.2 T) fun fi => (f.1, fi.size)) = some x → places.toArray[j]? = some x := by
    intro j x hx
    obtain ⟨f, hf, hx⟩ := oB_some hx
    obtain ⟨fi, hfi, rfl⟩ := oM_some hx
    rw [nthF_get, List.getElem?_map] at hf
    cases hF : F.toList[j]? with
    | none => rw [hF] at hf; cases hf
    | some g =>
     rw [hF] at hf
     cases hf
     have key : ∀ (l : List Field) (r : List (Nat × Nat)) (j : Nat) (g : Field), l.mapM (fun f => (P.info? f.type).map fun i => (f.offset, i.size)) = some r → l[j]? = some g →
       ∃ y, r[j]? = some y ∧ (P.info? g.type).map (fun i => (g.offset, i.size)) = some y := by
      intro l
      induction l with
      | nil => intro r j g _ hj; cases hj
      | cons f l ih =>
       intro r j g hr hj
       simp only [List.mapM_cons, Option.bind_eq_bind, Option.pure_def] at hr
       cases hi : (P.info? f.type).map (fun i => (f.offset, i.size)) with
       | none => rw [hi] at hr; cases hr
       | some u =>
        cases hr2 : l.mapM (fun f => (P.info? f.type).map fun i => (f.offset, i.size)) with
        | none => rw [hi, hr2] at hr; cases hr
        | some r2 =>
         rw [hi, hr2] at hr
         cases hr
         cases j with
         | zero => cases hj; exact ⟨u, rfl, hi⟩
         | succ j => exact ih r2 j g hr2 hj
     obtain ⟨y, h1, h2⟩ := key _ _ j g hp hF
     obtain ⟨finf, hfinf, hfs, _⟩ := (hT _ _ hfi).info
     rw [hfinf] at h2
     cases h2
     rw [← hfs]
     simpa using h1
   obtain ⟨out, h1, h2⟩ := fillC_sound (E := E) hpl hs parts.toList i.zc z.cells r (hzc E) e1
   refine ⟨_, run_build w t _ out ?_, ?_⟩
   ·have hp' : F.toList.mapM (fun f => (P.info? f.type).map fun i => (f.offset, i.size)) = some places := hp
    simp only [Program.built, hinf, hu, hz, hp']
    rw [Array.toList_map]
    exact h1
   ·exact ⟨out.toList, by simp, h2⟩
  ·rename_i n e htd
   split at h
   ·rename_i n' ty l hzc
    cases hb : (Nat.beq n' n && elemOK T e ty) with
    | false => rw [hb] at h; exact h.elim
    | true =>
     rw [hb] at h
     rw [Bool.and_eq_true] at hb
     have hn := Nat.eq_of_beq_eq_true hb.1
     subst hn
     obtain ⟨l', e1, rfl⟩ := oM_some (ofOpt_gives h)
     obtain ⟨inf, hinf, _, _, z, hz, hzcr, _⟩ := (hT t i hi).info
     obtain ⟨d, hu, hd⟩ := (hT t i hi).und
     rw [htd] at hd
     have hd : d = .array n' e := hd
     subst hd
     have hzr : TRep E (.arr n' ty) l z.cells.toList := by
      have := hzcr E
      rw [hzc] at this
      obtain ⟨u, r, e, r1, r2⟩ := this
      rw [e, show r = [] from r2, List.append_nil]; exact r1
     have hel : ∃ ie, P.info? e = some ie ∧ ie.size = width ty := by
      have h2 := hb.2
      unfold elemOK at h2
      split at h2
      ·rename_i i' hi'
       obtain ⟨inf', h3, h4, _⟩ := (hT e i' hi').info
       exact ⟨inf', h3, by rw [h4, Nat.eq_of_beq_eq_true h2]⟩
      ·cases h2
     obtain ⟨ie, hie, hies⟩ := hel
     obtain ⟨out, h1, h2⟩ := setAll_sound (E := E) hs parts.toList l z.cells hzr e1
     refine ⟨_, run_build w t _ out ?_, ?_⟩
     ·simp only [Program.built, hinf, hu, hz, hie, hies]
      rw [Array.toList_map]
      exact h1
     ·exact ⟨out.toList, by simp, out.toList, [], by simp, h2, rfl⟩
   ·split at h
    ·rename_i ei hei
     obtain ⟨r, e1, rfl⟩ := oM_some (ofOpt_gives h)
     obtain ⟨inf, hinf, _, _, z, hz, hzcr, _⟩ := (hT t i hi).info
     obtain ⟨d, hu, hd⟩ := (hT t i hi).und
     rw [htd] at hd
     have hd : d = .array n e := hd
     subst hd
     obtain ⟨ie, hie, hies, _⟩ := (hT e ei hei).info
     obtain ⟨out, h1, h2⟩ := fillC_sound (E := E) (pl := fun j => some (j * ei.size, ei.size)) (place := fun j => some (j * ie.size, ie.size)) (fun j x hx => by rw [hies]; exact hx) hs parts.toList i.zc z.cells r (hzcr E) e1
     refine ⟨_, run_build w t _ out ?_, ?_⟩
     ·simp only [Program.built, hinf, hu, hz, hie]
      rw [Array.toList_map]
      exact h1
     ·exact ⟨out.toList, by simp, h2⟩
    ·exact h.elim
  ·exact h.elim
 ·exact h.elim
omit hT
theorem conv_bytes {src dst e : TypeId} (hs : P.underlying src = some (.slice e)) (he : P.underlying e = some (.int .u8)) (hd : P.underlying dst = some .string) {a : Option Addr} {cap : Nat} {l : List Int}
  (h : l = [] ∨ ∃ b o, a = some ⟨b, o, none⟩ ∧ ∀ i, (hi : i < l.length) → w.cell? ⟨b, o + i, none⟩ = some (.int .u8 l[i])) : (convert src dst (.slice a l.length cap)).run P w = .ok (.string (strOf l)) w := by
 rcases h with rfl | ⟨b, o, rfl, h⟩
 ·cases a with
  | none => rw [run_convert_bytes_string w src dst e _ _ cap hs he hd]; simp [Conv.bytesToString]; rfl
  | some a =>
   have hl : (loadCells a 0).run P w = .ok (([] : List Int).map (Value.int .u8)).toArray w := run_loadCells_list (P := P) w a [] fun j v hj => by simp at hj
   rw [run_convert_bytes_string w src dst e _ _ cap hs he hd]
   exact run_bytesToString w a 0 cap [] hl
 ·exact run_convert_bytes_arg w src e hs he b o l.length cap l rfl (fun i hi => by
   rw [h i hi]
   simp [List.getD, List.getElem?_eq_getElem hi]) dst hd
include hT
theorem isU8_und {e : TypeId} (h : isU8 T e = true) : P.underlying e = some (.int .u8) := by
 unfold isU8 tdOf at h
 cases hi : tget e T with
 | none => rw [hi] at h; cases h
 | some i =>
  rw [hi] at h
  split at h
  ·rename_i h'
   obtain ⟨d, hu, hd⟩ := (hT _ _ hi).und
   have h' : i.td = .int .u8 := by simpa using h'
   rw [h'] at hd
   rw [hu, show d = _ from hd]
  ·cases h
theorem convV_sound {keep : Nat → Prop} {S : St} (hm : Mems E keep S.objs) {src dst : TypeId} {a v : AV} {x : Value} (h : (convV T S src dst a).gives v) (hx : SRep E a x) : ∃ z, (convert src dst x).run P E.w = .ok z E.w ∧ VRep E v z := by
 unfold convV at h
 split at h
 ·rename_i i j hi hj
  obtain ⟨d, hu, hd⟩ := (hT _ _ hi).und
  obtain ⟨d', hu', hd'⟩ := (hT _ _ hj).und
  split at h
  ·rename_i k k' n hjk
   cases h
   rw [hjk] at hd'
   rw [show d' = _ from hd'] at hu'
   rw [hx.int_inv]
   exact ⟨.int k (k.wrap n), by cases d <;> simp [convert, run_und hu, run_und hu', Conv.intToInt], rfl⟩
  ·rename_i s hik hjk
   cases h
   rw [hik] at hd
   rw [hjk] at hd'
   rw [show d = _ from hd] at hu
   rw [show d' = _ from hd'] at hu'
   rw [hx.str_inv]
   exact ⟨.string s, by simp [convert, run_und hu, run_und hu'], rfl⟩
  ·rename_i kk n hik hjk
   cases h
   rw [hik] at hd
   rw [hjk] at hd'
   rw [show d = _ from hd] at hu
   rw [show d' = _ from hd'] at hu'
   rw [hx.int_inv]
   exact ⟨.string (Utf8.encode n), by simp [convert, run_und hu, run_und hu', Conv.intToString], rfl⟩
  ·rename_i e l hik hjk
   cases hb : isU8 T e with
   | false => rw [hb] at h; exact h.elim
   | true =>
    rw [hb] at h
    cases h
    rw [hik] at hd
    rw [hjk] at hd'
    rw [show d = _ from hd] at hu
    rw [show d' = _ from hd'] at hu'
    obtain ⟨a, cap, e1, _, h3⟩ := (show TRep E (.sl (.int .u8)) l [x] from hx)
    cases e1
    refine ⟨_, conv_bytes hu (isU8_und hT hb) hu' (h3.imp (fun h => List.length_eq_zero_iff.1 h) ?_), rfl⟩
    rintro ⟨b, o, rfl, _, h4⟩
    refine ⟨b, o, rfl, fun i hi => ?_⟩
    obtain ⟨cs, r1, r2⟩ := h4 i hi
    have r1 : cs = [.int .u8 l[i]] := r1
    subst r1
    simpa [width] using r2 0 _ rfl
  ·rename_i e hik hjk
   cases hb : isU8 T e with
   | false => rw [hb] at h; exact h.elim
   | true =>
    rw [hb] at h
    cases h
    rw [hik] at hd
    rw [hjk] at hd'
    rw [show d = _ from hd] at hu
    rw [show d' = _ from hd'] at hu'
    have e1 : [x] = [Value.slice none 0 0] := hx
    cases e1
    exact ⟨_, conv_bytes (l := []) hu (isU8_und hT hb) hu' (.inl rfl), rfl⟩
  ·rename_i e id rg hik hjk
   split at h
   ·rename_i l hl
    cases hb : isU8 T e with
    | false => rw [hb] at h; exact h.elim
    | true =>
     rw [hb] at h
     cases h
     rw [hik] at hd
     rw [hjk] at hd'
     rw [show d = _ from hd] at hu
     rw [show d' = _ from hd'] at hu'
     obtain ⟨_, hor⟩ := oref_inv hx
     obtain ⟨hlen, hwd, ho⟩ := (hm.rep _ _ hl).2
     cases hblk : (E.M id).blk with
     | none =>
      rw [hblk] at hor ho
      obtain ⟨rfl, _, _⟩ := hor
      have ho : l = [] := ho
      subst ho
      have : rTake ([] : List Int) rg = [] := by cases rg <;> simp [rTake]
      refine ⟨_, conv_bytes (l := []) hu (isU8_und hT hb) hu' (.inl rfl), ?_⟩
      rw [show rTake ([] : List (den (.int .u8))) rg = ([] : List Int) from this]
      rfl
     | some b =>
      rw [hblk] at hor ho
      obtain ⟨o, cap, rfl, h5, h6, h7⟩ := hor
      obtain ⟨vs, et, h8, h9, h10, h11⟩ := ho
      have hlt : (rTake l rg).length = rLen (E.M id).len rg := by
       rw [hlen] at h6 ⊢
       cases rg with
       | none => rfl
       | some p =>
        simp only [rTake, rLen, rOff, List.length_take, List.length_drop] at h6 ⊢
        omega
      rw [← hlt]
      refine ⟨_, conv_bytes (l := rTake l rg) hu (isU8_und hT hb) hu' ?_, rfl⟩
      by_cases hz : rTake l rg = []
      ·exact .inl hz
      ·right
       have hpos : 0 < (rTake l rg).length := List.length_pos_iff.2 hz
       have hc : cap ≠ 0 := by rw [hlt] at hpos; omega
       obtain ⟨h12, h13⟩ := h7.resolve_left hc
       refine ⟨b, o, rfl, fun i hi => ?_⟩
       have hi' : rOff rg + i < l.length := by rw [hlt] at hi; rw [← hlen]; omega
       have hget : (rTake l rg)[i] = l[rOff rg + i] := by
        cases rg with
        | none => simp [rTake, rOff]
        | some p => simp [rTake, rOff]
       obtain ⟨cs, r1, r2⟩ := h11 (rOff rg + i) hi'
       have r1 : cs = [.int .u8 l[rOff rg + i]] := r1
       subst r1
       have := r2 0 _ rfl
       have e1 : (E.M id).base + rOff rg * width (.int .u8) + i = (E.M id).base + (rOff rg + i) * width (.int .u8) + 0 := by simp only [width]; omega
       have e2 : E.w.cell? ⟨b, o + i, none⟩ = vs[o + i]? := by simp [World.cell?, h8]
       rw [e2, h12, hwd, e1, this, hget]
   ·exact h.elim
  ·exact h.elim
 ·exact h.elim
omit hT
theorem funcV_sound {S : St} {a : Act} (hs : Slots E S.tmps a.tmps) {f : FuncId} {first caps : Array Operand} {v : AV} (h : (funcV f (mapA (ev S) first.toList) (mapA (ev S) caps.toList)).gives v) :
  VRep E v (.func (.func f) (first.map a.eval) (caps.map a.eval)) := by
 unfold funcV at h
 cases hb : (allCell (mapA (ev S) first.toList) && allCell (mapA (ev S) caps.toList)) with
 | false => rw [hb] at h; exact h.elim
 | true =>
  rw [hb] at h
  cases h
  rw [Bool.and_eq_true] at hb
  refine ⟨_, _, rfl, ?_, ?_⟩
  ·rw [Array.toList_map]; exact mapA_rep hs _ hb.1
  ·rw [Array.toList_map]; exact mapA_rep hs _ hb.2
theorem cell_toV {a : AV} {x : Value} (h : isCell a = true) (r : CRep E a [x]) : VRep E a x := by
 cases a <;> first
  | exact r
  | exact nomatch h
theorem isCell_w {a : AV} (h : isCell a = true) : a.w = 1 := by
 cases a <;> first
  | rfl
  | exact nomatch h
theorem CRepF.ofL : ∀ {l : List AV} {vs : List Value}, allCell l = true → CRepL E l vs → CRepF E l vs
 | [], _, _, r => r
 | a :: l, vs, h, r => by
  simp only [allCell, Bool.and_eq_true] at h
  obtain ⟨u, s, rfl, r1, r2⟩ := r
  have hu : u.length = 1 := by rw [CRep.length r1, isCell_w h.1]
  match u, hu, r1 with
  | [v], _, r1 => exact ⟨v, s, rfl, h.1, r1, CRepF.ofL h.2 r2⟩
theorem CRepF.toL : ∀ {l : List AV} {vs : List Value}, CRepF E l vs → CRepL E l vs
 | [], _, r => r
 | a :: l, vs, r => by
  obtain ⟨v, s, rfl, _, r1, r2⟩ := r
  exact ⟨[v], s, rfl, r1, CRepF.toL r2⟩
include hT in
theorem concT_und {t : TypeId} (h : concT T t = true) : ∃ d, P.underlying t = some d ∧ (∀ m, d ≠ .interface m) ∧ ∃ i, tget t T = some i := by
 unfold concT tdOf at h
 cases hi : tget t T with
 | none => rw [hi] at h; exact nomatch h
 | some i =>
  rw [hi] at h
  dsimp only at h
  obtain ⟨d, hd, ht⟩ := (hT t i hi).und
  refine ⟨d, hd, fun m e => ?_, i, rfl⟩
  subst e
  cases htd : i.td with
  | other => rw [htd] at h; exact nomatch h
  | st fs => rw [htd] at ht; obtain ⟨_, e, _⟩ := ht; cases e
  | fn => rw [htd] at ht; obtain ⟨_, _, _, e⟩ := ht; cases e
  | _ => rw [htd] at ht; cases ht
include hT in
theorem ifaceV_sound {t : TypeId} {a v : AV} {x : Value} (h : (ifaceV T t a).gives v) (hx : SRep E a x) : ∃ z, (Instr.makeInterface t x).run P w = .ok z w ∧ VRep E v z := by
 unfold ifaceV at h
 cases hc : concT T t with
 | false => rw [hc] at h; exact h.elim
 | true =>
  rw [hc] at h
  obtain ⟨d, hd, hn, _⟩ := concT_und hT hc
  have hrun : (Instr.makeInterface t x).run P w = .ok (.iface t x) w := by
   unfold Instr.makeInterface
   simp only [Sem.run_bind, run_und hd, Result.andThen_ok]
   cases d <;> first
    | rfl
    | exact absurd rfl (hn _)
  refine ⟨_, hrun, ?_⟩
  simp only [cond_true] at h
  split at h
  ·rename_i cs
   cases hac : allCell cs with
   | false => rw [hac] at h; exact h.elim
   | true =>
    rw [hac] at h
    cases h
    obtain ⟨vs, e, r⟩ := hx
    exact ⟨vs, CRepF.ofL hac r, x, rfl, .inl ⟨rfl, e⟩⟩
  ·cases hac : isCell a with
   | false => rw [hac] at h; exact h.elim
   | true =>
    rw [hac] at h
    cases h
    exact ⟨[x], ⟨x, [], rfl, hac, cell_rep hx hac, rfl⟩, x, rfl, .inr ⟨rfl, rfl⟩⟩
theorem unI_rep {u : TypeId} {ag : Bool} {cs : List AV} {x : Value} (hx : SRep E (.iface u ag cs) x) : ∃ y, x = .iface u y ∧ VRep E (unI ag cs) y := by
 obtain ⟨ws, r, y, e, h⟩ := (show CRep E (.iface u ag cs) [x] from hx)
 have e : x = .iface u y := by simpa using e
 refine ⟨y, e, ?_⟩
 rcases h with ⟨rfl, hy⟩ | ⟨rfl, hy⟩
 ·exact ⟨ws, hy, CRepF.toL r⟩
 ·subst hy
  cases cs with
  | nil => exact nomatch r
  | cons a l =>
   obtain ⟨v, s, e2, hc, r1, r2⟩ := r
   cases e2
   exact cell_toV hc r1
include hT in
theorem zeroV_sound {t : TypeId} {z : AV} (h : zeroV T t = some z) : ∃ y, (zeroValue t).run P w = .ok y w ∧ VRep E z y := by
 unfold zeroV at h
 split at h
 ·rename_i i hi
  obtain ⟨inf, h1, _, _, y, h4, h5, _, h7⟩ := (hT t i hi).info
  refine ⟨y, by simp [zeroValue, run_info h1, h4], ?_⟩
  have := valOf_rep (h5 E) h
  unfold mkV at this
  cases ha : i.td.isAgg with
  | true => rw [ha] at h7 this; simp only [if_true] at h7 this; rw [h7]; simpa using this
  | false => rw [ha] at h7 this; simp only [Bool.false_eq_true, if_false] at h7 this; rw [h7] at this; simpa using this
 ·cases h
include hT in
theorem missV_sound {t u : TypeId} {ok : Bool} {v : AV} {x : Value} {a b : Option TypeId} {s : String} (h : (missV T t ok).gives v) :
  ∃ z, ((if ok then do pure (.tuple #[← zeroValue t, .bool false]) else runtimePanic (.typeAssertion a b u s) : Sem Value)).run P w = .ok z w ∧ SRep E v z := by
 unfold missV at h
 split at h
 ·rename_i z hz
  cases h
  obtain ⟨y, h1, h2⟩ := zeroV_sound (E := E) (w := w) hT hz
  exact ⟨.tuple #[y, .bool false], by simp [h1], [y, .bool false], rfl, _, _, rfl, h2, _, _, rfl, rfl, rfl⟩
 ·exact h.elim
include hT in
theorem assertV_sound {s t : TypeId} {ok : Bool} {a v : AV} {x : Value} (h : (assertV T t ok a).gives v) (hx : SRep E a x) : ∃ z, (Instr.typeAssert x s t ok).run P w = .ok z w ∧ SRep E v z := by
 unfold assertV at h
 cases hc : concT T t with
 | false => rw [hc] at h; exact h.elim
 | true =>
  rw [hc] at h
  obtain ⟨d, hd, hn, _⟩ := concT_und hT hc
  simp only [cond_true] at h
  split at h
  ·rename_i u ag cs
   obtain ⟨y, rfl, hy⟩ := unI_rep hx
   have hrun : ∀ r : Result Value, (if u = t then (pure (if ok then .tuple #[y, .bool true] else y) : Sem Value) else (if ok then do pure (.tuple #[← zeroValue t, .bool false]) else runtimePanic (.typeAssertion (some s) (some u) t ""))).run P w = r → (Instr.typeAssert (.iface u y) s t ok).run P w = r := fun r hr => by
    rw [← hr]
    unfold Instr.typeAssert
    simp only [Sem.run_bind, run_und hd, Result.andThen_ok]
   cases hb : Nat.beq u t with
   | true =>
    have he : u = t := Nat.eq_of_beq_eq_true hb
    rw [hb] at h
    simp only [cond_true] at h
    cases ok with
    | true =>
     cases h
     exact ⟨.tuple #[y, .bool true], hrun _ (by rw [if_pos he]; rfl), [y, .bool true], rfl, _, _, rfl, hy, _, _, rfl, rfl, rfl⟩
    | false =>
     cases h
     exact ⟨y, hrun _ (by rw [if_pos he]; rfl), hy.toS⟩
   | false =>
    have he : u ≠ t := fun e => by rw [e, Nat.beq_refl] at hb; cases hb
    rw [hb] at h
    simp only [cond_false] at h
    obtain ⟨z, h1, h2⟩ := missV_sound (E := E) (w := w) (u := t) (a := some s) (b := some u) (s := "") hT (x := y) h
    exact ⟨z, hrun _ (by rw [if_neg he]; exact h1), h2⟩
  ·have e : x = .nilIface := by
    have : [x] = [.nilIface] := (show CRep E .nili [x] from hx)
    simpa using this
   subst e
   obtain ⟨z, h1, h2⟩ := missV_sound (E := E) (w := w) (u := t) (a := some s) (b := none) (s := "") hT (x := .nilIface) h
   refine ⟨z, ?_, h2⟩
   rw [← h1]
   unfold Instr.typeAssert
   simp only [Sem.run_bind, run_und hd, Result.andThen_ok]
  ·exact h.elim
theorem run_v {s : Sem Value} {x : Value} {w' : World} (h : s.run P w = .ok x w') : (do pure (Next.value (← s)) : Sem Next).run P w = .ok (.value x) w' := by
 rw [Sem.run_bind, h]; rfl
include hT
theorem pure_sound {keep : Nat → Prop} {S : St} {a : Act} (hs : Slots E S.tmps a.tmps) (hm : Mems E keep S.objs) (o : Oper) {v : AV} (h : (pureOp T S o.op).gives v) :
  ∃ x, (execOp a.eval o).run P E.w = .ok (.value x) E.w ∧ SRep E v x := by
 obtain ⟨dst, op, type, pos, after, guard⟩ := o
 simp only at h
 unfold pureOp at h
 split at h
 ·cases h; exact ⟨_, rfl, ev_rep hs _⟩
 ·cases h; exact ⟨_, rfl, ev_rep hs _⟩
 ·rename_i c x y
  obtain ⟨z, h1, h2⟩ := pickV_sound (P := P) (w := E.w) h (ev_rep hs c) (ev_rep hs x) (ev_rep hs y)
  refine ⟨z, ?_, h2⟩
  have := run_v h1
  simp only [execOp]
  simpa using this
 ·obtain ⟨z, h1, h2⟩ := buildV_sound hT hs h
  exact ⟨z, run_v h1, h2.toS⟩
 ·rename_i t x
  obtain ⟨z, h1, h2⟩ := loadV_sound hT hm h (ev_rep hs x)
  exact ⟨z, run_v h1, h2.toS⟩
 ·rename_i x
  have hx := ev_rep hs x
  simp only [execOp]
  split at h
  ·rename_i id off e
   cases h
   rw [e] at hx
   obtain ⟨_, b, _, e2⟩ := ptr_inv hx
   exact ⟨_, by rw [e2]; rfl, by rw [← e2]; exact hx⟩
  ·rename_i e
   cases h
   rw [e] at hx
   obtain ⟨_, _, b, _, e2⟩ := ptrA_inv hx
   exact ⟨_, by rw [e2]; rfl, by rw [← e2]; exact hx⟩
  ·rename_i e
   cases h
   rw [e] at hx
   obtain ⟨_, _, b, _, e2⟩ := ptrO_inv hx
   exact ⟨_, by rw [e2]; rfl, by rw [← e2]; exact hx⟩
  ·rename_i e
   cases h
   rw [e] at hx
   obtain ⟨_, b, o, _, e2, _⟩ := ptrR_inv hx
   exact ⟨_, by rw [e2]; rfl, by rw [← e2]; exact hx⟩
  ·rename_i e
   cases h
   rw [e] at hx
   have e2 := gptr_inv hx
   exact ⟨_, by rw [e2]; rfl, by rw [← e2]; exact hx⟩
  ·rename_i c e
   cases h
   rw [e] at hx
   obtain ⟨b, cv, ty, e2, _⟩ := (show CRep E _ [a.eval x] from hx)
   have e2 : a.eval x = .pointer (some ⟨b, 0, none⟩) := by simpa using e2
   exact ⟨_, by rw [e2]; rfl, by rw [← e2]; exact hx⟩
  ·rename_i f l1 l2 e
   cases h
   rw [e] at hx
   obtain ⟨A, B, e2, _⟩ := (show CRep E _ [a.eval x] from hx)
   have e2 : a.eval x = .func (.func f) A B := by simpa using e2
   exact ⟨_, by rw [e2]; rfl, by rw [← e2]; exact hx⟩
  ·exact h.elim
 ·rename_i op t x y _
  obtain ⟨z, h1, h2⟩ := binV_sound hT (w := E.w) (aggEq hT) h (ev_rep hs x) (ev_rep hs y) x y
  exact ⟨z, run_v h1, h2⟩
 ·rename_i op t x
  obtain ⟨z, h1, h2⟩ := unV_sound (P := P) (w := E.w) h (ev_rep hs x)
  exact ⟨z, run_v h1, h2⟩
 ·rename_i src dst x
  obtain ⟨z, h1, h2⟩ := convV_sound hT hm h (ev_rep hs x)
  exact ⟨z, run_v h1, h2.toS⟩
 ·exact ⟨_, rfl, (funcV_sound hs h).toS⟩
 ·rename_i t x lo hi
  obtain ⟨z, h1, h2⟩ := sliceV_sound hT (w := E.w) hm hs h (ev_rep hs x)
  exact ⟨z, run_v h1, h2.toS⟩
 ·rename_i t x f
  obtain ⟨z, h1, h2⟩ := fieldAV_sound hT (w := E.w) hm h (ev_rep hs x)
  exact ⟨z, run_v h1, h2.toS⟩
 ·rename_i t x f
  obtain ⟨z, h1, h2⟩ := fieldV_sound hT (w := E.w) h (ev_rep hs x)
  exact ⟨z, run_v h1, h2.toS⟩
 ·rename_i t x ix
  obtain ⟨z, h1, h2⟩ := indexAV_sound hT (w := E.w) hm h (ev_rep hs x) (ev_rep hs ix)
  exact ⟨z, run_v h1, h2.toS⟩
 ·rename_i t x ix
  obtain ⟨z, h1, h2⟩ := indexV_sound hT (w := E.w) h (ev_rep hs x) (ev_rep hs ix)
  exact ⟨z, run_v h1, h2.toS⟩
 ·rename_i x ix
  have hx := ev_rep hs x
  split at h
  ·rename_i vs e
   rw [e] at hx
   obtain ⟨us, e2, hr⟩ := hx
   obtain ⟨y, h1, h2⟩ := nthA_rep hr (ofOpt_gives h)
   refine ⟨y, run_v ?_, h2.toS⟩
   rw [e2]
   simp [Instr.extract, h1]
  ·exact h.elim
 ·rename_i args argTypes
  split at h
  ·rename_i x t e1 e2
   have e1 := toList_one e1
   have e2 := toList_one e2
   subst e1 e2
   obtain ⟨z, h1, h2⟩ := lenV_sound hT (w := E.w) hm rfl (ty := type) h (ev_rep hs x)
   refine ⟨z, ?_, h2.toS⟩
   simp [execOp, resolve, invoke, builtin, h1]
  ·exact h.elim
 ·rename_i args argTypes
  cases hl : args.toList with
  | nil => rw [hl] at h; exact h.elim
  | cons p ps =>
   rw [hl] at h
   obtain ⟨z, h1, h2⟩ := minV_sound (P := P) (w := E.w) false (mapA (ev S) ps) _ v (a.eval p) (ps.map a.eval) h (ev_rep hs p) (mapA_get hs ps) (by rw [mapA_len, List.length_map])
   refine ⟨z, ?_, h2⟩
   have e : (args.map a.eval).toList = a.eval p :: ps.map a.eval := by rw [Array.toList_map, hl]; rfl
   have : (Builtin.min_ argTypes type (args.map a.eval)).run P E.w = .ok z E.w := by
    unfold Builtin.min_
    rw [e]; exact h1
   simp [execOp, resolve, invoke, builtin, this]
 ·rename_i args argTypes
  cases hl : args.toList with
  | nil => rw [hl] at h; exact h.elim
  | cons p ps =>
   rw [hl] at h
   obtain ⟨z, h1, h2⟩ := minV_sound (P := P) (w := E.w) true (mapA (ev S) ps) _ v (a.eval p) (ps.map a.eval) h (ev_rep hs p) (mapA_get hs ps) (by rw [mapA_len, List.length_map])
   refine ⟨z, ?_, h2⟩
   have e : (args.map a.eval).toList = a.eval p :: ps.map a.eval := by rw [Array.toList_map, hl]; rfl
   have : (Builtin.max_ argTypes type (args.map a.eval)).run P E.w = .ok z E.w := by
    unfold Builtin.max_
    rw [e]; exact h1
   simp [execOp, resolve, invoke, builtin, this]
 ·rename_i t x
  obtain ⟨z, h1, h2⟩ := ifaceV_sound hT (w := E.w) h (ev_rep hs x)
  exact ⟨z, run_v h1, h2.toS⟩
 ·rename_i x s t ok
  obtain ⟨z, h1, h2⟩ := assertV_sound hT (w := E.w) (s := s) h (ev_rep hs x)
  exact ⟨z, run_v h1, h2⟩
 ·rename_i t m k ok
  obtain ⟨z, h1, h2⟩ := lookV_sound hT hm h (ev_rep hs m) (ev_rep hs k)
  exact ⟨z, run_v h1, h2⟩
 ·exact h.elim
end
end Go.Rx
