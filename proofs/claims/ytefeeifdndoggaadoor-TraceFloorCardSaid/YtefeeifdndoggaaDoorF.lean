/- Parts of a proof: evaluation of Go code over typed values, and what it computes. -/
import Derived.Test.YtefeeifdndoggaaDoorX1
import Derived.Lib.ItoaNum
set_option linter.unusedSimpArgs false
set_option linter.unusedVariables false
set_option linter.unusedSectionVars false
set_option linter.unusedVariables false
set_option maxRecDepth 100000
namespace Go.Sq
open Go.Rx
noncomputable def g_freq_last (a0 : List Int) : Option (Int) :=
 bif (within (IntKind.i64.wrap ((a0.length : Int) - 1)) a0.length) then
 some (a0.getD ((IntKind.i64.wrap ((a0.length : Int) - 1)).toNat) 0)
 else none
noncomputable def g_coder_interval_move (a0 : Int × Int) : Option (Int × Int) :=
 bif (decide (a0.2 < 2147483648)) then
 some (0, 0)
 else
 bif (decide (a0.1 ≥ 2147483648)) then
 some (2147483648, 1)
 else
 (bif (decide (a0.1 ≥ 1073741824)) then
 some ((decide (a0.2 < 3221225472)), ())
 else
 some (false, ()) : Option ((Bool × Unit))).bind fun j1 => 
 bif j1.1 then
 some (1073741824, 2)
 else
 some (0, 3)
noncomputable def g_coder_interval_good (a0 : Int × Int) : Option (Bool) :=
 (g_coder_interval_move (a0.1, a0.2)).bind fun y1 =>
 bif (decide (a0.1 < a0.2)) then
 some (y1.2 == 3)
 else
 some false
noncomputable def g_bits_Check (a0 : List Int × Int) : Option (Int) :=
 (bif (decide (a0.2 < 0)) then
 some (true, (a0.1, a0.2), ())
 else
 bif (decide (a0.2 > 65536)) then
 some (true, (a0.1, a0.2), ())
 else
 some (((a0.1.length : Int) != (IntKind.i64.wrap ((IntKind.i64.wrap (a0.2 + 7)).tdiv 8))), (a0.1, a0.2), ()) : Option ((Bool × (List Int × Int) × Unit))).bind fun j1 => 
 bif j1.1 then
 some 1
 else
 (bif (decide ((j1.2.1.2.tmod 8) > 0)) then
 bif (within (IntKind.i64.wrap ((j1.2.1.1.length : Int) - 1)) j1.2.1.1.length) then
 bif (decide (0 ≤ (j1.2.1.2.tmod 8))) then
 some (((shlI .u8 (j1.2.1.1.getD ((IntKind.i64.wrap ((j1.2.1.1.length : Int) - 1)).toNat) 0) (j1.2.1.2.tmod 8)) != 0), ())
 else none
 else none
 else
 some (false, ()) : Option ((Bool × Unit))).bind fun j2 => 
 bif j2.1 then
 some 1
 else
 some 0
noncomputable def g_freq_Check_r1 (p3 : List Int × Int × Int × List Int × Unit) : Option ((List Int × Int × Int × List Int × Unit) ⊕ (Unit ⊕ (Int × Unit))) :=
 bif (decide (p3.2.2.1 < p3.2.1)) then
 bif (within p3.2.2.1 p3.1.length) then
 bif (within p3.2.2.1 p3.2.2.2.1.length) then
 bif (decide ((p3.1.getD p3.2.2.1.toNat 0) ≤ (p3.2.2.2.1.getD p3.2.2.1.toNat 0))) then
 some (Sum.inr (Sum.inr (1, ())))
 else
 some (Sum.inl (p3.1, p3.2.1, (IntKind.i64.wrap (p3.2.2.1 + 1)), p3.2.2.2.1, ()))
 else none
 else none
 else
 some (Sum.inr (Sum.inl ()))
noncomputable def g_freq_Check (a0 : List Int) : Option (Int) :=
 (bif (decide ((a0.length : Int) < 2)) then
 some (true, a0, ())
 else
 bif (decide ((a0.length : Int) > 257)) then
 some (true, a0, ())
 else
 bif (within 0 a0.length) then
 bif ((a0.getD 0 0) != 0) then
 some (true, a0, ())
 else
 (g_freq_last a0).bind fun y1 =>
 some ((decide (y1 > 16384)), a0, ())
 else none : Option ((Bool × List Int × Unit))).bind fun j2 => 
 bif j2.1 then
 some 1
 else
 bif (cutG 1 (j2.2.1.length : Int) j2.2.1.length) then
 (iter (g_freq_Check_r1) (((j2.2.1.take (j2.2.1.length : Int).toNat).drop 1), (((j2.2.1.take (j2.2.1.length : Int).toNat).drop 1).length : Int), 0, j2.2.1, ())).bind fun j4 => 
 (match j4 with
 | .inl j5 =>
 (some 0)
 | .inr j6 =>
 (some j6.1))
 else none
noncomputable def g_freq_Total (a0 : List Int) : Option (Int) :=
 (g_freq_Check a0).bind fun y1 =>
 bif (y1 != 0) then
 some 0
 else
 (g_freq_last a0).bind fun y2 =>
 some y2
noncomputable def g_slices_Clone_Sbyte_byte (a0 : List Int) : Option (List Int) :=
 bif room 1 ([] ++ a0).length then some ([] ++ a0) else none
noncomputable def g_coder_owned (a0 : List Int × Int) : Option (List Int × Int) :=
 (g_slices_Clone_Sbyte_byte a0.1).bind fun y1 =>
 some (y1, a0.2)
noncomputable def g_coder_bit (a0 : List Int × Int) (a1 : Int) : Option (Int) :=
 bif (decide (a1 ≥ a0.2)) then
 some 0
 else
 bif (within (IntKind.i64.wrap (a1.tdiv 8)) a0.1.length) then
 bif (decide (0 ≤ (IntKind.i64.wrap (7 - (a1.tmod 8))))) then
 some (bitsI .and .u64 (IntKind.u64.wrap (shrI .u8 (a0.1.getD ((IntKind.i64.wrap (a1.tdiv 8)).toNat) 0) (IntKind.i64.wrap (7 - (a1.tmod 8))))) 1)
 else none
 else none
noncomputable def g_cmp_isNaN_int (a0 : Int) : Option (Bool) :=
 some (a0 != a0)
noncomputable def g_cmp_Less_int (a0 : Int) (a1 : Int) : Option (Bool) :=
 (g_cmp_isNaN_int a0).bind fun y1 =>
 bif y1 then
 (g_cmp_isNaN_int a1).bind fun y2 =>
 bif (!y2) then
 some true
 else
 some (decide (a0 < a1))
 else
 some (decide (a0 < a1))
noncomputable def g_slices_isNaN_int (a0 : Int) : Option (Bool) :=
 some (a0 != a0)
noncomputable def g_slices_BinarySearch_Sint_int_r1 (p1 : List Int × Int × Int × Int × Int × Unit) : Option ((List Int × Int × Int × Int × Int × Unit) ⊕ ((List Int × Int × Int × Int × Unit))) :=
 bif (decide (p1.2.2.2.1 < p1.2.2.2.2.1)) then
 bif (within (IntKind.i64.wrap (shrI .u64 (IntKind.u64.wrap (IntKind.i64.wrap (p1.2.2.2.1 + p1.2.2.2.2.1))) 1)) p1.1.length) then
 (g_cmp_Less_int (p1.1.getD ((IntKind.i64.wrap (shrI .u64 (IntKind.u64.wrap (IntKind.i64.wrap (p1.2.2.2.1 + p1.2.2.2.2.1))) 1)).toNat) 0) p1.2.1).bind fun y2 =>
 bif y2 then
 some (Sum.inl (p1.1, p1.2.1, p1.2.2.1, (IntKind.i64.wrap ((IntKind.i64.wrap (shrI .u64 (IntKind.u64.wrap (IntKind.i64.wrap (p1.2.2.2.1 + p1.2.2.2.2.1))) 1)) + 1)), p1.2.2.2.2.1, ()))
 else
 some (Sum.inl (p1.1, p1.2.1, p1.2.2.1, p1.2.2.2.1, (IntKind.i64.wrap (shrI .u64 (IntKind.u64.wrap (IntKind.i64.wrap (p1.2.2.2.1 + p1.2.2.2.2.1))) 1)), ()))
 else none
 else
 some (Sum.inr (p1.1, p1.2.1, p1.2.2.1, p1.2.2.2.1, ()))
noncomputable def g_slices_BinarySearch_Sint_int (a0 : List Int) (a1 : Int) : Option (Int × Bool) :=
 (iter (g_slices_BinarySearch_Sint_int_r1) (a0, a1, (a0.length : Int), 0, (a0.length : Int), ())).bind fun j3 => 
 bif (decide (j3.2.2.2.1 < j3.2.2.1)) then
 bif (within j3.2.2.2.1 j3.1.length) then
 bif ((j3.1.getD j3.2.2.2.1.toNat 0) == j3.2.1) then
 some (j3.2.2.2.1, true)
 else
 bif (within j3.2.2.2.1 j3.1.length) then
 (g_slices_isNaN_int (j3.1.getD j3.2.2.2.1.toNat 0)).bind fun y4 =>
 bif y4 then
 (g_slices_isNaN_int j3.2.1).bind fun y5 =>
 some (j3.2.2.2.1, y5)
 else
 some (j3.2.2.2.1, false)
 else none
 else none
 else
 some (j3.2.2.2.1, false)
noncomputable def g_freq_Find (a0 : List Int) (a1 : Int) : Option (Int × Int) :=
 ((g_freq_Check a0).bind fun y1 =>
 bif (y1 != 0) then
 some (a1, true, a0, ())
 else
 bif (decide (a1 < 0)) then
 some (a1, true, a0, ())
 else
 (g_freq_last a0).bind fun y2 =>
 some (a1, (decide (a1 ≥ y2)), a0, ()) : Option ((Int × Bool × List Int × Unit))).bind fun j3 => 
 bif j3.2.1 then
 some (0, 1)
 else
 (g_slices_BinarySearch_Sint_int j3.2.2.1 j3.1).bind fun y4 =>
 (bif (!y4.2) then
 some ((IntKind.i64.wrap (y4.1 - 1)), ())
 else
 some (y4.1, ()) : Option ((Int × Unit))).bind fun j5 => 
 some (j5.1, 0)
noncomputable def g_coder_Next_r1 (p7 : Int × Int × Int × (Int × Int × Int × (List Int × Int) × Int) × (Int × Int × Int × (List Int × Int) × Int) × (Int × Int) × Unit) : Option ((Int × Int × Int × (Int × Int × Int × (List Int × Int) × Int) × (Int × Int × Int × (List Int × Int) × Int) × (Int × Int) × Unit) ⊕ ((Int × Int × Int × (Int × Int × Int × (List Int × Int) × Int) × (Int × Int × Int × (List Int × Int) × Int) × (Int × Int) × Unit))) :=
 (g_coder_interval_move (p7.2.2.2.2.2.1.1, p7.2.2.2.2.2.1.2)).bind fun y8 =>
 bif (y8.2 == 3) then
 some (Sum.inr (p7.1, p7.2.1, p7.2.2.1, (p7.2.2.2.1.1, (p7.2.2.2.1.2.1, (p7.2.2.2.1.2.2.1, ((p7.2.2.2.1.2.2.2.1.1, p7.2.2.2.1.2.2.2.1.2), p7.2.2.2.1.2.2.2.2)))), (p7.2.2.2.2.1.1, (p7.2.2.2.2.1.2.1, (p7.2.2.2.2.1.2.2.1, ((p7.2.2.2.2.1.2.2.2.1.1, p7.2.2.2.2.1.2.2.2.1.2), p7.2.2.2.2.1.2.2.2.2)))), (p7.2.2.2.2.2.1.1, p7.2.2.2.2.2.1.2), ()))
 else
 (g_coder_bit (p7.2.2.2.1.2.2.2.1.1, p7.2.2.2.1.2.2.2.1.2) p7.2.1).bind fun y9 =>
 some (Sum.inl ((bitsI .or .u64 (shlI .u64 (IntKind.u64.wrap (p7.1 - y8.1)) 1) y9), (IntKind.i64.wrap (p7.2.1 + 1)), p7.2.2.1, (p7.2.2.2.1.1, (p7.2.2.2.1.2.1, (p7.2.2.2.1.2.2.1, ((p7.2.2.2.1.2.2.2.1.1, p7.2.2.2.1.2.2.2.1.2), p7.2.2.2.1.2.2.2.2)))), (p7.2.2.2.2.1.1, (p7.2.2.2.2.1.2.1, (p7.2.2.2.2.1.2.2.1, ((p7.2.2.2.2.1.2.2.2.1.1, p7.2.2.2.2.1.2.2.2.1.2), p7.2.2.2.2.1.2.2.2.2)))), ((shlI .u64 (IntKind.u64.wrap (p7.2.2.2.2.2.1.1 - y8.1)) 1), (bitsI .or .u64 (shlI .u64 (IntKind.u64.wrap (p7.2.2.2.2.2.1.2 - y8.1)) 1) 1)), ()))
noncomputable def g_coder_Next (a0 : Int × Int × Int × (List Int × Int) × Int) (a1 : List Int) : Option ((Int × Int × Int × (List Int × Int) × Int) × Int × Int) :=
 ((g_coder_interval_good ((IntKind.u64.wrap a0.1), (IntKind.u64.wrap a0.2.1))).bind fun y1 =>
 bif (!y1) then
 some ((IntKind.u64.wrap a0.2.2.1), a0.2.2.2.2, true, (a0.1, (a0.2.1, (a0.2.2.1, ((a0.2.2.2.1.1, a0.2.2.2.1.2), a0.2.2.2.2)))), a1, (0, (0, (0, (([], 0), 0)))), ((IntKind.u64.wrap a0.1), (IntKind.u64.wrap a0.2.1)), ())
 else
 bif (decide ((IntKind.u64.wrap a0.2.2.1) < (IntKind.u64.wrap a0.1))) then
 some ((IntKind.u64.wrap a0.2.2.1), a0.2.2.2.2, true, (a0.1, (a0.2.1, (a0.2.2.1, ((a0.2.2.2.1.1, a0.2.2.2.1.2), a0.2.2.2.2)))), a1, (0, (0, (0, (([], 0), 0)))), ((IntKind.u64.wrap a0.1), (IntKind.u64.wrap a0.2.1)), ())
 else
 bif (decide ((IntKind.u64.wrap a0.2.2.1) > (IntKind.u64.wrap a0.2.1))) then
 some ((IntKind.u64.wrap a0.2.2.1), a0.2.2.2.2, true, (a0.1, (a0.2.1, (a0.2.2.1, ((a0.2.2.2.1.1, a0.2.2.2.1.2), a0.2.2.2.2)))), a1, (0, (0, (0, (([], 0), 0)))), ((IntKind.u64.wrap a0.1), (IntKind.u64.wrap a0.2.1)), ())
 else
 (g_bits_Check (a0.2.2.2.1.1, a0.2.2.2.1.2)).bind fun y2 =>
 bif (y2 != 0) then
 some ((IntKind.u64.wrap a0.2.2.1), a0.2.2.2.2, true, (a0.1, (a0.2.1, (a0.2.2.1, ((a0.2.2.2.1.1, a0.2.2.2.1.2), a0.2.2.2.2)))), a1, (0, (0, (0, (([], 0), 0)))), ((IntKind.u64.wrap a0.1), (IntKind.u64.wrap a0.2.1)), ())
 else
 bif (decide (a0.2.2.2.2 < 32)) then
 some ((IntKind.u64.wrap a0.2.2.1), a0.2.2.2.2, true, (a0.1, (a0.2.1, (a0.2.2.1, ((a0.2.2.2.1.1, a0.2.2.2.1.2), a0.2.2.2.2)))), a1, (0, (0, (0, (([], 0), 0)))), ((IntKind.u64.wrap a0.1), (IntKind.u64.wrap a0.2.1)), ())
 else
 bif (decide (a0.2.2.2.2 > 65600)) then
 some ((IntKind.u64.wrap a0.2.2.1), a0.2.2.2.2, true, (a0.1, (a0.2.1, (a0.2.2.1, ((a0.2.2.2.1.1, a0.2.2.2.1.2), a0.2.2.2.2)))), a1, (0, (0, (0, (([], 0), 0)))), ((IntKind.u64.wrap a0.1), (IntKind.u64.wrap a0.2.1)), ())
 else
 (g_freq_Check a1).bind fun y3 =>
 some ((IntKind.u64.wrap a0.2.2.1), a0.2.2.2.2, (y3 != 0), (a0.1, (a0.2.1, (a0.2.2.1, ((a0.2.2.2.1.1, a0.2.2.2.1.2), a0.2.2.2.2)))), a1, (0, (0, (0, (([], 0), 0)))), ((IntKind.u64.wrap a0.1), (IntKind.u64.wrap a0.2.1)), ()) : Option ((Int × Int × Bool × (Int × Int × Int × (List Int × Int) × Int) × List Int × (Int × Int × Int × (List Int × Int) × Int) × (Int × Int) × Unit))).bind fun j4 => 
 bif j4.2.2.1 then
 some ((0, (0, (0, (([], 0), 0)))), (0, 1))
 else
 bif (decide (j4.2.1 > (IntKind.i64.wrap (j4.2.2.2.1.2.2.2.1.2 + 32)))) then
 some ((0, (0, (0, (([], 0), 0)))), (0, 20))
 else
 (g_freq_Total j4.2.2.2.2.1).bind fun y5 =>
 bif ((IntKind.u64.wrap ((IntKind.u64.wrap (j4.2.2.2.2.2.2.1.2 - j4.2.2.2.2.2.2.1.1)) + 1)) != 0) then
 (g_freq_Find j4.2.2.2.2.1 (IntKind.i64.wrap (IntKind.u64.wrap ((IntKind.u64.wrap ((IntKind.u64.wrap ((IntKind.u64.wrap ((IntKind.u64.wrap (j4.1 - j4.2.2.2.2.2.2.1.1)) + 1)) * (IntKind.u64.wrap y5))) - 1)).tdiv (IntKind.u64.wrap ((IntKind.u64.wrap (j4.2.2.2.2.2.2.1.2 - j4.2.2.2.2.2.2.1.1)) + 1)))))).bind fun y6 =>
 bif (y6.2 != 0) then
 some ((0, (0, (0, (([], 0), 0)))), (0, y6.2))
 else
 bif (within y6.1 j4.2.2.2.2.1.length) then
 bif (within (IntKind.i64.wrap (y6.1 + 1)) j4.2.2.2.2.1.length) then
 bif ((IntKind.u64.wrap y5) != 0) then
 bif ((IntKind.u64.wrap y5) != 0) then
 (iter (g_coder_Next_r1) (j4.1, j4.2.1, y6.1, (j4.2.2.2.1.1, (j4.2.2.2.1.2.1, (j4.2.2.2.1.2.2.1, ((j4.2.2.2.1.2.2.2.1.1, j4.2.2.2.1.2.2.2.1.2), j4.2.2.2.1.2.2.2.2)))), (j4.2.2.2.2.2.1.1, (j4.2.2.2.2.2.1.2.1, (j4.2.2.2.2.2.1.2.2.1, ((j4.2.2.2.2.2.1.2.2.2.1.1, j4.2.2.2.2.2.1.2.2.2.1.2), j4.2.2.2.2.2.1.2.2.2.2)))), ((IntKind.u64.wrap (j4.2.2.2.2.2.2.1.1 + (IntKind.u64.wrap ((IntKind.u64.wrap ((IntKind.u64.wrap ((IntKind.u64.wrap (j4.2.2.2.2.2.2.1.2 - j4.2.2.2.2.2.2.1.1)) + 1)) * (IntKind.u64.wrap (j4.2.2.2.2.1.getD y6.1.toNat 0)))).tdiv (IntKind.u64.wrap y5))))), (IntKind.u64.wrap ((IntKind.u64.wrap (j4.2.2.2.2.2.2.1.1 + (IntKind.u64.wrap ((IntKind.u64.wrap ((IntKind.u64.wrap ((IntKind.u64.wrap (j4.2.2.2.2.2.2.1.2 - j4.2.2.2.2.2.2.1.1)) + 1)) * (IntKind.u64.wrap (j4.2.2.2.2.1.getD ((IntKind.i64.wrap (y6.1 + 1)).toNat) 0)))).tdiv (IntKind.u64.wrap y5))))) - 1))), ())).bind fun j10 => 
 (g_coder_owned (j10.2.2.2.1.2.2.2.1.1, j10.2.2.2.1.2.2.2.1.2)).bind fun y11 =>
 some (((IntKind.u32.wrap j10.2.2.2.2.2.1.1), ((IntKind.u32.wrap j10.2.2.2.2.2.1.2), ((IntKind.u32.wrap j10.1), ((y11.1, y11.2), j10.2.1)))), (j10.2.2.1, 0))
 else none
 else none
 else none
 else none
 else none
noncomputable def g_r03_Equal_r1 (p1 : List Int × List Int × Int × Int × Unit) : Option ((List Int × List Int × Int × Int × Unit) ⊕ (Unit ⊕ (Bool × Unit))) :=
 bif (decide (p1.2.2.2.1 < p1.2.2.1)) then
 bif (within p1.2.2.2.1 p1.1.length) then
 bif (within p1.2.2.2.1 p1.2.1.length) then
 bif ((p1.1.getD p1.2.2.2.1.toNat 0) != (p1.2.1.getD p1.2.2.2.1.toNat 0)) then
 some (Sum.inr (Sum.inr (false, ())))
 else
 some (Sum.inl (p1.1, p1.2.1, p1.2.2.1, (IntKind.i64.wrap (p1.2.2.2.1 + 1)), ()))
 else none
 else none
 else
 some (Sum.inr (Sum.inl ()))
noncomputable def g_r03_Equal (a0 : List Int) (a1 : List Int) : Option (Bool) :=
 bif ((a0.length : Int) != (a1.length : Int)) then
 some false
 else
 (iter (g_r03_Equal_r1) (a0, a1, (a0.length : Int), 0, ())).bind fun j2 => 
 (match j2 with
 | .inl j3 =>
 (some true)
 | .inr j4 =>
 (some j4.1))
end Go.Sq
set_option linter.unusedVariables false
set_option maxRecDepth 100000
namespace Go.Sq
open Go.Rx
noncomputable def g_slices_Clone_Sint_int (a0 : List Int) : Option (List Int) :=
 bif room 8 ([] ++ a0).length then some ([] ++ a0) else none
end Go.Sq
namespace Go.Sq
open Go.Rx
def ptsF (s : ByteArray) : Nat → Nat → List UInt8
 | 0, _ => []
 | fuel + 1, pos => if pos < s.size then (if 97 ≤ (Utf8.decode s pos).1 ∧ (Utf8.decode s pos).1 ≤ 122 then [UInt8.ofNat (Utf8.decode s pos).1] else [46]) ++ ptsF s fuel (pos + (Utf8.decode s pos).2) else []
def ptsT (s : ByteArray) : ByteArray := ⟨(ptsF s s.size 0).toArray⟩
def itoaT (n : Int) : ByteArray := ⟨(Lib.itoa n).toArray⟩
end Go.Sq
set_option linter.unusedVariables false
set_option maxRecDepth 100000
namespace Go.Sq
open Go.Rx
def tb_pow10 : List Int := [1, 10, 100, 1000, 10000, 100000, 1000000, 10000000, 100000000, 1000000000, 10000000000, 100000000000, 1000000000000, 10000000000000, 100000000000000, 1000000000000000, 10000000000000000, 100000000000000000, 1000000000000000000, 10000000000000000000]
noncomputable def g_trace_Judge_r1 (p1 : (List (Int × Int × Int × Int)) × (List (Int × Int × Int × Int)) × Int × Int × (Int × Int × Bool) × Unit) : Option (((List (Int × Int × Int × Int)) × (List (Int × Int × Int × Int)) × Int × Int × (Int × Int × Bool) × Unit) ⊕ (((List (Int × Int × Int × Int)) × Unit) ⊕ (Int × Bool × Unit))) :=
 bif (decide (p1.2.2.2.1 < p1.2.2.1)) then
 bif (within p1.2.2.2.1 p1.2.1.length) then
 (bif (((((p1.2.1.getD p1.2.2.2.1.toNat (0, (0, (0, 0))))).1) == 5) && ((((((p1.2.1.getD p1.2.2.2.1.toNat (0, (0, (0, 0))))).2).1) == ((((p1.2.1.getD p1.2.2.2.1.toNat (0, (0, (0, 0))))).2).1)) && (((((((p1.2.1.getD p1.2.2.2.1.toNat (0, (0, (0, 0))))).2).2).1) == (((((p1.2.1.getD p1.2.2.2.1.toNat (0, (0, (0, 0))))).2).2).1)) && (((((((p1.2.1.getD p1.2.2.2.1.toNat (0, (0, (0, 0))))).2).2).2) == 0) && true)))) then
 (bif (decide ((((p1.2.1.getD p1.2.2.2.1.toNat (0, (0, (0, 0))))).2).1 ≤ 0)) then
 some ((p1.2.1.getD p1.2.2.2.1.toNat (0, (0, (0, 0)))), false, p1.2.2.2.2.1, ())
 else
 bif ((((((p1.2.1.getD p1.2.2.2.1.toNat (0, (0, (0, 0))))).2).2).1) == (IntKind.i64.wrap (p1.2.2.2.2.1.1 + 1))) then
 some ((p1.2.1.getD p1.2.2.2.1.toNat (0, (0, (0, 0)))), true, (((((p1.2.1.getD p1.2.2.2.1.toNat (0, (0, (0, 0))))).2).2).1, ((((p1.2.1.getD p1.2.2.2.1.toNat (0, (0, (0, 0))))).2).1, false)), ())
 else
 (bif ((((((p1.2.1.getD p1.2.2.2.1.toNat (0, (0, (0, 0))))).2).2).1) == p1.2.2.2.2.1.1) then
 bif (((((p1.2.1.getD p1.2.2.2.1.toNat (0, (0, (0, 0))))).2).1) == p1.2.2.2.2.1.2.1) then
 some ((p1.2.1.getD p1.2.2.2.1.toNat (0, (0, (0, 0)))), (!p1.2.2.2.2.1.2.2), p1.2.2.2.2.1, ())
 else
 some ((p1.2.1.getD p1.2.2.2.1.toNat (0, (0, (0, 0)))), false, p1.2.2.2.2.1, ())
 else
 some ((p1.2.1.getD p1.2.2.2.1.toNat (0, (0, (0, 0)))), false, p1.2.2.2.2.1, ()) : Option (((Int × Int × Int × Int) × Bool × (Int × Int × Bool) × Unit))).bind fun j2 => 
 some ((p1.2.1.getD p1.2.2.2.1.toNat (0, (0, (0, 0)))), j2.2.1, j2.2.2.1, ()) : Option (((Int × Int × Int × Int) × Bool × (Int × Int × Bool) × Unit))).bind fun j3 => 
 some (p1.1, p1.2.2.2.1, p1.2.1, p1.2.2.1, p1.2.2.2.1, (!j3.2.1), j3.2.2.1, ())
 else
 bif (((((p1.2.1.getD p1.2.2.2.1.toNat (0, (0, (0, 0))))).1) == 8) && ((((((p1.2.1.getD p1.2.2.2.1.toNat (0, (0, (0, 0))))).2).1) == p1.2.2.2.2.1.2.1) && (((((((p1.2.1.getD p1.2.2.2.1.toNat (0, (0, (0, 0))))).2).2).1) == p1.2.2.2.2.1.1) && (((((((p1.2.1.getD p1.2.2.2.1.toNat (0, (0, (0, 0))))).2).2).2) == 0) && true)))) then
 (bif p1.2.2.2.2.1.2.2 then
 some ((p1.2.1.getD p1.2.2.2.1.toNat (0, (0, (0, 0)))), (decide (p1.2.2.2.2.1.2.1 > 0)), (p1.2.2.2.2.1.1, (p1.2.2.2.2.1.2.1, true)), ())
 else
 some ((p1.2.1.getD p1.2.2.2.1.toNat (0, (0, (0, 0)))), (decide (p1.2.2.2.2.1.2.1 > 0)), (p1.2.2.2.2.1.1, (p1.2.2.2.2.1.2.1, (decide (p1.2.2.2.2.1.2.1 > 0)))), ()) : Option (((Int × Int × Int × Int) × Bool × (Int × Int × Bool) × Unit))).bind fun j4 => 
 some (p1.1, p1.2.2.2.1, p1.2.1, p1.2.2.1, p1.2.2.2.1, (!j4.2.1), j4.2.2.1, ())
 else
 bif (((((p1.2.1.getD p1.2.2.2.1.toNat (0, (0, (0, 0))))).1) == 10) && ((((((p1.2.1.getD p1.2.2.2.1.toNat (0, (0, (0, 0))))).2).1) == 0) && (((((((p1.2.1.getD p1.2.2.2.1.toNat (0, (0, (0, 0))))).2).2).1) == p1.2.2.2.2.1.1) && (((((((p1.2.1.getD p1.2.2.2.1.toNat (0, (0, (0, 0))))).2).2).2) == 0) && true)))) then
 some (p1.1, p1.2.2.2.1, p1.2.1, p1.2.2.1, p1.2.2.2.1, (!(decide (p1.2.2.2.2.1.2.1 > 0))), (p1.2.2.2.2.1.1, (0, false)), ())
 else
 bif (((((p1.2.1.getD p1.2.2.2.1.toNat (0, (0, (0, 0))))).1) == 7) && ((((((p1.2.1.getD p1.2.2.2.1.toNat (0, (0, (0, 0))))).2).1) == ((((p1.2.1.getD p1.2.2.2.1.toNat (0, (0, (0, 0))))).2).1)) && (((((((p1.2.1.getD p1.2.2.2.1.toNat (0, (0, (0, 0))))).2).2).1) == 0) && (((((((p1.2.1.getD p1.2.2.2.1.toNat (0, (0, (0, 0))))).2).2).2) == (((((p1.2.1.getD p1.2.2.2.1.toNat (0, (0, (0, 0))))).2).2).2)) && true)))) then
 (bif (decide (p1.2.2.2.2.1.2.1 > 0)) then
 bif (decide ((((p1.2.1.getD p1.2.2.2.1.toNat (0, (0, (0, 0))))).2).1 > 0)) then
 bif (((((p1.2.1.getD p1.2.2.2.1.toNat (0, (0, (0, 0))))).2).1) != p1.2.2.2.2.1.2.1) then
 bif (decide (((((p1.2.1.getD p1.2.2.2.1.toNat (0, (0, (0, 0))))).2).2).2 ≥ 1)) then
 some ((p1.2.1.getD p1.2.2.2.1.toNat (0, (0, (0, 0)))), (decide (((((p1.2.1.getD p1.2.2.2.1.toNat (0, (0, (0, 0))))).2).2).2 ≤ 4)), p1.2.2.2.2.1, ())
 else
 some ((p1.2.1.getD p1.2.2.2.1.toNat (0, (0, (0, 0)))), false, p1.2.2.2.2.1, ())
 else
 some ((p1.2.1.getD p1.2.2.2.1.toNat (0, (0, (0, 0)))), false, p1.2.2.2.2.1, ())
 else
 some ((p1.2.1.getD p1.2.2.2.1.toNat (0, (0, (0, 0)))), false, p1.2.2.2.2.1, ())
 else
 some ((p1.2.1.getD p1.2.2.2.1.toNat (0, (0, (0, 0)))), false, p1.2.2.2.2.1, ()) : Option (((Int × Int × Int × Int) × Bool × (Int × Int × Bool) × Unit))).bind fun j5 => 
 some (p1.1, p1.2.2.2.1, p1.2.1, p1.2.2.1, p1.2.2.2.1, (!j5.2.1), j5.2.2.1, ())
 else
 (bif (((((p1.2.1.getD p1.2.2.2.1.toNat (0, (0, (0, 0))))).1) == 6) && ((((((p1.2.1.getD p1.2.2.2.1.toNat (0, (0, (0, 0))))).2).1) == ((((p1.2.1.getD p1.2.2.2.1.toNat (0, (0, (0, 0))))).2).1)) && (((((((p1.2.1.getD p1.2.2.2.1.toNat (0, (0, (0, 0))))).2).2).1) == 0) && (((((((p1.2.1.getD p1.2.2.2.1.toNat (0, (0, (0, 0))))).2).2).2) == 0) && true)))) then
 some ((p1.2.1.getD p1.2.2.2.1.toNat (0, (0, (0, 0)))), true, p1.2.2.2.2.1, (p1.2.1.getD p1.2.2.2.1.toNat (0, (0, (0, 0)))), ())
 else
 some ((p1.2.1.getD p1.2.2.2.1.toNat (0, (0, (0, 0)))), (((((p1.2.1.getD p1.2.2.2.1.toNat (0, (0, (0, 0))))).1) == 15) && ((((((p1.2.1.getD p1.2.2.2.1.toNat (0, (0, (0, 0))))).2).1) == ((((p1.2.1.getD p1.2.2.2.1.toNat (0, (0, (0, 0))))).2).1)) && (((((((p1.2.1.getD p1.2.2.2.1.toNat (0, (0, (0, 0))))).2).2).1) == p1.2.2.2.2.1.1) && (((((((p1.2.1.getD p1.2.2.2.1.toNat (0, (0, (0, 0))))).2).2).2) == 0) && true)))), p1.2.2.2.2.1, (p1.2.1.getD p1.2.2.2.1.toNat (0, (0, (0, 0)))), ()) : Option (((Int × Int × Int × Int) × Bool × (Int × Int × Bool) × (Int × Int × Int × Int) × Unit))).bind fun j6 => 
 bif j6.2.1 then
 some (p1.1, p1.2.2.2.1, p1.2.1, p1.2.2.1, p1.2.2.2.1, (!(decide (j6.2.2.2.1.2.1 > 0))), j6.2.2.1, ())
 else
 some (p1.1, p1.2.2.2.1, p1.2.1, p1.2.2.1, p1.2.2.2.1, true, j6.2.2.1, ()) : Option (((List (Int × Int × Int × Int)) × Int × (List (Int × Int × Int × Int)) × Int × Int × Bool × (Int × Int × Bool) × Unit))).bind fun j7 => 
 bif j7.2.2.2.2.2.1 then
 some (Sum.inr (Sum.inr (j7.2.1, false, ())))
 else
 some (Sum.inl (j7.1, j7.2.2.1, j7.2.2.2.1, (IntKind.i64.wrap (j7.2.2.2.2.1 + 1)), j7.2.2.2.2.2.2.1, ()))
 else none
 else
 some (Sum.inr (Sum.inl (p1.1, ())))
noncomputable def g_trace_Judge (a0 : List (Int × Int × Int × Int)) : Option (Int × Bool) :=
 (iter (g_trace_Judge_r1) (a0, a0, (a0.length : Int), 0, (0, (0, false)), ())).bind fun j8 => 
 (match j8 with
 | .inl j9 =>
 (some ((j9.1.length : Int), true))
 | .inr j10 =>
 (some (j10.1, j10.2.1)))
noncomputable def g_trace_points (a0 : ByteArray) : Option (ByteArray) :=
 bif decide (a0.size ≤ 35184372088832) then some (ptsT a0) else none
noncomputable def g_strconv_Itoa (a0 : Int) : Option (ByteArray) :=
 bif decide (-9223372036854775808 ≤ a0) && decide (a0 ≤ 9223372036854775807) then some (itoaT a0) else none
noncomputable def g_law23_live : Option (Bool) :=
 (g_trace_Judge [(5, (1, (2, 0)))]).bind fun y1 =>
 (g_trace_Judge [(5, (1, (1, 0))), (10, (0, (1, 0)))]).bind fun y2 =>
 bif (y1.1 == 0) then
 bif (!y1.2) then
 bif (y2.1 == 2) then
 bif y2.2 then
 (g_trace_points (ByteArray.mk #[97, 66])).bind fun y3 =>
 bif (strEq y3 (ByteArray.mk #[97, 46])) then
 (g_strconv_Itoa (-7)).bind fun y4 =>
 bif (strEq y4 (ByteArray.mk #[45, 55])) then
 some (strEq (ByteArray.mk #[63]) (ByteArray.mk #[63]))
 else
 some false
 else
 some false
 else
 some false
 else
 some false
 else
 some false
 else
 some false
noncomputable def g_trace_word (a0 : Int) : Option (ByteArray) :=
 (bif (decide (a0 < 0)) then
 some (a0, true, [ByteArray.empty, ByteArray.empty, ByteArray.empty, ByteArray.empty, ByteArray.empty, (ByteArray.mk #[103, 114, 97, 110, 116]), (ByteArray.mk #[100, 101, 110, 121]), (ByteArray.mk #[113, 117, 101, 117, 101]), (ByteArray.mk #[114, 101, 118, 111, 107, 101]), ByteArray.empty, (ByteArray.mk #[105, 100, 108, 101]), ByteArray.empty, ByteArray.empty, ByteArray.empty, ByteArray.empty, (ByteArray.mk #[119, 101, 108, 99, 111, 109, 101])], ())
 else
 bif (decide (a0 ≥ 16)) then
 some (a0, true, [ByteArray.empty, ByteArray.empty, ByteArray.empty, ByteArray.empty, ByteArray.empty, (ByteArray.mk #[103, 114, 97, 110, 116]), (ByteArray.mk #[100, 101, 110, 121]), (ByteArray.mk #[113, 117, 101, 117, 101]), (ByteArray.mk #[114, 101, 118, 111, 107, 101]), ByteArray.empty, (ByteArray.mk #[105, 100, 108, 101]), ByteArray.empty, ByteArray.empty, ByteArray.empty, ByteArray.empty, (ByteArray.mk #[119, 101, 108, 99, 111, 109, 101])], ())
 else
 bif (within a0 16) then
 some (a0, (strEq ([ByteArray.empty, ByteArray.empty, ByteArray.empty, ByteArray.empty, ByteArray.empty, (ByteArray.mk #[103, 114, 97, 110, 116]), (ByteArray.mk #[100, 101, 110, 121]), (ByteArray.mk #[113, 117, 101, 117, 101]), (ByteArray.mk #[114, 101, 118, 111, 107, 101]), ByteArray.empty, (ByteArray.mk #[105, 100, 108, 101]), ByteArray.empty, ByteArray.empty, ByteArray.empty, ByteArray.empty, (ByteArray.mk #[119, 101, 108, 99, 111, 109, 101])].getD a0.toNat ByteArray.empty) (ByteArray.mk #[])), [ByteArray.empty, ByteArray.empty, ByteArray.empty, ByteArray.empty, ByteArray.empty, (ByteArray.mk #[103, 114, 97, 110, 116]), (ByteArray.mk #[100, 101, 110, 121]), (ByteArray.mk #[113, 117, 101, 117, 101]), (ByteArray.mk #[114, 101, 118, 111, 107, 101]), ByteArray.empty, (ByteArray.mk #[105, 100, 108, 101]), ByteArray.empty, ByteArray.empty, ByteArray.empty, ByteArray.empty, (ByteArray.mk #[119, 101, 108, 99, 111, 109, 101])], ())
 else none : Option ((Int × Bool × List ByteArray × Unit))).bind fun j1 => 
 bif j1.2.1 then
 some (ByteArray.mk #[110, 111, 110, 101])
 else
 bif (within j1.1 16) then
 some (j1.2.2.1.getD j1.1.toNat ByteArray.empty)
 else none
noncomputable def g_trace_Parts_r1 (p1 : (List (Int × Int × Int × Int)) × (List (List (Int × Int × Int × Int))) × (List (Int × Int × Int × Int)) × Int × Int × (Int × Int × Bool) × Unit) : Option (((List (Int × Int × Int × Int)) × (List (List (Int × Int × Int × Int))) × (List (Int × Int × Int × Int)) × Int × Int × (Int × Int × Bool) × Unit) ⊕ (((List (Int × Int × Int × Int)) × (List (List (Int × Int × Int × Int))) × Unit))) :=
 bif (decide (p1.2.2.2.2.1 < p1.2.2.2.1)) then
 bif (within p1.2.2.2.2.1 p1.2.2.1.length) then
 (bif (((((p1.2.2.1.getD p1.2.2.2.2.1.toNat (0, (0, (0, 0))))).1) == 5) && ((((((p1.2.2.1.getD p1.2.2.2.2.1.toNat (0, (0, (0, 0))))).2).1) == ((((p1.2.2.1.getD p1.2.2.2.2.1.toNat (0, (0, (0, 0))))).2).1)) && (((((((p1.2.2.1.getD p1.2.2.2.2.1.toNat (0, (0, (0, 0))))).2).2).1) == (((((p1.2.2.1.getD p1.2.2.2.2.1.toNat (0, (0, (0, 0))))).2).2).1)) && (((((((p1.2.2.1.getD p1.2.2.2.2.1.toNat (0, (0, (0, 0))))).2).2).2) == 0) && true)))) then
 (bif (decide ((((p1.2.2.1.getD p1.2.2.2.2.1.toNat (0, (0, (0, 0))))).2).1 ≤ 0)) then
 some ((p1.2.2.1.getD p1.2.2.2.2.1.toNat (0, (0, (0, 0)))), false, p1.2.2.2.2.2.1, ())
 else
 bif ((((((p1.2.2.1.getD p1.2.2.2.2.1.toNat (0, (0, (0, 0))))).2).2).1) == (IntKind.i64.wrap (p1.2.2.2.2.2.1.1 + 1))) then
 some ((p1.2.2.1.getD p1.2.2.2.2.1.toNat (0, (0, (0, 0)))), true, (((((p1.2.2.1.getD p1.2.2.2.2.1.toNat (0, (0, (0, 0))))).2).2).1, ((((p1.2.2.1.getD p1.2.2.2.2.1.toNat (0, (0, (0, 0))))).2).1, false)), ())
 else
 (bif ((((((p1.2.2.1.getD p1.2.2.2.2.1.toNat (0, (0, (0, 0))))).2).2).1) == p1.2.2.2.2.2.1.1) then
 bif (((((p1.2.2.1.getD p1.2.2.2.2.1.toNat (0, (0, (0, 0))))).2).1) == p1.2.2.2.2.2.1.2.1) then
 some ((p1.2.2.1.getD p1.2.2.2.2.1.toNat (0, (0, (0, 0)))), (!p1.2.2.2.2.2.1.2.2), p1.2.2.2.2.2.1, ())
 else
 some ((p1.2.2.1.getD p1.2.2.2.2.1.toNat (0, (0, (0, 0)))), false, p1.2.2.2.2.2.1, ())
 else
 some ((p1.2.2.1.getD p1.2.2.2.2.1.toNat (0, (0, (0, 0)))), false, p1.2.2.2.2.2.1, ()) : Option (((Int × Int × Int × Int) × Bool × (Int × Int × Bool) × Unit))).bind fun j2 => 
 some ((p1.2.2.1.getD p1.2.2.2.2.1.toNat (0, (0, (0, 0)))), j2.2.1, j2.2.2.1, ()) : Option (((Int × Int × Int × Int) × Bool × (Int × Int × Bool) × Unit))).bind fun j3 => 
 some (p1.1, p1.2.1, p1.2.2.2.2.2.1.1, p1.2.2.1, p1.2.2.2.1, p1.2.2.2.2.1, (!j3.2.1), j3.2.2.1, (p1.2.2.1.getD p1.2.2.2.2.1.toNat (0, (0, (0, 0)))), ())
 else
 bif (((((p1.2.2.1.getD p1.2.2.2.2.1.toNat (0, (0, (0, 0))))).1) == 8) && ((((((p1.2.2.1.getD p1.2.2.2.2.1.toNat (0, (0, (0, 0))))).2).1) == p1.2.2.2.2.2.1.2.1) && (((((((p1.2.2.1.getD p1.2.2.2.2.1.toNat (0, (0, (0, 0))))).2).2).1) == p1.2.2.2.2.2.1.1) && (((((((p1.2.2.1.getD p1.2.2.2.2.1.toNat (0, (0, (0, 0))))).2).2).2) == 0) && true)))) then
 (bif p1.2.2.2.2.2.1.2.2 then
 some ((p1.2.2.1.getD p1.2.2.2.2.1.toNat (0, (0, (0, 0)))), (decide (p1.2.2.2.2.2.1.2.1 > 0)), (p1.2.2.2.2.2.1.1, (p1.2.2.2.2.2.1.2.1, true)), ())
 else
 some ((p1.2.2.1.getD p1.2.2.2.2.1.toNat (0, (0, (0, 0)))), (decide (p1.2.2.2.2.2.1.2.1 > 0)), (p1.2.2.2.2.2.1.1, (p1.2.2.2.2.2.1.2.1, (decide (p1.2.2.2.2.2.1.2.1 > 0)))), ()) : Option (((Int × Int × Int × Int) × Bool × (Int × Int × Bool) × Unit))).bind fun j4 => 
 some (p1.1, p1.2.1, p1.2.2.2.2.2.1.1, p1.2.2.1, p1.2.2.2.1, p1.2.2.2.2.1, (!j4.2.1), j4.2.2.1, (p1.2.2.1.getD p1.2.2.2.2.1.toNat (0, (0, (0, 0)))), ())
 else
 bif (((((p1.2.2.1.getD p1.2.2.2.2.1.toNat (0, (0, (0, 0))))).1) == 10) && ((((((p1.2.2.1.getD p1.2.2.2.2.1.toNat (0, (0, (0, 0))))).2).1) == 0) && (((((((p1.2.2.1.getD p1.2.2.2.2.1.toNat (0, (0, (0, 0))))).2).2).1) == p1.2.2.2.2.2.1.1) && (((((((p1.2.2.1.getD p1.2.2.2.2.1.toNat (0, (0, (0, 0))))).2).2).2) == 0) && true)))) then
 some (p1.1, p1.2.1, p1.2.2.2.2.2.1.1, p1.2.2.1, p1.2.2.2.1, p1.2.2.2.2.1, (!(decide (p1.2.2.2.2.2.1.2.1 > 0))), (p1.2.2.2.2.2.1.1, (0, false)), (p1.2.2.1.getD p1.2.2.2.2.1.toNat (0, (0, (0, 0)))), ())
 else
 bif (((((p1.2.2.1.getD p1.2.2.2.2.1.toNat (0, (0, (0, 0))))).1) == 7) && ((((((p1.2.2.1.getD p1.2.2.2.2.1.toNat (0, (0, (0, 0))))).2).1) == ((((p1.2.2.1.getD p1.2.2.2.2.1.toNat (0, (0, (0, 0))))).2).1)) && (((((((p1.2.2.1.getD p1.2.2.2.2.1.toNat (0, (0, (0, 0))))).2).2).1) == 0) && (((((((p1.2.2.1.getD p1.2.2.2.2.1.toNat (0, (0, (0, 0))))).2).2).2) == (((((p1.2.2.1.getD p1.2.2.2.2.1.toNat (0, (0, (0, 0))))).2).2).2)) && true)))) then
 (bif (decide (p1.2.2.2.2.2.1.2.1 > 0)) then
 bif (decide ((((p1.2.2.1.getD p1.2.2.2.2.1.toNat (0, (0, (0, 0))))).2).1 > 0)) then
 bif (((((p1.2.2.1.getD p1.2.2.2.2.1.toNat (0, (0, (0, 0))))).2).1) != p1.2.2.2.2.2.1.2.1) then
 bif (decide (((((p1.2.2.1.getD p1.2.2.2.2.1.toNat (0, (0, (0, 0))))).2).2).2 ≥ 1)) then
 some ((p1.2.2.1.getD p1.2.2.2.2.1.toNat (0, (0, (0, 0)))), (decide (((((p1.2.2.1.getD p1.2.2.2.2.1.toNat (0, (0, (0, 0))))).2).2).2 ≤ 4)), p1.2.2.2.2.2.1, ())
 else
 some ((p1.2.2.1.getD p1.2.2.2.2.1.toNat (0, (0, (0, 0)))), false, p1.2.2.2.2.2.1, ())
 else
 some ((p1.2.2.1.getD p1.2.2.2.2.1.toNat (0, (0, (0, 0)))), false, p1.2.2.2.2.2.1, ())
 else
 some ((p1.2.2.1.getD p1.2.2.2.2.1.toNat (0, (0, (0, 0)))), false, p1.2.2.2.2.2.1, ())
 else
 some ((p1.2.2.1.getD p1.2.2.2.2.1.toNat (0, (0, (0, 0)))), false, p1.2.2.2.2.2.1, ()) : Option (((Int × Int × Int × Int) × Bool × (Int × Int × Bool) × Unit))).bind fun j5 => 
 some (p1.1, p1.2.1, p1.2.2.2.2.2.1.1, p1.2.2.1, p1.2.2.2.1, p1.2.2.2.2.1, (!j5.2.1), j5.2.2.1, (p1.2.2.1.getD p1.2.2.2.2.1.toNat (0, (0, (0, 0)))), ())
 else
 (bif (((((p1.2.2.1.getD p1.2.2.2.2.1.toNat (0, (0, (0, 0))))).1) == 6) && ((((((p1.2.2.1.getD p1.2.2.2.2.1.toNat (0, (0, (0, 0))))).2).1) == ((((p1.2.2.1.getD p1.2.2.2.2.1.toNat (0, (0, (0, 0))))).2).1)) && (((((((p1.2.2.1.getD p1.2.2.2.2.1.toNat (0, (0, (0, 0))))).2).2).1) == 0) && (((((((p1.2.2.1.getD p1.2.2.2.2.1.toNat (0, (0, (0, 0))))).2).2).2) == 0) && true)))) then
 some ((p1.2.2.1.getD p1.2.2.2.2.1.toNat (0, (0, (0, 0)))), true, p1.2.2.2.2.2.1, (p1.2.2.1.getD p1.2.2.2.2.1.toNat (0, (0, (0, 0)))), ())
 else
 some ((p1.2.2.1.getD p1.2.2.2.2.1.toNat (0, (0, (0, 0)))), (((((p1.2.2.1.getD p1.2.2.2.2.1.toNat (0, (0, (0, 0))))).1) == 15) && ((((((p1.2.2.1.getD p1.2.2.2.2.1.toNat (0, (0, (0, 0))))).2).1) == ((((p1.2.2.1.getD p1.2.2.2.2.1.toNat (0, (0, (0, 0))))).2).1)) && (((((((p1.2.2.1.getD p1.2.2.2.2.1.toNat (0, (0, (0, 0))))).2).2).1) == p1.2.2.2.2.2.1.1) && (((((((p1.2.2.1.getD p1.2.2.2.2.1.toNat (0, (0, (0, 0))))).2).2).2) == 0) && true)))), p1.2.2.2.2.2.1, (p1.2.2.1.getD p1.2.2.2.2.1.toNat (0, (0, (0, 0)))), ()) : Option (((Int × Int × Int × Int) × Bool × (Int × Int × Bool) × (Int × Int × Int × Int) × Unit))).bind fun j6 => 
 bif j6.2.1 then
 some (p1.1, p1.2.1, p1.2.2.2.2.2.1.1, p1.2.2.1, p1.2.2.2.1, p1.2.2.2.2.1, (!(decide (j6.2.2.2.1.2.1 > 0))), j6.2.2.1, (p1.2.2.1.getD p1.2.2.2.2.1.toNat (0, (0, (0, 0)))), ())
 else
 some (p1.1, p1.2.1, p1.2.2.2.2.2.1.1, p1.2.2.1, p1.2.2.2.1, p1.2.2.2.2.1, true, j6.2.2.1, (p1.2.2.1.getD p1.2.2.2.2.1.toNat (0, (0, (0, 0)))), ()) : Option ((List (Int × Int × Int × Int) × List (List (Int × Int × Int × Int)) × Int × (List (Int × Int × Int × Int)) × Int × Int × Bool × (Int × Int × Bool) × (Int × Int × Int × Int) × Unit))).bind fun j7 => 
 bif j7.2.2.2.2.2.2.1 then
 some (Sum.inr (j7.1, j7.2.1, ()))
 else
 (bif (decide (j7.2.2.2.2.2.2.2.1.1 > j7.2.2.1)) then
 bif (room 24 (j7.2.1 ++ [j7.1]).length) then
 some ([], (j7.2.1 ++ [j7.1]), j7.2.2.2.1, j7.2.2.2.2.1, j7.2.2.2.2.2.1, j7.2.2.2.2.2.2.2.1, j7.2.2.2.2.2.2.2.2.1, ())
 else none
 else
 some (j7.1, j7.2.1, j7.2.2.2.1, j7.2.2.2.2.1, j7.2.2.2.2.2.1, j7.2.2.2.2.2.2.2.1, j7.2.2.2.2.2.2.2.2.1, ()) : Option (((List (Int × Int × Int × Int)) × (List (List (Int × Int × Int × Int))) × (List (Int × Int × Int × Int)) × Int × Int × (Int × Int × Bool) × (Int × Int × Int × Int) × Unit))).bind fun j8 => 
 bif (room 32 (j8.1 ++ [j8.2.2.2.2.2.2.1]).length) then
 some (Sum.inl ((j8.1 ++ [j8.2.2.2.2.2.2.1]), j8.2.1, j8.2.2.1, j8.2.2.2.1, (IntKind.i64.wrap (j8.2.2.2.2.1 + 1)), j8.2.2.2.2.2.1, ()))
 else none
 else none
 else
 some (Sum.inr (p1.1, p1.2.1, ()))
noncomputable def g_trace_Parts (a0 : List (Int × Int × Int × Int)) : Option (List (List (Int × Int × Int × Int))) :=
 (iter (g_trace_Parts_r1) ([], [], a0, (a0.length : Int), 0, (0, (0, false)), ())).bind fun j9 => 
 bif (room 24 (j9.2.1 ++ [j9.1]).length) then
 some (j9.2.1 ++ [j9.1])
 else none
noncomputable def g_trace_Holders_r1 (p2 : List Int × (List (List (Int × Int × Int × Int))) × Int × Int × Unit) : Option ((List Int × (List (List (Int × Int × Int × Int))) × Int × Int × Unit) ⊕ ((List Int × Unit))) :=
 bif (decide (p2.2.2.2.1 < p2.2.2.1)) then
 bif (within p2.2.2.2.1 p2.2.1.length) then
 bif (within 0 ((p2.2.1.getD p2.2.2.2.1.toNat []).length)) then
 bif (room 8 (p2.1 ++ [((((p2.2.1.getD p2.2.2.2.1.toNat []).getD 0 (0, (0, (0, 0))))).2).1]).length) then
 some (Sum.inl ((p2.1 ++ [((((p2.2.1.getD p2.2.2.2.1.toNat []).getD 0 (0, (0, (0, 0))))).2).1]), p2.2.1, p2.2.2.1, (IntKind.i64.wrap (p2.2.2.2.1 + 1)), ()))
 else none
 else none
 else none
 else
 some (Sum.inr (p2.1, ()))
noncomputable def g_trace_Holders (a0 : List (Int × Int × Int × Int)) : Option (List Int) :=
 (g_trace_Parts a0).bind fun y1 =>
 bif (cutG 1 (y1.length : Int) y1.length) then
 (iter (g_trace_Holders_r1) ([], ((y1.take (y1.length : Int).toNat).drop 1), (((y1.take (y1.length : Int).toNat).drop 1).length : Int), 0, ())).bind fun j3 => 
 some j3.1
 else none
end Go.Sq
set_option linter.unusedVariables false
set_option maxRecDepth 100000
namespace Go.Sq
open Go.Rx
end Go.Sq
set_option linter.unusedVariables false
set_option maxRecDepth 100000
namespace Go.Sq
open Go.Rx
noncomputable def g_floor_New : Option (Int × Int × Int × Int × Int × Int × Int × List (Int × Int) × List Int) :=
 some (0, (0, (0, (0, (0, (0, (0, ([], []))))))))
noncomputable def g_slices_Clone_Sapi_Waiter_api_Waiter (a0 : List (Int × Int)) : Option (List (Int × Int)) :=
 bif room 16 ([] ++ a0).length then some ([] ++ a0) else none
noncomputable def g_floor_within (a0 : Int) (a1 : Int) : Option (Bool) :=
 bif (decide (a0 ≥ 0)) then
 some (decide (a0 ≤ a1))
 else
 some false
noncomputable def g_floor_member (a0 : Int × Int × Int × Int × Int × Int × Int × List (Int × Int) × List Int) (a1 : Int) : Option (Bool) :=
 (g_slices_BinarySearch_Sint_int a0.2.2.2.2.2.2.2.2 a1).bind fun y1 =>
 some y1.2
noncomputable def g_floor_find_r1 (p1 : (List (Int × Int)) × Int × Int × Int × Unit) : Option (((List (Int × Int)) × Int × Int × Int × Unit) ⊕ (((List (Int × Int)) × Int × Unit) ⊕ ((List (Int × Int)) × Int × Int × Unit))) :=
 bif (decide (p1.2.2.1 < p1.2.1)) then
 bif (within p1.2.2.1 p1.1.length) then
 bif ((((p1.1.getD p1.2.2.1.toNat (0, 0))).1) == p1.2.2.2.1) then
 some (Sum.inr (Sum.inr (p1.1, p1.2.2.1, p1.2.2.2.1, ())))
 else
 some (Sum.inl (p1.1, p1.2.1, (IntKind.i64.wrap (p1.2.2.1 + 1)), p1.2.2.2.1, ()))
 else none
 else
 some (Sum.inr (Sum.inl (p1.1, p1.2.2.2.1, ())))
noncomputable def g_floor_find (a0 : Int × Int × Int × Int × Int × Int × Int × List (Int × Int) × List Int) (a1 : Int) : Option (Int) :=
 (iter (g_floor_find_r1) (a0.2.2.2.2.2.2.2.1, (a0.2.2.2.2.2.2.2.1.length : Int), 0, a1, ())).bind fun j2 => 
 (match j2 with
 | .inl j3 =>
 (some (-1))
 | .inr j4 =>
 (some j4.2.1))
noncomputable def g_floor_Check_r1 (p8 : Bool × Int × List Int × Int × Int × (Int × Int × Int × Int × Int × Int × Int × List (Int × Int) × List Int) × Unit) : Option ((Bool × Int × List Int × Int × Int × (Int × Int × Int × Int × Int × Int × Int × List (Int × Int) × List Int) × Unit) ⊕ ((Bool × (Int × Int × Int × Int × Int × Int × Int × List (Int × Int) × List Int) × Unit))) :=
 bif (decide (p8.2.2.2.2.1 < p8.2.2.2.1)) then
 bif (within p8.2.2.2.2.1 p8.2.2.1.length) then
 (bif p8.1 then
 bif (decide ((p8.2.2.1.getD p8.2.2.2.2.1.toNat 0) > p8.2.1)) then
 some ((decide ((p8.2.2.1.getD p8.2.2.2.2.1.toNat 0) ≤ 1073741824)), (p8.2.2.1.getD p8.2.2.2.2.1.toNat 0), p8.2.2.1, p8.2.2.2.1, p8.2.2.2.2.1, p8.2.2.2.2.2.1, ())
 else
 some (false, (p8.2.2.1.getD p8.2.2.2.2.1.toNat 0), p8.2.2.1, p8.2.2.2.1, p8.2.2.2.2.1, p8.2.2.2.2.2.1, ())
 else
 some (false, (p8.2.2.1.getD p8.2.2.2.2.1.toNat 0), p8.2.2.1, p8.2.2.2.1, p8.2.2.2.2.1, p8.2.2.2.2.2.1, ()) : Option ((Bool × Int × List Int × Int × Int × (Int × Int × Int × Int × Int × Int × Int × List (Int × Int) × List Int) × Unit))).bind fun j9 => 
 some (Sum.inl (j9.1, j9.2.1, j9.2.2.1, j9.2.2.2.1, (IntKind.i64.wrap (j9.2.2.2.2.1 + 1)), j9.2.2.2.2.2.1, ()))
 else none
 else
 some (Sum.inr (p8.1, p8.2.2.2.2.2.1, ()))
noncomputable def g_floor_Check_r2 (p11 : Bool × Int × (List (Int × Int)) × Int × Int × (Int × Int × Int × Int × Int × Int × Int × List (Int × Int) × List Int) × Unit) : Option ((Bool × Int × (List (Int × Int)) × Int × Int × (Int × Int × Int × Int × Int × Int × Int × List (Int × Int) × List Int) × Unit) ⊕ ((Bool × (Int × Int × Int × Int × Int × Int × Int × List (Int × Int) × List Int) × Unit))) :=
 bif (decide (p11.2.2.2.2.1 < p11.2.2.2.1)) then
 bif (within p11.2.2.2.2.1 p11.2.2.1.length) then
 (bif p11.1 then
 (g_floor_member p11.2.2.2.2.2.1 (((p11.2.2.1.getD p11.2.2.2.2.1.toNat (0, 0))).1)).bind fun y12 =>
 bif y12 then
 bif ((((p11.2.2.1.getD p11.2.2.2.2.1.toNat (0, 0))).1) != p11.2.2.2.2.2.1.2.2.1) then
 (g_floor_within (((p11.2.2.1.getD p11.2.2.2.2.1.toNat (0, 0))).2) p11.2.1).bind fun y13 =>
 bif y13 then
 (g_floor_find p11.2.2.2.2.2.1 (((p11.2.2.1.getD p11.2.2.2.2.1.toNat (0, 0))).1)).bind fun y14 =>
 some ((y14 == p11.2.2.2.2.1), p11.2.2.1, p11.2.2.2.1, p11.2.2.2.2.1, p11.2.2.2.2.2.1, ((p11.2.2.1.getD p11.2.2.2.2.1.toNat (0, 0))), ())
 else
 some (false, p11.2.2.1, p11.2.2.2.1, p11.2.2.2.2.1, p11.2.2.2.2.2.1, ((p11.2.2.1.getD p11.2.2.2.2.1.toNat (0, 0))), ())
 else
 some (false, p11.2.2.1, p11.2.2.2.1, p11.2.2.2.2.1, p11.2.2.2.2.2.1, ((p11.2.2.1.getD p11.2.2.2.2.1.toNat (0, 0))), ())
 else
 some (false, p11.2.2.1, p11.2.2.2.1, p11.2.2.2.2.1, p11.2.2.2.2.2.1, ((p11.2.2.1.getD p11.2.2.2.2.1.toNat (0, 0))), ())
 else
 some (false, p11.2.2.1, p11.2.2.2.1, p11.2.2.2.2.1, p11.2.2.2.2.2.1, ((p11.2.2.1.getD p11.2.2.2.2.1.toNat (0, 0))), ()) : Option ((Bool × (List (Int × Int)) × Int × Int × (Int × Int × Int × Int × Int × Int × Int × List (Int × Int) × List Int) × (Int × Int) × Unit))).bind fun j15 => 
 some (Sum.inl (j15.1, j15.2.2.2.2.2.1.2, j15.2.1, j15.2.2.1, (IntKind.i64.wrap (j15.2.2.2.1 + 1)), j15.2.2.2.2.1, ()))
 else none
 else
 some (Sum.inr (p11.1, p11.2.2.2.2.2.1, ()))
noncomputable def g_floor_Check (a0 : Int × Int × Int × Int × Int × Int × Int × List (Int × Int) × List Int) : Option (Int) :=
 ((g_floor_within a0.1 2).bind fun y1 =>
 bif y1 then
 (g_floor_within a0.2.1 1099511627776).bind fun y2 =>
 bif y2 then
 (g_floor_within a0.2.2.2.2.2.2.1 1099511627776).bind fun y3 =>
 bif y3 then
 (g_floor_within a0.2.2.2.2.1 2199023255552).bind fun y4 =>
 bif y4 then
 (g_floor_within a0.2.2.2.2.2.1 2199023255552).bind fun y5 =>
 some (y5, a0, ())
 else
 some (false, a0, ())
 else
 some (false, a0, ())
 else
 some (false, a0, ())
 else
 some (false, a0, ()) : Option ((Bool × (Int × Int × Int × Int × Int × Int × Int × List (Int × Int) × List Int) × Unit))).bind fun j6 => 
 (bif j6.1 then
 bif (decide ((j6.2.1.2.2.2.2.2.2.2.2.length : Int) ≤ 8)) then
 some ((decide ((j6.2.1.2.2.2.2.2.2.2.1.length : Int) ≤ 4)), j6.2.1, ())
 else
 some (false, j6.2.1, ())
 else
 some (false, j6.2.1, ()) : Option ((Bool × (Int × Int × Int × Int × Int × Int × Int × List (Int × Int) × List Int) × Unit))).bind fun j7 => 
 (iter (g_floor_Check_r1) (j7.1, 0, j7.2.1.2.2.2.2.2.2.2.2, (j7.2.1.2.2.2.2.2.2.2.2.length : Int), 0, j7.2.1, ())).bind fun j10 => 
 bif (!j10.1) then
 some 1
 else
 (iter (g_floor_Check_r2) (j10.1, 7, j10.2.1.2.2.2.2.2.2.2.1, (j10.2.1.2.2.2.2.2.2.2.1.length : Int), 0, j10.2.1, ())).bind fun j16 => 
 (bif (j16.2.1.1 == 0) then
 bif j16.1 then
 bif ([j16.2.1.2.2.1, j16.2.1.2.2.2.1, j16.2.1.2.2.2.2.1, j16.2.1.2.2.2.2.2.1] == [0, 0, 0, 0]) then
 some (((j16.2.1.2.2.2.2.2.2.2.1.length : Int) == 0), ())
 else
 some (false, ())
 else
 some (false, ())
 else
 bif j16.1 then
 (g_floor_member j16.2.1 j16.2.1.2.2.1).bind fun y17 =>
 bif y17 then
 (g_floor_within j16.2.1.2.2.2.1 7).bind fun y18 =>
 bif y18 then
 some ((decide (j16.2.1.2.1 > 0)), ())
 else
 some (false, ())
 else
 some (false, ())
 else
 some (false, ()) : Option ((Bool × Unit))).bind fun j19 => 
 bif (!j19.1) then
 some 1
 else
 some 0
noncomputable def g_slices_InsertT_Sint_int (a0 : List Int) (a1 : Int) (a2 : List Int) : Option (List Int) :=
 insT 8 a0 a1 a2
noncomputable def g_slices_Delete_Sint_int (a0 : List Int) (a1 : Int) (a2 : Int) : Option (List Int) :=
 delT 8 a0 a1 a2
noncomputable def g_slices_Insert_Sapi_Waiter_api_Waiter (a0 : List (Int × Int)) (a1 : Int) (a2 : List (Int × Int)) : Option (List (Int × Int)) :=
 insT 16 a0 a1 a2
noncomputable def g_floor_Do_r1 (p18 : List (Int × Int) × Int × Int × (Int × Int × Int × Int × Int × Int × Int × Int × Int × Int × Int × Int × Unit) × List Int × List (Int × Int × Int × Int) × Unit) : Option ((List (Int × Int) × Int × Int × (Int × Int × Int × Int × Int × Int × Int × Int × Int × Int × Int × Int × Unit) × List Int × List (Int × Int × Int × Int) × Unit) ⊕ ((List (Int × Int) × (Int × Int × Int × Int × Int × Int × Int × Int × Int × Int × Int × Int × Unit) × List Int × List (Int × Int × Int × Int) × Unit) ⊕ (List (Int × Int) × Int × (Int × Int × Int × Int × Int × Int × Int × Int × Int × Int × Int × Int × Unit) × List Int × List (Int × Int × Int × Int) × Unit))) :=
 bif (decide (p18.2.2.1 < p18.2.1)) then
 bif (within p18.2.2.1 p18.1.length) then
 bif ((((p18.1.getD p18.2.2.1.toNat (0, 0))).1) == p18.2.2.2.1.2.2.2.2.2.2.2.2.1) then
 some (Sum.inr (Sum.inr (p18.1, p18.2.2.1, (p18.2.2.2.1.1, p18.2.2.2.1.2.1, p18.2.2.2.1.2.2.1, p18.2.2.2.1.2.2.2.1, p18.2.2.2.1.2.2.2.2.1, p18.2.2.2.1.2.2.2.2.2.1, p18.2.2.2.1.2.2.2.2.2.2.1, p18.2.2.2.1.2.2.2.2.2.2.2.1, p18.2.2.2.1.2.2.2.2.2.2.2.2.1, p18.2.2.2.1.2.2.2.2.2.2.2.2.2.1, p18.2.2.2.1.2.2.2.2.2.2.2.2.2.2.1, p18.2.2.2.1.2.2.2.2.2.2.2.2.2.2.2.1, ()), p18.2.2.2.2.1, p18.2.2.2.2.2.1, ())))
 else
 some (Sum.inl (p18.1, p18.2.1, (IntKind.i64.wrap (p18.2.2.1 + 1)), (p18.2.2.2.1.1, p18.2.2.2.1.2.1, p18.2.2.2.1.2.2.1, p18.2.2.2.1.2.2.2.1, p18.2.2.2.1.2.2.2.2.1, p18.2.2.2.1.2.2.2.2.2.1, p18.2.2.2.1.2.2.2.2.2.2.1, p18.2.2.2.1.2.2.2.2.2.2.2.1, p18.2.2.2.1.2.2.2.2.2.2.2.2.1, p18.2.2.2.1.2.2.2.2.2.2.2.2.2.1, p18.2.2.2.1.2.2.2.2.2.2.2.2.2.2.1, p18.2.2.2.1.2.2.2.2.2.2.2.2.2.2.2.1, ()), p18.2.2.2.2.1, p18.2.2.2.2.2.1, ()))
 else none
 else
 some (Sum.inr (Sum.inl (p18.1, (p18.2.2.2.1.1, p18.2.2.2.1.2.1, p18.2.2.2.1.2.2.1, p18.2.2.2.1.2.2.2.1, p18.2.2.2.1.2.2.2.2.1, p18.2.2.2.1.2.2.2.2.2.1, p18.2.2.2.1.2.2.2.2.2.2.1, p18.2.2.2.1.2.2.2.2.2.2.2.1, p18.2.2.2.1.2.2.2.2.2.2.2.2.1, p18.2.2.2.1.2.2.2.2.2.2.2.2.2.1, p18.2.2.2.1.2.2.2.2.2.2.2.2.2.2.1, p18.2.2.2.1.2.2.2.2.2.2.2.2.2.2.2.1, ()), p18.2.2.2.2.1, p18.2.2.2.2.2.1, ())))
noncomputable def g_floor_Do_r2 (p23 : List (Int × Int) × Int × Int × (Int × Int × Int × Int × Int × Int × Int × Int × Int × Int × Int × Int × Unit) × List Int × List (Int × Int × Int × Int) × Unit) : Option ((List (Int × Int) × Int × Int × (Int × Int × Int × Int × Int × Int × Int × Int × Int × Int × Int × Int × Unit) × List Int × List (Int × Int × Int × Int) × Unit) ⊕ ((List (Int × Int) × Int × (Int × Int × Int × Int × Int × Int × Int × Int × Int × Int × Int × Int × Unit) × List Int × List (Int × Int × Int × Int) × Unit))) :=
 bif (decide (p23.2.2.1 < (p23.1.length : Int))) then
 (bif (within p23.2.2.1 p23.1.length) then
 bif (!((((p23.1.getD p23.2.2.1.toNat (0, 0))).1) == p23.2.2.2.1.2.2.2.2.2.2.2.2.1)) then
 bif (within p23.2.1 p23.1.length) then
 some ((p23.1.set p23.2.1.toNat ((p23.1.getD p23.2.2.1.toNat (0, 0)))), (IntKind.i64.wrap (p23.2.1 + 1)), p23.2.2.1, (p23.2.2.2.1.1, p23.2.2.2.1.2.1, p23.2.2.2.1.2.2.1, p23.2.2.2.1.2.2.2.1, p23.2.2.2.1.2.2.2.2.1, p23.2.2.2.1.2.2.2.2.2.1, p23.2.2.2.1.2.2.2.2.2.2.1, p23.2.2.2.1.2.2.2.2.2.2.2.1, p23.2.2.2.1.2.2.2.2.2.2.2.2.1, p23.2.2.2.1.2.2.2.2.2.2.2.2.2.1, p23.2.2.2.1.2.2.2.2.2.2.2.2.2.2.1, p23.2.2.2.1.2.2.2.2.2.2.2.2.2.2.2.1, ()), p23.2.2.2.2.1, p23.2.2.2.2.2.1, ())
 else none
 else
 some (p23.1, p23.2.1, p23.2.2.1, (p23.2.2.2.1.1, p23.2.2.2.1.2.1, p23.2.2.2.1.2.2.1, p23.2.2.2.1.2.2.2.1, p23.2.2.2.1.2.2.2.2.1, p23.2.2.2.1.2.2.2.2.2.1, p23.2.2.2.1.2.2.2.2.2.2.1, p23.2.2.2.1.2.2.2.2.2.2.2.1, p23.2.2.2.1.2.2.2.2.2.2.2.2.1, p23.2.2.2.1.2.2.2.2.2.2.2.2.2.1, p23.2.2.2.1.2.2.2.2.2.2.2.2.2.2.1, p23.2.2.2.1.2.2.2.2.2.2.2.2.2.2.2.1, ()), p23.2.2.2.2.1, p23.2.2.2.2.2.1, ())
 else none : Option ((List (Int × Int) × Int × Int × (Int × Int × Int × Int × Int × Int × Int × Int × Int × Int × Int × Int × Unit) × List Int × List (Int × Int × Int × Int) × Unit))).bind fun j24 => 
 some (Sum.inl (j24.1, j24.2.1, (IntKind.i64.wrap (j24.2.2.1 + 1)), (j24.2.2.2.1.1, j24.2.2.2.1.2.1, j24.2.2.2.1.2.2.1, j24.2.2.2.1.2.2.2.1, j24.2.2.2.1.2.2.2.2.1, j24.2.2.2.1.2.2.2.2.2.1, j24.2.2.2.1.2.2.2.2.2.2.1, j24.2.2.2.1.2.2.2.2.2.2.2.1, j24.2.2.2.1.2.2.2.2.2.2.2.2.1, j24.2.2.2.1.2.2.2.2.2.2.2.2.2.1, j24.2.2.2.1.2.2.2.2.2.2.2.2.2.2.1, j24.2.2.2.1.2.2.2.2.2.2.2.2.2.2.2.1, ()), j24.2.2.2.2.1, j24.2.2.2.2.2.1, ()))
 else
 some (Sum.inr (p23.1, p23.2.1, (p23.2.2.2.1.1, p23.2.2.2.1.2.1, p23.2.2.2.1.2.2.1, p23.2.2.2.1.2.2.2.1, p23.2.2.2.1.2.2.2.2.1, p23.2.2.2.1.2.2.2.2.2.1, p23.2.2.2.1.2.2.2.2.2.2.1, p23.2.2.2.1.2.2.2.2.2.2.2.1, p23.2.2.2.1.2.2.2.2.2.2.2.2.1, p23.2.2.2.1.2.2.2.2.2.2.2.2.2.1, p23.2.2.2.1.2.2.2.2.2.2.2.2.2.2.1, p23.2.2.2.1.2.2.2.2.2.2.2.2.2.2.2.1, ()), p23.2.2.2.2.1, p23.2.2.2.2.2.1, ()))
noncomputable def g_floor_Do_r3 (p33 : List (Int × Int) × Int × Int × (Int × Int) × Unit) : Option ((List (Int × Int) × Int × Int × (Int × Int) × Unit) ⊕ ((List (Int × Int) × (Int × Int) × Unit) ⊕ (List (Int × Int) × Int × (Int × Int) × Unit))) :=
 bif (decide (p33.2.2.1 < p33.2.1)) then
 bif (within p33.2.2.1 p33.1.length) then
 bif (decide (((p33.1.getD p33.2.2.1.toNat (0, 0))).2 < p33.2.2.2.1.2)) then
 some (Sum.inr (Sum.inr (p33.1, p33.2.2.1, p33.2.2.2.1, ())))
 else
 some (Sum.inl (p33.1, p33.2.1, (IntKind.i64.wrap (p33.2.2.1 + 1)), p33.2.2.2.1, ()))
 else none
 else
 some (Sum.inr (Sum.inl (p33.1, p33.2.2.2.1, ())))
noncomputable def g_floor_Do_r4 (p44 : List (Int × Int) × Int × Int × (Int × Int × Int × Int × Int × Int × Int × Int × Int × Int × Int × Int × Unit) × List Int × List (Int × Int × Int × Int) × Unit) : Option ((List (Int × Int) × Int × Int × (Int × Int × Int × Int × Int × Int × Int × Int × Int × Int × Int × Int × Unit) × List Int × List (Int × Int × Int × Int) × Unit) ⊕ ((List (Int × Int) × (Int × Int × Int × Int × Int × Int × Int × Int × Int × Int × Int × Int × Unit) × List Int × List (Int × Int × Int × Int) × Unit) ⊕ (List (Int × Int) × Int × (Int × Int × Int × Int × Int × Int × Int × Int × Int × Int × Int × Int × Unit) × List Int × List (Int × Int × Int × Int) × Unit))) :=
 bif (decide (p44.2.2.1 < p44.2.1)) then
 bif (within p44.2.2.1 p44.1.length) then
 bif ((((p44.1.getD p44.2.2.1.toNat (0, 0))).1) == p44.2.2.2.1.2.2.2.2.2.2.2.2.1) then
 some (Sum.inr (Sum.inr (p44.1, p44.2.2.1, (p44.2.2.2.1.1, p44.2.2.2.1.2.1, p44.2.2.2.1.2.2.1, p44.2.2.2.1.2.2.2.1, p44.2.2.2.1.2.2.2.2.1, p44.2.2.2.1.2.2.2.2.2.1, p44.2.2.2.1.2.2.2.2.2.2.1, p44.2.2.2.1.2.2.2.2.2.2.2.1, p44.2.2.2.1.2.2.2.2.2.2.2.2.1, p44.2.2.2.1.2.2.2.2.2.2.2.2.2.1, p44.2.2.2.1.2.2.2.2.2.2.2.2.2.2.1, p44.2.2.2.1.2.2.2.2.2.2.2.2.2.2.2.1, ()), p44.2.2.2.2.1, p44.2.2.2.2.2.1, ())))
 else
 some (Sum.inl (p44.1, p44.2.1, (IntKind.i64.wrap (p44.2.2.1 + 1)), (p44.2.2.2.1.1, p44.2.2.2.1.2.1, p44.2.2.2.1.2.2.1, p44.2.2.2.1.2.2.2.1, p44.2.2.2.1.2.2.2.2.1, p44.2.2.2.1.2.2.2.2.2.1, p44.2.2.2.1.2.2.2.2.2.2.1, p44.2.2.2.1.2.2.2.2.2.2.2.1, p44.2.2.2.1.2.2.2.2.2.2.2.2.1, p44.2.2.2.1.2.2.2.2.2.2.2.2.2.1, p44.2.2.2.1.2.2.2.2.2.2.2.2.2.2.1, p44.2.2.2.1.2.2.2.2.2.2.2.2.2.2.2.1, ()), p44.2.2.2.2.1, p44.2.2.2.2.2.1, ()))
 else none
 else
 some (Sum.inr (Sum.inl (p44.1, (p44.2.2.2.1.1, p44.2.2.2.1.2.1, p44.2.2.2.1.2.2.1, p44.2.2.2.1.2.2.2.1, p44.2.2.2.1.2.2.2.2.1, p44.2.2.2.1.2.2.2.2.2.1, p44.2.2.2.1.2.2.2.2.2.2.1, p44.2.2.2.1.2.2.2.2.2.2.2.1, p44.2.2.2.1.2.2.2.2.2.2.2.2.1, p44.2.2.2.1.2.2.2.2.2.2.2.2.2.1, p44.2.2.2.1.2.2.2.2.2.2.2.2.2.2.1, p44.2.2.2.1.2.2.2.2.2.2.2.2.2.2.2.1, ()), p44.2.2.2.2.1, p44.2.2.2.2.2.1, ())))
noncomputable def g_floor_Do_r5 (p49 : List (Int × Int) × Int × Int × (Int × Int × Int × Int × Int × Int × Int × Int × Int × Int × Int × Int × Unit) × List Int × List (Int × Int × Int × Int) × Unit) : Option ((List (Int × Int) × Int × Int × (Int × Int × Int × Int × Int × Int × Int × Int × Int × Int × Int × Int × Unit) × List Int × List (Int × Int × Int × Int) × Unit) ⊕ ((List (Int × Int) × Int × (Int × Int × Int × Int × Int × Int × Int × Int × Int × Int × Int × Int × Unit) × List Int × List (Int × Int × Int × Int) × Unit))) :=
 bif (decide (p49.2.2.1 < (p49.1.length : Int))) then
 (bif (within p49.2.2.1 p49.1.length) then
 bif (!((((p49.1.getD p49.2.2.1.toNat (0, 0))).1) == p49.2.2.2.1.2.2.2.2.2.2.2.2.1)) then
 bif (within p49.2.1 p49.1.length) then
 some ((p49.1.set p49.2.1.toNat ((p49.1.getD p49.2.2.1.toNat (0, 0)))), (IntKind.i64.wrap (p49.2.1 + 1)), p49.2.2.1, (p49.2.2.2.1.1, p49.2.2.2.1.2.1, p49.2.2.2.1.2.2.1, p49.2.2.2.1.2.2.2.1, p49.2.2.2.1.2.2.2.2.1, p49.2.2.2.1.2.2.2.2.2.1, p49.2.2.2.1.2.2.2.2.2.2.1, p49.2.2.2.1.2.2.2.2.2.2.2.1, p49.2.2.2.1.2.2.2.2.2.2.2.2.1, p49.2.2.2.1.2.2.2.2.2.2.2.2.2.1, p49.2.2.2.1.2.2.2.2.2.2.2.2.2.2.1, p49.2.2.2.1.2.2.2.2.2.2.2.2.2.2.2.1, ()), p49.2.2.2.2.1, p49.2.2.2.2.2.1, ())
 else none
 else
 some (p49.1, p49.2.1, p49.2.2.1, (p49.2.2.2.1.1, p49.2.2.2.1.2.1, p49.2.2.2.1.2.2.1, p49.2.2.2.1.2.2.2.1, p49.2.2.2.1.2.2.2.2.1, p49.2.2.2.1.2.2.2.2.2.1, p49.2.2.2.1.2.2.2.2.2.2.1, p49.2.2.2.1.2.2.2.2.2.2.2.1, p49.2.2.2.1.2.2.2.2.2.2.2.2.1, p49.2.2.2.1.2.2.2.2.2.2.2.2.2.1, p49.2.2.2.1.2.2.2.2.2.2.2.2.2.2.1, p49.2.2.2.1.2.2.2.2.2.2.2.2.2.2.2.1, ()), p49.2.2.2.2.1, p49.2.2.2.2.2.1, ())
 else none : Option ((List (Int × Int) × Int × Int × (Int × Int × Int × Int × Int × Int × Int × Int × Int × Int × Int × Int × Unit) × List Int × List (Int × Int × Int × Int) × Unit))).bind fun j50 => 
 some (Sum.inl (j50.1, j50.2.1, (IntKind.i64.wrap (j50.2.2.1 + 1)), (j50.2.2.2.1.1, j50.2.2.2.1.2.1, j50.2.2.2.1.2.2.1, j50.2.2.2.1.2.2.2.1, j50.2.2.2.1.2.2.2.2.1, j50.2.2.2.1.2.2.2.2.2.1, j50.2.2.2.1.2.2.2.2.2.2.1, j50.2.2.2.1.2.2.2.2.2.2.2.1, j50.2.2.2.1.2.2.2.2.2.2.2.2.1, j50.2.2.2.1.2.2.2.2.2.2.2.2.2.1, j50.2.2.2.1.2.2.2.2.2.2.2.2.2.2.1, j50.2.2.2.1.2.2.2.2.2.2.2.2.2.2.2.1, ()), j50.2.2.2.2.1, j50.2.2.2.2.2.1, ()))
 else
 some (Sum.inr (p49.1, p49.2.1, (p49.2.2.2.1.1, p49.2.2.2.1.2.1, p49.2.2.2.1.2.2.1, p49.2.2.2.1.2.2.2.1, p49.2.2.2.1.2.2.2.2.1, p49.2.2.2.1.2.2.2.2.2.1, p49.2.2.2.1.2.2.2.2.2.2.1, p49.2.2.2.1.2.2.2.2.2.2.2.1, p49.2.2.2.1.2.2.2.2.2.2.2.2.1, p49.2.2.2.1.2.2.2.2.2.2.2.2.2.1, p49.2.2.2.1.2.2.2.2.2.2.2.2.2.2.1, p49.2.2.2.1.2.2.2.2.2.2.2.2.2.2.2.1, ()), p49.2.2.2.2.1, p49.2.2.2.2.2.1, ()))
noncomputable def g_floor_Do (a0 : Int × Int × Int × Int × Int × Int × Int × List (Int × Int) × List Int) (a1 : Int × Int × Int × Int × Int) : Option ((Int × Int × Int × Int × Int × Int × Int × List (Int × Int) × List Int) × (List (Int × Int × Int × Int)) × Int) :=
 (g_slices_Clone_Sapi_Waiter_api_Waiter a0.2.2.2.2.2.2.2.1).bind fun y1 =>
 (g_slices_Clone_Sint_int a0.2.2.2.2.2.2.2.2).bind fun y2 =>
 bif (decide (a1.1 = 1)) then
 (g_floor_Check a0).bind fun y4 =>
 (bif (a1.1 == 6) then
 bif (y4 == 0) then
 bif (decide (a1.2.2.2.2 ≥ a0.2.2.2.2.2.2.1)) then
 some ((decide (a1.2.2.2.2 ≤ 1099511627776)), (0, (0, (0, (0, (0, (0, (0, ([], [])))))))), ((a0.1, (a0.2.1, (a0.2.2.1, (a0.2.2.2.1, (a0.2.2.2.2.1, (a0.2.2.2.2.2.1, (a0.2.2.2.2.2.2.1, (y1, y2)))))))), (a1, [])), ())
 else
 some (false, (0, (0, (0, (0, (0, (0, (0, ([], [])))))))), ((a0.1, (a0.2.1, (a0.2.2.1, (a0.2.2.2.1, (a0.2.2.2.2.1, (a0.2.2.2.2.2.1, (a0.2.2.2.2.2.2.1, (y1, y2)))))))), (a1, [])), ())
 else
 some (false, (0, (0, (0, (0, (0, (0, (0, ([], [])))))))), ((a0.1, (a0.2.1, (a0.2.2.1, (a0.2.2.2.1, (a0.2.2.2.2.1, (a0.2.2.2.2.2.1, (a0.2.2.2.2.2.2.1, (y1, y2)))))))), (a1, [])), ())
 else
 bif (a1.1 == 3) then
 bif (y4 == 0) then
 (g_floor_within a1.2.2.1 7).bind fun y5 =>
 bif y5 then
 bif (decide (a1.2.1 > 0)) then
 some ((decide (a1.2.1 ≤ 1073741824)), (0, (0, (0, (0, (0, (0, (0, ([], [])))))))), ((a0.1, (a0.2.1, (a0.2.2.1, (a0.2.2.2.1, (a0.2.2.2.2.1, (a0.2.2.2.2.2.1, (a0.2.2.2.2.2.2.1, (y1, y2)))))))), (a1, [])), ())
 else
 some (false, (0, (0, (0, (0, (0, (0, (0, ([], [])))))))), ((a0.1, (a0.2.1, (a0.2.2.1, (a0.2.2.2.1, (a0.2.2.2.2.1, (a0.2.2.2.2.2.1, (a0.2.2.2.2.2.2.1, (y1, y2)))))))), (a1, [])), ())
 else
 some (false, (0, (0, (0, (0, (0, (0, (0, ([], [])))))))), ((a0.1, (a0.2.1, (a0.2.2.1, (a0.2.2.2.1, (a0.2.2.2.2.1, (a0.2.2.2.2.2.1, (a0.2.2.2.2.2.2.1, (y1, y2)))))))), (a1, [])), ())
 else
 some (false, (0, (0, (0, (0, (0, (0, (0, ([], [])))))))), ((a0.1, (a0.2.1, (a0.2.2.1, (a0.2.2.2.1, (a0.2.2.2.2.1, (a0.2.2.2.2.2.1, (a0.2.2.2.2.2.2.1, (y1, y2)))))))), (a1, [])), ())
 else
 bif (y4 == 0) then
 bif (decide (a1.2.1 > 0)) then
 some ((decide (a1.2.1 ≤ 1073741824)), (0, (0, (0, (0, (0, (0, (0, ([], [])))))))), ((a0.1, (a0.2.1, (a0.2.2.1, (a0.2.2.2.1, (a0.2.2.2.2.1, (a0.2.2.2.2.2.1, (a0.2.2.2.2.2.2.1, (y1, y2)))))))), (a1, [])), ())
 else
 some (false, (0, (0, (0, (0, (0, (0, (0, ([], [])))))))), ((a0.1, (a0.2.1, (a0.2.2.1, (a0.2.2.2.1, (a0.2.2.2.2.1, (a0.2.2.2.2.2.1, (a0.2.2.2.2.2.2.1, (y1, y2)))))))), (a1, [])), ())
 else
 some (false, (0, (0, (0, (0, (0, (0, (0, ([], [])))))))), ((a0.1, (a0.2.1, (a0.2.2.1, (a0.2.2.2.1, (a0.2.2.2.2.1, (a0.2.2.2.2.2.1, (a0.2.2.2.2.2.2.1, (y1, y2)))))))), (a1, [])), ()) : Option ((Bool × (Int × Int × Int × Int × Int × Int × Int × List (Int × Int) × List Int) × ((Int × Int × Int × Int × Int × Int × Int × List (Int × Int) × List Int) × (Int × Int × Int × Int × Int) × List (Int × Int × Int × Int)) × Unit))).bind fun j6 => 
 bif (!j6.1) then
 some ((0, (0, (0, (0, (0, (0, (0, ([], [])))))))), ([], 1))
 else
 (g_slices_BinarySearch_Sint_int j6.2.2.1.1.2.2.2.2.2.2.2.2 j6.2.2.1.2.1.2.1).bind fun y7 =>
 ((bif (!y7.2) then
 some (y7.1, y7.2, (decide ((j6.2.2.1.1.2.2.2.2.2.2.2.2.length : Int) ≥ 8)), j6.2.2.1, ())
 else
 some (y7.1, y7.2, false, j6.2.2.1, ()) : Option ((Int × Bool × Bool × ((Int × Int × Int × Int × Int × Int × Int × List (Int × Int) × List Int) × (Int × Int × Int × Int × Int) × List (Int × Int × Int × Int)) × Unit))).bind fun j8 => 
 bif j8.2.2.1 then
 bif (room 32 (j8.2.2.2.1.2.2 ++ [(6, (j8.2.2.2.1.2.1.2.1, (0, 0)))]).length) then
 some (Sum.inr ((j8.2.2.2.1.1, (j8.2.2.2.1.2.1, (j8.2.2.2.1.2.2 ++ [(6, (j8.2.2.2.1.2.1.2.1, (0, 0)))]))), ()))
 else none
 else
 bif (!j8.2.1) then
 (g_slices_InsertT_Sint_int j8.2.2.2.1.1.2.2.2.2.2.2.2.2 j8.1 [j8.2.2.2.1.2.1.2.1]).bind fun y9 =>
 some (Sum.inl (((j8.2.2.2.1.1.1, (j8.2.2.2.1.1.2.1, (j8.2.2.2.1.1.2.2.1, (j8.2.2.2.1.1.2.2.2.1, (j8.2.2.2.1.1.2.2.2.2.1, (j8.2.2.2.1.1.2.2.2.2.2.1, (j8.2.2.2.1.1.2.2.2.2.2.2.1, (j8.2.2.2.1.1.2.2.2.2.2.2.2.1, y9)))))))), j8.2.2.2.1.2), ()))
 else
 some (Sum.inl (j8.2.2.2.1, ())) : Option ((((Int × Int × Int × Int × Int × Int × Int × List (Int × Int) × List Int) × (Int × Int × Int × Int × Int) × List (Int × Int × Int × Int)) × Unit) ⊕ (((Int × Int × Int × Int × Int × Int × Int × List (Int × Int) × List Int) × (Int × Int × Int × Int × Int) × List (Int × Int × Int × Int)) × Unit))).bind fun j10 => 
 (match j10 with
 | .inl j11 =>
 (bif (room 32 (j11.1.2.2 ++ [(15, (j11.1.2.1.2.1, (j11.1.1.2.1, 0)))]).length) then
 some (j11.1.1, ((j11.1.2.2 ++ [(15, (j11.1.2.1.2.1, (j11.1.1.2.1, 0)))]), 0))
 else none)
 | .inr j12 =>
 (some (j12.1.1, (j12.1.2.2, 0))))
 else
 bif (decide (a1.1 = 2)) then
 (g_floor_Check a0).bind fun y13 =>
 (bif (a1.1 == 6) then
 bif (y13 == 0) then
 bif (decide (a1.2.2.2.2 ≥ a0.2.2.2.2.2.2.1)) then
 some ((decide (a1.2.2.2.2 ≤ 1099511627776)), (0, (0, (0, (0, (0, (0, (0, ([], [])))))))), ((a0.1, (a0.2.1, (a0.2.2.1, (a0.2.2.2.1, (a0.2.2.2.2.1, (a0.2.2.2.2.2.1, (a0.2.2.2.2.2.2.1, (y1, y2)))))))), (a1, [])), ())
 else
 some (false, (0, (0, (0, (0, (0, (0, (0, ([], [])))))))), ((a0.1, (a0.2.1, (a0.2.2.1, (a0.2.2.2.1, (a0.2.2.2.2.1, (a0.2.2.2.2.2.1, (a0.2.2.2.2.2.2.1, (y1, y2)))))))), (a1, [])), ())
 else
 some (false, (0, (0, (0, (0, (0, (0, (0, ([], [])))))))), ((a0.1, (a0.2.1, (a0.2.2.1, (a0.2.2.2.1, (a0.2.2.2.2.1, (a0.2.2.2.2.2.1, (a0.2.2.2.2.2.2.1, (y1, y2)))))))), (a1, [])), ())
 else
 bif (a1.1 == 3) then
 bif (y13 == 0) then
 (g_floor_within a1.2.2.1 7).bind fun y14 =>
 bif y14 then
 bif (decide (a1.2.1 > 0)) then
 some ((decide (a1.2.1 ≤ 1073741824)), (0, (0, (0, (0, (0, (0, (0, ([], [])))))))), ((a0.1, (a0.2.1, (a0.2.2.1, (a0.2.2.2.1, (a0.2.2.2.2.1, (a0.2.2.2.2.2.1, (a0.2.2.2.2.2.2.1, (y1, y2)))))))), (a1, [])), ())
 else
 some (false, (0, (0, (0, (0, (0, (0, (0, ([], [])))))))), ((a0.1, (a0.2.1, (a0.2.2.1, (a0.2.2.2.1, (a0.2.2.2.2.1, (a0.2.2.2.2.2.1, (a0.2.2.2.2.2.2.1, (y1, y2)))))))), (a1, [])), ())
 else
 some (false, (0, (0, (0, (0, (0, (0, (0, ([], [])))))))), ((a0.1, (a0.2.1, (a0.2.2.1, (a0.2.2.2.1, (a0.2.2.2.2.1, (a0.2.2.2.2.2.1, (a0.2.2.2.2.2.2.1, (y1, y2)))))))), (a1, [])), ())
 else
 some (false, (0, (0, (0, (0, (0, (0, (0, ([], [])))))))), ((a0.1, (a0.2.1, (a0.2.2.1, (a0.2.2.2.1, (a0.2.2.2.2.1, (a0.2.2.2.2.2.1, (a0.2.2.2.2.2.2.1, (y1, y2)))))))), (a1, [])), ())
 else
 bif (y13 == 0) then
 bif (decide (a1.2.1 > 0)) then
 some ((decide (a1.2.1 ≤ 1073741824)), (0, (0, (0, (0, (0, (0, (0, ([], [])))))))), ((a0.1, (a0.2.1, (a0.2.2.1, (a0.2.2.2.1, (a0.2.2.2.2.1, (a0.2.2.2.2.2.1, (a0.2.2.2.2.2.2.1, (y1, y2)))))))), (a1, [])), ())
 else
 some (false, (0, (0, (0, (0, (0, (0, (0, ([], [])))))))), ((a0.1, (a0.2.1, (a0.2.2.1, (a0.2.2.2.1, (a0.2.2.2.2.1, (a0.2.2.2.2.2.1, (a0.2.2.2.2.2.2.1, (y1, y2)))))))), (a1, [])), ())
 else
 some (false, (0, (0, (0, (0, (0, (0, (0, ([], [])))))))), ((a0.1, (a0.2.1, (a0.2.2.1, (a0.2.2.2.1, (a0.2.2.2.2.1, (a0.2.2.2.2.2.1, (a0.2.2.2.2.2.2.1, (y1, y2)))))))), (a1, [])), ()) : Option ((Bool × (Int × Int × Int × Int × Int × Int × Int × List (Int × Int) × List Int) × ((Int × Int × Int × Int × Int × Int × Int × List (Int × Int) × List Int) × (Int × Int × Int × Int × Int) × List (Int × Int × Int × Int)) × Unit))).bind fun j15 => 
 bif (!j15.1) then
 some ((0, (0, (0, (0, (0, (0, (0, ([], [])))))))), ([], 1))
 else
 (g_slices_BinarySearch_Sint_int j15.2.2.1.1.2.2.2.2.2.2.2.2 j15.2.2.1.2.1.2.1).bind fun y16 =>
 bif (!y16.2) then
 some (j15.2.2.1.1, (j15.2.2.1.2.2, 0))
 else
 (g_slices_Delete_Sint_int j15.2.2.1.1.2.2.2.2.2.2.2.2 y16.1 (IntKind.i64.wrap (y16.1 + 1))).bind fun y17 =>
 (((iter (g_floor_Do_r1) (j15.2.2.1.1.2.2.2.2.2.2.2.1, (j15.2.2.1.1.2.2.2.2.2.2.2.1.length : Int), 0, (j15.2.2.1.1.1, j15.2.2.1.1.2.1, j15.2.2.1.1.2.2.1, j15.2.2.1.1.2.2.2.1, j15.2.2.1.1.2.2.2.2.1, j15.2.2.1.1.2.2.2.2.2.1, j15.2.2.1.1.2.2.2.2.2.2.1, j15.2.2.1.2.1.1, j15.2.2.1.2.1.2.1, j15.2.2.1.2.1.2.2.1, j15.2.2.1.2.1.2.2.2.1, j15.2.2.1.2.1.2.2.2.2, ()), y17, j15.2.2.1.2.2, ())).bind fun j19 => 
 (match j19 with
 | .inl j20 =>
 (some (j20.1, (-1), (j20.2.1.1, j20.2.1.2.1, j20.2.1.2.2.1, j20.2.1.2.2.2.1, j20.2.1.2.2.2.2.1, j20.2.1.2.2.2.2.2.1, j20.2.1.2.2.2.2.2.2.1, j20.2.1.2.2.2.2.2.2.2.1, j20.2.1.2.2.2.2.2.2.2.2.1, j20.2.1.2.2.2.2.2.2.2.2.2.1, j20.2.1.2.2.2.2.2.2.2.2.2.2.1, j20.2.1.2.2.2.2.2.2.2.2.2.2.2.1, ()), j20.2.2.1, j20.2.2.2.1, ()))
 | .inr j21 =>
 (some (j21.1, j21.2.1, (j21.2.2.1.1, j21.2.2.1.2.1, j21.2.2.1.2.2.1, j21.2.2.1.2.2.2.1, j21.2.2.1.2.2.2.2.1, j21.2.2.1.2.2.2.2.2.1, j21.2.2.1.2.2.2.2.2.2.1, j21.2.2.1.2.2.2.2.2.2.2.1, j21.2.2.1.2.2.2.2.2.2.2.2.1, j21.2.2.1.2.2.2.2.2.2.2.2.2.1, j21.2.2.1.2.2.2.2.2.2.2.2.2.2.1, j21.2.2.1.2.2.2.2.2.2.2.2.2.2.2.1, ()), j21.2.2.2.1, j21.2.2.2.2.1, ()))) : Option ((List (Int × Int) × Int × (Int × Int × Int × Int × Int × Int × Int × Int × Int × Int × Int × Int × Unit) × List Int × List (Int × Int × Int × Int) × Unit))).bind fun j22 => 
 bif (j22.2.1 == (-1)) then
 some (((j22.2.2.1.1, (j22.2.2.1.2.1, (j22.2.2.1.2.2.1, (j22.2.2.1.2.2.2.1, (j22.2.2.1.2.2.2.2.1, (j22.2.2.1.2.2.2.2.2.1, (j22.2.2.1.2.2.2.2.2.2.1, (j22.1, j22.2.2.2.1)))))))), ((j22.2.2.1.2.2.2.2.2.2.2.1, (j22.2.2.1.2.2.2.2.2.2.2.2.1, (j22.2.2.1.2.2.2.2.2.2.2.2.2.1, (j22.2.2.1.2.2.2.2.2.2.2.2.2.2.1, j22.2.2.1.2.2.2.2.2.2.2.2.2.2.2.1)))), j22.2.2.2.2.1)), ())
 else
 (iter (g_floor_Do_r2) (j22.1, j22.2.1, (IntKind.i64.wrap (j22.2.1 + 1)), (j22.2.2.1.1, j22.2.2.1.2.1, j22.2.2.1.2.2.1, j22.2.2.1.2.2.2.1, j22.2.2.1.2.2.2.2.1, j22.2.2.1.2.2.2.2.2.1, j22.2.2.1.2.2.2.2.2.2.1, j22.2.2.1.2.2.2.2.2.2.2.1, j22.2.2.1.2.2.2.2.2.2.2.2.1, j22.2.2.1.2.2.2.2.2.2.2.2.2.1, j22.2.2.1.2.2.2.2.2.2.2.2.2.2.1, j22.2.2.1.2.2.2.2.2.2.2.2.2.2.2.1, ()), j22.2.2.2.1, j22.2.2.2.2.1, ())).bind fun j25 => 
 bif (cutG j25.2.1 (j25.1.length : Int) j25.1.length) then
 bif (cutG 0 j25.2.1 ((copyL j25.1 j25.2.1.toNat (List.replicate ((j25.1.length : Int).toNat - j25.2.1.toNat) (0, 0))).length)) then
 some (((j25.2.2.1.1, (j25.2.2.1.2.1, (j25.2.2.1.2.2.1, (j25.2.2.1.2.2.2.1, (j25.2.2.1.2.2.2.2.1, (j25.2.2.1.2.2.2.2.2.1, (j25.2.2.1.2.2.2.2.2.2.1, ((((copyL j25.1 j25.2.1.toNat (List.replicate ((j25.1.length : Int).toNat - j25.2.1.toNat) (0, 0))).drop 0).take (j25.2.1.toNat - 0)), j25.2.2.2.1)))))))), ((j25.2.2.1.2.2.2.2.2.2.2.1, (j25.2.2.1.2.2.2.2.2.2.2.2.1, (j25.2.2.1.2.2.2.2.2.2.2.2.2.1, (j25.2.2.1.2.2.2.2.2.2.2.2.2.2.1, j25.2.2.1.2.2.2.2.2.2.2.2.2.2.2.1)))), j25.2.2.2.2.1)), ())
 else none
 else none : Option ((((Int × Int × Int × Int × Int × Int × Int × List (Int × Int) × List Int) × (Int × Int × Int × Int × Int) × List (Int × Int × Int × Int)) × Unit))).bind fun j26 => 
 bif (j26.1.1.2.2.1 == j26.1.2.1.2.1) then
 bif (decide ((j26.1.1.2.2.2.2.2.2.2.1.length : Int) > 0)) then
 bif (within 0 j26.1.1.2.2.2.2.2.2.2.1.length) then
 bif (cutG 1 (j26.1.1.2.2.2.2.2.2.2.1.length : Int) j26.1.1.2.2.2.2.2.2.2.1.length) then
 bif (room 32 (j26.1.2.2 ++ [(5, (((j26.1.1.2.2.2.2.2.2.2.1.getD 0 (0, 0))).1, ((IntKind.i64.wrap (j26.1.1.2.1 + 1)), 0)))]).length) then
 some ((1, ((IntKind.i64.wrap (j26.1.1.2.1 + 1)), (((j26.1.1.2.2.2.2.2.2.2.1.getD 0 (0, 0))).1, (((j26.1.1.2.2.2.2.2.2.2.1.getD 0 (0, 0))).2, ((IntKind.i64.wrap (j26.1.1.2.2.2.2.2.2.1 + 60)), ((IntKind.i64.wrap (j26.1.1.2.2.2.2.2.2.1 + 12)), (j26.1.1.2.2.2.2.2.2.1, (((j26.1.1.2.2.2.2.2.2.2.1.drop 1).take ((j26.1.1.2.2.2.2.2.2.2.1.length : Int).toNat - 1)), j26.1.1.2.2.2.2.2.2.2.2)))))))), ((j26.1.2.2 ++ [(5, (((j26.1.1.2.2.2.2.2.2.2.1.getD 0 (0, 0))).1, ((IntKind.i64.wrap (j26.1.1.2.1 + 1)), 0)))]), 0))
 else none
 else none
 else none
 else
 bif (room 32 (j26.1.2.2 ++ [(10, (0, (j26.1.1.2.1, 0)))]).length) then
 some ((0, (j26.1.1.2.1, (0, (0, (0, (0, j26.1.1.2.2.2.2.2.2)))))), ((j26.1.2.2 ++ [(10, (0, (j26.1.1.2.1, 0)))]), 0))
 else none
 else
 some (j26.1.1, (j26.1.2.2, 0))
 else
 bif (decide (a1.1 = 3)) then
 (g_floor_Check a0).bind fun y27 =>
 (bif (a1.1 == 6) then
 bif (y27 == 0) then
 bif (decide (a1.2.2.2.2 ≥ a0.2.2.2.2.2.2.1)) then
 some ((decide (a1.2.2.2.2 ≤ 1099511627776)), (0, (0, (0, (0, (0, (0, (0, ([], [])))))))), ((a0.1, (a0.2.1, (a0.2.2.1, (a0.2.2.2.1, (a0.2.2.2.2.1, (a0.2.2.2.2.2.1, (a0.2.2.2.2.2.2.1, (y1, y2)))))))), (a1, [])), ())
 else
 some (false, (0, (0, (0, (0, (0, (0, (0, ([], [])))))))), ((a0.1, (a0.2.1, (a0.2.2.1, (a0.2.2.2.1, (a0.2.2.2.2.1, (a0.2.2.2.2.2.1, (a0.2.2.2.2.2.2.1, (y1, y2)))))))), (a1, [])), ())
 else
 some (false, (0, (0, (0, (0, (0, (0, (0, ([], [])))))))), ((a0.1, (a0.2.1, (a0.2.2.1, (a0.2.2.2.1, (a0.2.2.2.2.1, (a0.2.2.2.2.2.1, (a0.2.2.2.2.2.2.1, (y1, y2)))))))), (a1, [])), ())
 else
 bif (a1.1 == 3) then
 bif (y27 == 0) then
 (g_floor_within a1.2.2.1 7).bind fun y28 =>
 bif y28 then
 bif (decide (a1.2.1 > 0)) then
 some ((decide (a1.2.1 ≤ 1073741824)), (0, (0, (0, (0, (0, (0, (0, ([], [])))))))), ((a0.1, (a0.2.1, (a0.2.2.1, (a0.2.2.2.1, (a0.2.2.2.2.1, (a0.2.2.2.2.2.1, (a0.2.2.2.2.2.2.1, (y1, y2)))))))), (a1, [])), ())
 else
 some (false, (0, (0, (0, (0, (0, (0, (0, ([], [])))))))), ((a0.1, (a0.2.1, (a0.2.2.1, (a0.2.2.2.1, (a0.2.2.2.2.1, (a0.2.2.2.2.2.1, (a0.2.2.2.2.2.2.1, (y1, y2)))))))), (a1, [])), ())
 else
 some (false, (0, (0, (0, (0, (0, (0, (0, ([], [])))))))), ((a0.1, (a0.2.1, (a0.2.2.1, (a0.2.2.2.1, (a0.2.2.2.2.1, (a0.2.2.2.2.2.1, (a0.2.2.2.2.2.2.1, (y1, y2)))))))), (a1, [])), ())
 else
 some (false, (0, (0, (0, (0, (0, (0, (0, ([], [])))))))), ((a0.1, (a0.2.1, (a0.2.2.1, (a0.2.2.2.1, (a0.2.2.2.2.1, (a0.2.2.2.2.2.1, (a0.2.2.2.2.2.2.1, (y1, y2)))))))), (a1, [])), ())
 else
 bif (y27 == 0) then
 bif (decide (a1.2.1 > 0)) then
 some ((decide (a1.2.1 ≤ 1073741824)), (0, (0, (0, (0, (0, (0, (0, ([], [])))))))), ((a0.1, (a0.2.1, (a0.2.2.1, (a0.2.2.2.1, (a0.2.2.2.2.1, (a0.2.2.2.2.2.1, (a0.2.2.2.2.2.2.1, (y1, y2)))))))), (a1, [])), ())
 else
 some (false, (0, (0, (0, (0, (0, (0, (0, ([], [])))))))), ((a0.1, (a0.2.1, (a0.2.2.1, (a0.2.2.2.1, (a0.2.2.2.2.1, (a0.2.2.2.2.2.1, (a0.2.2.2.2.2.2.1, (y1, y2)))))))), (a1, [])), ())
 else
 some (false, (0, (0, (0, (0, (0, (0, (0, ([], [])))))))), ((a0.1, (a0.2.1, (a0.2.2.1, (a0.2.2.2.1, (a0.2.2.2.2.1, (a0.2.2.2.2.2.1, (a0.2.2.2.2.2.2.1, (y1, y2)))))))), (a1, [])), ()) : Option ((Bool × (Int × Int × Int × Int × Int × Int × Int × List (Int × Int) × List Int) × ((Int × Int × Int × Int × Int × Int × Int × List (Int × Int) × List Int) × (Int × Int × Int × Int × Int) × List (Int × Int × Int × Int)) × Unit))).bind fun j29 => 
 bif (!j29.1) then
 some ((0, (0, (0, (0, (0, (0, (0, ([], [])))))))), ([], 1))
 else
 (g_floor_find j29.2.2.1.1 j29.2.2.1.2.1.2.1).bind fun y30 =>
 (g_floor_member j29.2.2.1.1 j29.2.2.1.2.1.2.1).bind fun y31 =>
 bif (!y31) then
 bif (room 32 (j29.2.2.1.2.2 ++ [(6, (j29.2.2.1.2.1.2.1, (0, 0)))]).length) then
 some (j29.2.2.1.1, ((j29.2.2.1.2.2 ++ [(6, (j29.2.2.1.2.1.2.1, (0, 0)))]), 0))
 else none
 else
 bif (j29.2.2.1.1.1 == 0) then
 bif (room 32 (j29.2.2.1.2.2 ++ [(5, (j29.2.2.1.2.1.2.1, ((IntKind.i64.wrap (j29.2.2.1.1.2.1 + 1)), 0)))]).length) then
 some ((1, ((IntKind.i64.wrap (j29.2.2.1.1.2.1 + 1)), (j29.2.2.1.2.1.2.1, (j29.2.2.1.2.1.2.2.1, ((IntKind.i64.wrap (j29.2.2.1.1.2.2.2.2.2.2.1 + 60)), ((IntKind.i64.wrap (j29.2.2.1.1.2.2.2.2.2.2.1 + 12)), j29.2.2.1.1.2.2.2.2.2.2)))))), ((j29.2.2.1.2.2 ++ [(5, (j29.2.2.1.2.1.2.1, ((IntKind.i64.wrap (j29.2.2.1.1.2.1 + 1)), 0)))]), 0))
 else none
 else
 (bif (j29.2.2.1.1.2.2.1 == j29.2.2.1.2.1.2.1) then
 some (y30, (j29.2.2.1.1.1 == 1), j29.2.2.1, (j29.2.2.1.2.1.2.1, j29.2.2.1.2.1.2.2.1), ())
 else
 some (y30, false, j29.2.2.1, (j29.2.2.1.2.1.2.1, j29.2.2.1.2.1.2.2.1), ()) : Option ((Int × Bool × ((Int × Int × Int × Int × Int × Int × Int × List (Int × Int) × List Int) × (Int × Int × Int × Int × Int) × List (Int × Int × Int × Int)) × (Int × Int) × Unit))).bind fun j32 => 
 bif j32.2.1 then
 bif (room 32 (j32.2.2.1.2.2 ++ [(5, (j32.2.2.2.1.1, (j32.2.2.1.1.2.1, 0)))]).length) then
 some (j32.2.2.1.1, ((j32.2.2.1.2.2 ++ [(5, (j32.2.2.2.1.1, (j32.2.2.1.1.2.1, 0)))]), 0))
 else none
 else
 bif (j32.2.2.1.1.2.2.1 == j32.2.2.2.1.1) then
 bif (room 32 (j32.2.2.1.2.2 ++ [(8, (j32.2.2.2.1.1, (j32.2.2.1.1.2.1, 0)))]).length) then
 some (j32.2.2.1.1, ((j32.2.2.1.2.2 ++ [(8, (j32.2.2.2.1.1, (j32.2.2.1.1.2.1, 0)))]), 0))
 else none
 else
 bif (decide (j32.1 ≥ 0)) then
 bif (room 32 (j32.2.2.1.2.2 ++ [(7, (j32.2.2.2.1.1, (0, (IntKind.i64.wrap (j32.1 + 1)))))]).length) then
 some (j32.2.2.1.1, ((j32.2.2.1.2.2 ++ [(7, (j32.2.2.2.1.1, (0, (IntKind.i64.wrap (j32.1 + 1)))))]), 0))
 else none
 else
 bif (decide ((j32.2.2.1.1.2.2.2.2.2.2.2.1.length : Int) ≥ 4)) then
 bif (room 32 (j32.2.2.1.2.2 ++ [(6, (j32.2.2.2.1.1, (0, 0)))]).length) then
 some (j32.2.2.1.1, ((j32.2.2.1.2.2 ++ [(6, (j32.2.2.2.1.1, (0, 0)))]), 0))
 else none
 else
 ((iter (g_floor_Do_r3) (j32.2.2.1.1.2.2.2.2.2.2.2.1, (j32.2.2.1.1.2.2.2.2.2.2.2.1.length : Int), 0, j32.2.2.2.1, ())).bind fun j34 => 
 (match j34 with
 | .inl j35 =>
 (some (j32.2.2.2.1, (-1), ((j32.2.2.1.1.1, (j32.2.2.1.1.2.1, (j32.2.2.1.1.2.2.1, (j32.2.2.1.1.2.2.2.1, (j32.2.2.1.1.2.2.2.2.1, (j32.2.2.1.1.2.2.2.2.2.1, (j32.2.2.1.1.2.2.2.2.2.2.1, (j35.1, j32.2.2.1.1.2.2.2.2.2.2.2.2)))))))), j32.2.2.1.2), j35.2.1, ()))
 | .inr j36 =>
 (some (j32.2.2.2.1, j36.2.1, ((j32.2.2.1.1.1, (j32.2.2.1.1.2.1, (j32.2.2.1.1.2.2.1, (j32.2.2.1.1.2.2.2.1, (j32.2.2.1.1.2.2.2.2.1, (j32.2.2.1.1.2.2.2.2.2.1, (j32.2.2.1.1.2.2.2.2.2.2.1, (j36.1, j32.2.2.1.1.2.2.2.2.2.2.2.2)))))))), j32.2.2.1.2), j36.2.2.1, ()))) : Option (((Int × Int) × Int × ((Int × Int × Int × Int × Int × Int × Int × List (Int × Int) × List Int) × (Int × Int × Int × Int × Int) × List (Int × Int × Int × Int)) × (Int × Int) × Unit))).bind fun j37 => 
 (bif (decide (j37.2.1 < 0)) then
 some (j37.1, (j37.2.2.1.1.2.2.2.2.2.2.2.1.length : Int), j37.2.2.1, j37.2.2.2.1, ())
 else
 some (j37.1, j37.2.1, j37.2.2.1, j37.2.2.2.1, ()) : Option (((Int × Int) × Int × ((Int × Int × Int × Int × Int × Int × Int × List (Int × Int) × List Int) × (Int × Int × Int × Int × Int) × List (Int × Int × Int × Int)) × (Int × Int) × Unit))).bind fun j38 => 
 (g_slices_Insert_Sapi_Waiter_api_Waiter j38.2.2.1.1.2.2.2.2.2.2.2.1 j38.2.1 [j38.2.2.2.1]).bind fun y39 =>
 bif (room 32 (j38.2.2.1.2.2 ++ [(7, (j38.2.2.2.1.1, (0, (IntKind.i64.wrap (j38.2.1 + 1)))))]).length) then
 (bif (j38.2.2.1.1.1 == 1) then
 some (j38.1, (decide (j38.2.2.1.1.2.2.2.1 < j38.2.2.2.1.2)), ((j38.2.2.1.1.1, (j38.2.2.1.1.2.1, (j38.2.2.1.1.2.2.1, (j38.2.2.1.1.2.2.2.1, (j38.2.2.1.1.2.2.2.2.1, (j38.2.2.1.1.2.2.2.2.2.1, (j38.2.2.1.1.2.2.2.2.2.2.1, (y39, j38.2.2.1.1.2.2.2.2.2.2.2.2)))))))), (j38.2.2.1.2.1, (j38.2.2.1.2.2 ++ [(7, (j38.2.2.2.1.1, (0, (IntKind.i64.wrap (j38.2.1 + 1)))))]))), ())
 else
 some (j38.1, false, ((j38.2.2.1.1.1, (j38.2.2.1.1.2.1, (j38.2.2.1.1.2.2.1, (j38.2.2.1.1.2.2.2.1, (j38.2.2.1.1.2.2.2.2.1, (j38.2.2.1.1.2.2.2.2.2.1, (j38.2.2.1.1.2.2.2.2.2.2.1, (y39, j38.2.2.1.1.2.2.2.2.2.2.2.2)))))))), (j38.2.2.1.2.1, (j38.2.2.1.2.2 ++ [(7, (j38.2.2.2.1.1, (0, (IntKind.i64.wrap (j38.2.1 + 1)))))]))), ()) : Option (((Int × Int) × Bool × ((Int × Int × Int × Int × Int × Int × Int × List (Int × Int) × List Int) × (Int × Int × Int × Int × Int) × List (Int × Int × Int × Int)) × Unit))).bind fun j40 => 
 bif j40.2.1 then
 bif (room 32 (j40.2.2.1.2.2 ++ [(8, (j40.2.2.1.1.2.2.1, (j40.2.2.1.1.2.1, 0)))]).length) then
 some ((2, j40.2.2.1.1.2), ((j40.2.2.1.2.2 ++ [(8, (j40.2.2.1.1.2.2.1, (j40.2.2.1.1.2.1, 0)))]), 0))
 else none
 else
 some (j40.2.2.1.1, (j40.2.2.1.2.2, 0))
 else none
 else
 bif (decide (a1.1 = 4)) then
 (g_floor_Check a0).bind fun y41 =>
 (bif (a1.1 == 6) then
 bif (y41 == 0) then
 bif (decide (a1.2.2.2.2 ≥ a0.2.2.2.2.2.2.1)) then
 some ((decide (a1.2.2.2.2 ≤ 1099511627776)), (0, (0, (0, (0, (0, (0, (0, ([], [])))))))), ((a0.1, (a0.2.1, (a0.2.2.1, (a0.2.2.2.1, (a0.2.2.2.2.1, (a0.2.2.2.2.2.1, (a0.2.2.2.2.2.2.1, (y1, y2)))))))), (a1, [])), ())
 else
 some (false, (0, (0, (0, (0, (0, (0, (0, ([], [])))))))), ((a0.1, (a0.2.1, (a0.2.2.1, (a0.2.2.2.1, (a0.2.2.2.2.1, (a0.2.2.2.2.2.1, (a0.2.2.2.2.2.2.1, (y1, y2)))))))), (a1, [])), ())
 else
 some (false, (0, (0, (0, (0, (0, (0, (0, ([], [])))))))), ((a0.1, (a0.2.1, (a0.2.2.1, (a0.2.2.2.1, (a0.2.2.2.2.1, (a0.2.2.2.2.2.1, (a0.2.2.2.2.2.2.1, (y1, y2)))))))), (a1, [])), ())
 else
 bif (a1.1 == 3) then
 bif (y41 == 0) then
 (g_floor_within a1.2.2.1 7).bind fun y42 =>
 bif y42 then
 bif (decide (a1.2.1 > 0)) then
 some ((decide (a1.2.1 ≤ 1073741824)), (0, (0, (0, (0, (0, (0, (0, ([], [])))))))), ((a0.1, (a0.2.1, (a0.2.2.1, (a0.2.2.2.1, (a0.2.2.2.2.1, (a0.2.2.2.2.2.1, (a0.2.2.2.2.2.2.1, (y1, y2)))))))), (a1, [])), ())
 else
 some (false, (0, (0, (0, (0, (0, (0, (0, ([], [])))))))), ((a0.1, (a0.2.1, (a0.2.2.1, (a0.2.2.2.1, (a0.2.2.2.2.1, (a0.2.2.2.2.2.1, (a0.2.2.2.2.2.2.1, (y1, y2)))))))), (a1, [])), ())
 else
 some (false, (0, (0, (0, (0, (0, (0, (0, ([], [])))))))), ((a0.1, (a0.2.1, (a0.2.2.1, (a0.2.2.2.1, (a0.2.2.2.2.1, (a0.2.2.2.2.2.1, (a0.2.2.2.2.2.2.1, (y1, y2)))))))), (a1, [])), ())
 else
 some (false, (0, (0, (0, (0, (0, (0, (0, ([], [])))))))), ((a0.1, (a0.2.1, (a0.2.2.1, (a0.2.2.2.1, (a0.2.2.2.2.1, (a0.2.2.2.2.2.1, (a0.2.2.2.2.2.2.1, (y1, y2)))))))), (a1, [])), ())
 else
 bif (y41 == 0) then
 bif (decide (a1.2.1 > 0)) then
 some ((decide (a1.2.1 ≤ 1073741824)), (0, (0, (0, (0, (0, (0, (0, ([], [])))))))), ((a0.1, (a0.2.1, (a0.2.2.1, (a0.2.2.2.1, (a0.2.2.2.2.1, (a0.2.2.2.2.2.1, (a0.2.2.2.2.2.2.1, (y1, y2)))))))), (a1, [])), ())
 else
 some (false, (0, (0, (0, (0, (0, (0, (0, ([], [])))))))), ((a0.1, (a0.2.1, (a0.2.2.1, (a0.2.2.2.1, (a0.2.2.2.2.1, (a0.2.2.2.2.2.1, (a0.2.2.2.2.2.2.1, (y1, y2)))))))), (a1, [])), ())
 else
 some (false, (0, (0, (0, (0, (0, (0, (0, ([], [])))))))), ((a0.1, (a0.2.1, (a0.2.2.1, (a0.2.2.2.1, (a0.2.2.2.2.1, (a0.2.2.2.2.2.1, (a0.2.2.2.2.2.2.1, (y1, y2)))))))), (a1, [])), ()) : Option ((Bool × (Int × Int × Int × Int × Int × Int × Int × List (Int × Int) × List Int) × ((Int × Int × Int × Int × Int × Int × Int × List (Int × Int) × List Int) × (Int × Int × Int × Int × Int) × List (Int × Int × Int × Int)) × Unit))).bind fun j43 => 
 bif (!j43.1) then
 some ((0, (0, (0, (0, (0, (0, (0, ([], [])))))))), ([], 1))
 else
 (((iter (g_floor_Do_r4) (j43.2.2.1.1.2.2.2.2.2.2.2.1, (j43.2.2.1.1.2.2.2.2.2.2.2.1.length : Int), 0, (j43.2.2.1.1.1, j43.2.2.1.1.2.1, j43.2.2.1.1.2.2.1, j43.2.2.1.1.2.2.2.1, j43.2.2.1.1.2.2.2.2.1, j43.2.2.1.1.2.2.2.2.2.1, j43.2.2.1.1.2.2.2.2.2.2.1, j43.2.2.1.2.1.1, j43.2.2.1.2.1.2.1, j43.2.2.1.2.1.2.2.1, j43.2.2.1.2.1.2.2.2.1, j43.2.2.1.2.1.2.2.2.2, ()), j43.2.2.1.1.2.2.2.2.2.2.2.2, j43.2.2.1.2.2, ())).bind fun j45 => 
 (match j45 with
 | .inl j46 =>
 (some (j46.1, (-1), (j46.2.1.1, j46.2.1.2.1, j46.2.1.2.2.1, j46.2.1.2.2.2.1, j46.2.1.2.2.2.2.1, j46.2.1.2.2.2.2.2.1, j46.2.1.2.2.2.2.2.2.1, j46.2.1.2.2.2.2.2.2.2.1, j46.2.1.2.2.2.2.2.2.2.2.1, j46.2.1.2.2.2.2.2.2.2.2.2.1, j46.2.1.2.2.2.2.2.2.2.2.2.2.1, j46.2.1.2.2.2.2.2.2.2.2.2.2.2.1, ()), j46.2.2.1, j46.2.2.2.1, ()))
 | .inr j47 =>
 (some (j47.1, j47.2.1, (j47.2.2.1.1, j47.2.2.1.2.1, j47.2.2.1.2.2.1, j47.2.2.1.2.2.2.1, j47.2.2.1.2.2.2.2.1, j47.2.2.1.2.2.2.2.2.1, j47.2.2.1.2.2.2.2.2.2.1, j47.2.2.1.2.2.2.2.2.2.2.1, j47.2.2.1.2.2.2.2.2.2.2.2.1, j47.2.2.1.2.2.2.2.2.2.2.2.2.1, j47.2.2.1.2.2.2.2.2.2.2.2.2.2.1, j47.2.2.1.2.2.2.2.2.2.2.2.2.2.2.1, ()), j47.2.2.2.1, j47.2.2.2.2.1, ()))) : Option ((List (Int × Int) × Int × (Int × Int × Int × Int × Int × Int × Int × Int × Int × Int × Int × Int × Unit) × List Int × List (Int × Int × Int × Int) × Unit))).bind fun j48 => 
 bif (j48.2.1 == (-1)) then
 some (((j48.2.2.1.1, (j48.2.2.1.2.1, (j48.2.2.1.2.2.1, (j48.2.2.1.2.2.2.1, (j48.2.2.1.2.2.2.2.1, (j48.2.2.1.2.2.2.2.2.1, (j48.2.2.1.2.2.2.2.2.2.1, (j48.1, j48.2.2.2.1)))))))), ((j48.2.2.1.2.2.2.2.2.2.2.1, (j48.2.2.1.2.2.2.2.2.2.2.2.1, (j48.2.2.1.2.2.2.2.2.2.2.2.2.1, (j48.2.2.1.2.2.2.2.2.2.2.2.2.2.1, j48.2.2.1.2.2.2.2.2.2.2.2.2.2.2.1)))), j48.2.2.2.2.1)), ())
 else
 (iter (g_floor_Do_r5) (j48.1, j48.2.1, (IntKind.i64.wrap (j48.2.1 + 1)), (j48.2.2.1.1, j48.2.2.1.2.1, j48.2.2.1.2.2.1, j48.2.2.1.2.2.2.1, j48.2.2.1.2.2.2.2.1, j48.2.2.1.2.2.2.2.2.1, j48.2.2.1.2.2.2.2.2.2.1, j48.2.2.1.2.2.2.2.2.2.2.1, j48.2.2.1.2.2.2.2.2.2.2.2.1, j48.2.2.1.2.2.2.2.2.2.2.2.2.1, j48.2.2.1.2.2.2.2.2.2.2.2.2.2.1, j48.2.2.1.2.2.2.2.2.2.2.2.2.2.2.1, ()), j48.2.2.2.1, j48.2.2.2.2.1, ())).bind fun j51 => 
 bif (cutG j51.2.1 (j51.1.length : Int) j51.1.length) then
 bif (cutG 0 j51.2.1 ((copyL j51.1 j51.2.1.toNat (List.replicate ((j51.1.length : Int).toNat - j51.2.1.toNat) (0, 0))).length)) then
 some (((j51.2.2.1.1, (j51.2.2.1.2.1, (j51.2.2.1.2.2.1, (j51.2.2.1.2.2.2.1, (j51.2.2.1.2.2.2.2.1, (j51.2.2.1.2.2.2.2.2.1, (j51.2.2.1.2.2.2.2.2.2.1, ((((copyL j51.1 j51.2.1.toNat (List.replicate ((j51.1.length : Int).toNat - j51.2.1.toNat) (0, 0))).drop 0).take (j51.2.1.toNat - 0)), j51.2.2.2.1)))))))), ((j51.2.2.1.2.2.2.2.2.2.2.1, (j51.2.2.1.2.2.2.2.2.2.2.2.1, (j51.2.2.1.2.2.2.2.2.2.2.2.2.1, (j51.2.2.1.2.2.2.2.2.2.2.2.2.2.1, j51.2.2.1.2.2.2.2.2.2.2.2.2.2.2.1)))), j51.2.2.2.2.1)), ())
 else none
 else none : Option ((((Int × Int × Int × Int × Int × Int × Int × List (Int × Int) × List Int) × (Int × Int × Int × Int × Int) × List (Int × Int × Int × Int)) × Unit))).bind fun j52 => 
 bif (j52.1.1.2.2.1 == j52.1.2.1.2.1) then
 bif (decide ((j52.1.1.2.2.2.2.2.2.2.1.length : Int) > 0)) then
 bif (within 0 j52.1.1.2.2.2.2.2.2.2.1.length) then
 bif (cutG 1 (j52.1.1.2.2.2.2.2.2.2.1.length : Int) j52.1.1.2.2.2.2.2.2.2.1.length) then
 bif (room 32 (j52.1.2.2 ++ [(5, (((j52.1.1.2.2.2.2.2.2.2.1.getD 0 (0, 0))).1, ((IntKind.i64.wrap (j52.1.1.2.1 + 1)), 0)))]).length) then
 some ((1, ((IntKind.i64.wrap (j52.1.1.2.1 + 1)), (((j52.1.1.2.2.2.2.2.2.2.1.getD 0 (0, 0))).1, (((j52.1.1.2.2.2.2.2.2.2.1.getD 0 (0, 0))).2, ((IntKind.i64.wrap (j52.1.1.2.2.2.2.2.2.1 + 60)), ((IntKind.i64.wrap (j52.1.1.2.2.2.2.2.2.1 + 12)), (j52.1.1.2.2.2.2.2.2.1, (((j52.1.1.2.2.2.2.2.2.2.1.drop 1).take ((j52.1.1.2.2.2.2.2.2.2.1.length : Int).toNat - 1)), j52.1.1.2.2.2.2.2.2.2.2)))))))), ((j52.1.2.2 ++ [(5, (((j52.1.1.2.2.2.2.2.2.2.1.getD 0 (0, 0))).1, ((IntKind.i64.wrap (j52.1.1.2.1 + 1)), 0)))]), 0))
 else none
 else none
 else none
 else
 bif (room 32 (j52.1.2.2 ++ [(10, (0, (j52.1.1.2.1, 0)))]).length) then
 some ((0, (j52.1.1.2.1, (0, (0, (0, (0, j52.1.1.2.2.2.2.2.2)))))), ((j52.1.2.2 ++ [(10, (0, (j52.1.1.2.1, 0)))]), 0))
 else none
 else
 some (j52.1.1, (j52.1.2.2, 0))
 else
 bif (decide (a1.1 = 5)) then
 (g_floor_Check a0).bind fun y53 =>
 (bif (a1.1 == 6) then
 bif (y53 == 0) then
 bif (decide (a1.2.2.2.2 ≥ a0.2.2.2.2.2.2.1)) then
 some ((decide (a1.2.2.2.2 ≤ 1099511627776)), (0, (0, (0, (0, (0, (0, (0, ([], [])))))))), ((a0.1, (a0.2.1, (a0.2.2.1, (a0.2.2.2.1, (a0.2.2.2.2.1, (a0.2.2.2.2.2.1, (a0.2.2.2.2.2.2.1, (y1, y2)))))))), (a1, [])), ())
 else
 some (false, (0, (0, (0, (0, (0, (0, (0, ([], [])))))))), ((a0.1, (a0.2.1, (a0.2.2.1, (a0.2.2.2.1, (a0.2.2.2.2.1, (a0.2.2.2.2.2.1, (a0.2.2.2.2.2.2.1, (y1, y2)))))))), (a1, [])), ())
 else
 some (false, (0, (0, (0, (0, (0, (0, (0, ([], [])))))))), ((a0.1, (a0.2.1, (a0.2.2.1, (a0.2.2.2.1, (a0.2.2.2.2.1, (a0.2.2.2.2.2.1, (a0.2.2.2.2.2.2.1, (y1, y2)))))))), (a1, [])), ())
 else
 bif (a1.1 == 3) then
 bif (y53 == 0) then
 (g_floor_within a1.2.2.1 7).bind fun y54 =>
 bif y54 then
 bif (decide (a1.2.1 > 0)) then
 some ((decide (a1.2.1 ≤ 1073741824)), (0, (0, (0, (0, (0, (0, (0, ([], [])))))))), ((a0.1, (a0.2.1, (a0.2.2.1, (a0.2.2.2.1, (a0.2.2.2.2.1, (a0.2.2.2.2.2.1, (a0.2.2.2.2.2.2.1, (y1, y2)))))))), (a1, [])), ())
 else
 some (false, (0, (0, (0, (0, (0, (0, (0, ([], [])))))))), ((a0.1, (a0.2.1, (a0.2.2.1, (a0.2.2.2.1, (a0.2.2.2.2.1, (a0.2.2.2.2.2.1, (a0.2.2.2.2.2.2.1, (y1, y2)))))))), (a1, [])), ())
 else
 some (false, (0, (0, (0, (0, (0, (0, (0, ([], [])))))))), ((a0.1, (a0.2.1, (a0.2.2.1, (a0.2.2.2.1, (a0.2.2.2.2.1, (a0.2.2.2.2.2.1, (a0.2.2.2.2.2.2.1, (y1, y2)))))))), (a1, [])), ())
 else
 some (false, (0, (0, (0, (0, (0, (0, (0, ([], [])))))))), ((a0.1, (a0.2.1, (a0.2.2.1, (a0.2.2.2.1, (a0.2.2.2.2.1, (a0.2.2.2.2.2.1, (a0.2.2.2.2.2.2.1, (y1, y2)))))))), (a1, [])), ())
 else
 bif (y53 == 0) then
 bif (decide (a1.2.1 > 0)) then
 some ((decide (a1.2.1 ≤ 1073741824)), (0, (0, (0, (0, (0, (0, (0, ([], [])))))))), ((a0.1, (a0.2.1, (a0.2.2.1, (a0.2.2.2.1, (a0.2.2.2.2.1, (a0.2.2.2.2.2.1, (a0.2.2.2.2.2.2.1, (y1, y2)))))))), (a1, [])), ())
 else
 some (false, (0, (0, (0, (0, (0, (0, (0, ([], [])))))))), ((a0.1, (a0.2.1, (a0.2.2.1, (a0.2.2.2.1, (a0.2.2.2.2.1, (a0.2.2.2.2.2.1, (a0.2.2.2.2.2.2.1, (y1, y2)))))))), (a1, [])), ())
 else
 some (false, (0, (0, (0, (0, (0, (0, (0, ([], [])))))))), ((a0.1, (a0.2.1, (a0.2.2.1, (a0.2.2.2.1, (a0.2.2.2.2.1, (a0.2.2.2.2.2.1, (a0.2.2.2.2.2.2.1, (y1, y2)))))))), (a1, [])), ()) : Option ((Bool × (Int × Int × Int × Int × Int × Int × Int × List (Int × Int) × List Int) × ((Int × Int × Int × Int × Int × Int × Int × List (Int × Int) × List Int) × (Int × Int × Int × Int × Int) × List (Int × Int × Int × Int)) × Unit))).bind fun j55 => 
 bif (!j55.1) then
 some ((0, (0, (0, (0, (0, (0, (0, ([], [])))))))), ([], 1))
 else
 (bif (j55.2.2.1.1.1 == 1) then
 bif (j55.2.2.1.1.2.2.1 == j55.2.2.1.2.1.2.1) then
 some ((j55.2.2.1.1.2.1 == j55.2.2.1.2.1.2.2.2.1), j55.2.2.1, ())
 else
 some (false, j55.2.2.1, ())
 else
 some (false, j55.2.2.1, ()) : Option ((Bool × ((Int × Int × Int × Int × Int × Int × Int × List (Int × Int) × List Int) × (Int × Int × Int × Int × Int) × List (Int × Int × Int × Int)) × Unit))).bind fun j56 => 
 bif j56.1 then
 some ((j56.2.1.1.1, (j56.2.1.1.2.1, (j56.2.1.1.2.2.1, (j56.2.1.1.2.2.2.1, (j56.2.1.1.2.2.2.2.1, ((IntKind.i64.wrap (j56.2.1.1.2.2.2.2.2.2.1 + 12)), j56.2.1.1.2.2.2.2.2.2)))))), (j56.2.1.2.2, 0))
 else
 some (j56.2.1.1, (j56.2.1.2.2, 0))
 else
 bif (decide (a1.1 = 6)) then
 (g_floor_Check a0).bind fun y57 =>
 (bif (a1.1 == 6) then
 bif (y57 == 0) then
 bif (decide (a1.2.2.2.2 ≥ a0.2.2.2.2.2.2.1)) then
 some ((decide (a1.2.2.2.2 ≤ 1099511627776)), (0, (0, (0, (0, (0, (0, (0, ([], [])))))))), ((a0.1, (a0.2.1, (a0.2.2.1, (a0.2.2.2.1, (a0.2.2.2.2.1, (a0.2.2.2.2.2.1, (a0.2.2.2.2.2.2.1, (y1, y2)))))))), (a1, [])), ())
 else
 some (false, (0, (0, (0, (0, (0, (0, (0, ([], [])))))))), ((a0.1, (a0.2.1, (a0.2.2.1, (a0.2.2.2.1, (a0.2.2.2.2.1, (a0.2.2.2.2.2.1, (a0.2.2.2.2.2.2.1, (y1, y2)))))))), (a1, [])), ())
 else
 some (false, (0, (0, (0, (0, (0, (0, (0, ([], [])))))))), ((a0.1, (a0.2.1, (a0.2.2.1, (a0.2.2.2.1, (a0.2.2.2.2.1, (a0.2.2.2.2.2.1, (a0.2.2.2.2.2.2.1, (y1, y2)))))))), (a1, [])), ())
 else
 bif (a1.1 == 3) then
 bif (y57 == 0) then
 (g_floor_within a1.2.2.1 7).bind fun y58 =>
 bif y58 then
 bif (decide (a1.2.1 > 0)) then
 some ((decide (a1.2.1 ≤ 1073741824)), (0, (0, (0, (0, (0, (0, (0, ([], [])))))))), ((a0.1, (a0.2.1, (a0.2.2.1, (a0.2.2.2.1, (a0.2.2.2.2.1, (a0.2.2.2.2.2.1, (a0.2.2.2.2.2.2.1, (y1, y2)))))))), (a1, [])), ())
 else
 some (false, (0, (0, (0, (0, (0, (0, (0, ([], [])))))))), ((a0.1, (a0.2.1, (a0.2.2.1, (a0.2.2.2.1, (a0.2.2.2.2.1, (a0.2.2.2.2.2.1, (a0.2.2.2.2.2.2.1, (y1, y2)))))))), (a1, [])), ())
 else
 some (false, (0, (0, (0, (0, (0, (0, (0, ([], [])))))))), ((a0.1, (a0.2.1, (a0.2.2.1, (a0.2.2.2.1, (a0.2.2.2.2.1, (a0.2.2.2.2.2.1, (a0.2.2.2.2.2.2.1, (y1, y2)))))))), (a1, [])), ())
 else
 some (false, (0, (0, (0, (0, (0, (0, (0, ([], [])))))))), ((a0.1, (a0.2.1, (a0.2.2.1, (a0.2.2.2.1, (a0.2.2.2.2.1, (a0.2.2.2.2.2.1, (a0.2.2.2.2.2.2.1, (y1, y2)))))))), (a1, [])), ())
 else
 bif (y57 == 0) then
 bif (decide (a1.2.1 > 0)) then
 some ((decide (a1.2.1 ≤ 1073741824)), (0, (0, (0, (0, (0, (0, (0, ([], [])))))))), ((a0.1, (a0.2.1, (a0.2.2.1, (a0.2.2.2.1, (a0.2.2.2.2.1, (a0.2.2.2.2.2.1, (a0.2.2.2.2.2.2.1, (y1, y2)))))))), (a1, [])), ())
 else
 some (false, (0, (0, (0, (0, (0, (0, (0, ([], [])))))))), ((a0.1, (a0.2.1, (a0.2.2.1, (a0.2.2.2.1, (a0.2.2.2.2.1, (a0.2.2.2.2.2.1, (a0.2.2.2.2.2.2.1, (y1, y2)))))))), (a1, [])), ())
 else
 some (false, (0, (0, (0, (0, (0, (0, (0, ([], [])))))))), ((a0.1, (a0.2.1, (a0.2.2.1, (a0.2.2.2.1, (a0.2.2.2.2.1, (a0.2.2.2.2.2.1, (a0.2.2.2.2.2.2.1, (y1, y2)))))))), (a1, [])), ()) : Option ((Bool × (Int × Int × Int × Int × Int × Int × Int × List (Int × Int) × List Int) × ((Int × Int × Int × Int × Int × Int × Int × List (Int × Int) × List Int) × (Int × Int × Int × Int × Int) × List (Int × Int × Int × Int)) × Unit))).bind fun j59 => 
 bif (!j59.1) then
 some ((0, (0, (0, (0, (0, (0, (0, ([], [])))))))), ([], 1))
 else
 ((bif (j59.2.2.1.1.1 == 1) then
 bif (decide (j59.2.2.1.2.1.2.2.2.2 ≥ (IntKind.i64.wrap (j59.2.2.1.1.2.2.2.2.2.1 + 3)))) then
 some ((decide (j59.2.2.1.2.1.2.2.2.2 ≥ (IntKind.i64.wrap (j59.2.2.1.1.2.2.2.2.2.1 + 3)))), true, ((j59.2.2.1.1.1, (j59.2.2.1.1.2.1, (j59.2.2.1.1.2.2.1, (j59.2.2.1.1.2.2.2.1, (j59.2.2.1.1.2.2.2.2.1, (j59.2.2.1.1.2.2.2.2.2.1, (j59.2.2.1.2.1.2.2.2.2, j59.2.2.1.1.2.2.2.2.2.2.2))))))), j59.2.2.1.2), ())
 else
 some ((decide (j59.2.2.1.2.1.2.2.2.2 ≥ (IntKind.i64.wrap (j59.2.2.1.1.2.2.2.2.2.1 + 3)))), (decide (j59.2.2.1.2.1.2.2.2.2 ≥ j59.2.2.1.1.2.2.2.2.1)), ((j59.2.2.1.1.1, (j59.2.2.1.1.2.1, (j59.2.2.1.1.2.2.1, (j59.2.2.1.1.2.2.2.1, (j59.2.2.1.1.2.2.2.2.1, (j59.2.2.1.1.2.2.2.2.2.1, (j59.2.2.1.2.1.2.2.2.2, j59.2.2.1.1.2.2.2.2.2.2.2))))))), j59.2.2.1.2), ())
 else
 some ((decide (j59.2.2.1.2.1.2.2.2.2 ≥ (IntKind.i64.wrap (j59.2.2.1.1.2.2.2.2.2.1 + 3)))), false, ((j59.2.2.1.1.1, (j59.2.2.1.1.2.1, (j59.2.2.1.1.2.2.1, (j59.2.2.1.1.2.2.2.1, (j59.2.2.1.1.2.2.2.2.1, (j59.2.2.1.1.2.2.2.2.2.1, (j59.2.2.1.2.1.2.2.2.2, j59.2.2.1.1.2.2.2.2.2.2.2))))))), j59.2.2.1.2), ()) : Option ((Bool × Bool × ((Int × Int × Int × Int × Int × Int × Int × List (Int × Int) × List Int) × (Int × Int × Int × Int × Int) × List (Int × Int × Int × Int)) × Unit))).bind fun j60 => 
 bif j60.2.1 then
 bif (room 32 (j60.2.2.1.2.2 ++ [(8, (j60.2.2.1.1.2.2.1, (j60.2.2.1.1.2.1, 0)))]).length) then
 some (j60.1, ((2, j60.2.2.1.1.2), (j60.2.2.1.2.1, (j60.2.2.1.2.2 ++ [(8, (j60.2.2.1.1.2.2.1, (j60.2.2.1.1.2.1, 0)))]))), ())
 else none
 else
 some (j60.1, j60.2.2.1, ()) : Option ((Bool × ((Int × Int × Int × Int × Int × Int × Int × List (Int × Int) × List Int) × (Int × Int × Int × Int × Int) × List (Int × Int × Int × Int)) × Unit))).bind fun j61 => 
 (bif (j61.2.1.1.1 == 2) then
 some (j61.1, j61.2.1, ())
 else
 some (false, j61.2.1, ()) : Option ((Bool × ((Int × Int × Int × Int × Int × Int × Int × List (Int × Int) × List Int) × (Int × Int × Int × Int × Int) × List (Int × Int × Int × Int)) × Unit))).bind fun j62 => 
 bif j62.1 then
 bif (decide ((j62.2.1.1.2.2.2.2.2.2.2.1.length : Int) > 0)) then
 bif (within 0 j62.2.1.1.2.2.2.2.2.2.2.1.length) then
 bif (cutG 1 (j62.2.1.1.2.2.2.2.2.2.2.1.length : Int) j62.2.1.1.2.2.2.2.2.2.2.1.length) then
 bif (room 32 (j62.2.1.2.2 ++ [(5, (((j62.2.1.1.2.2.2.2.2.2.2.1.getD 0 (0, 0))).1, ((IntKind.i64.wrap (j62.2.1.1.2.1 + 1)), 0)))]).length) then
 some ((1, ((IntKind.i64.wrap (j62.2.1.1.2.1 + 1)), (((j62.2.1.1.2.2.2.2.2.2.2.1.getD 0 (0, 0))).1, (((j62.2.1.1.2.2.2.2.2.2.2.1.getD 0 (0, 0))).2, ((IntKind.i64.wrap (j62.2.1.1.2.2.2.2.2.2.1 + 60)), ((IntKind.i64.wrap (j62.2.1.1.2.2.2.2.2.2.1 + 12)), (j62.2.1.1.2.2.2.2.2.2.1, (((j62.2.1.1.2.2.2.2.2.2.2.1.drop 1).take ((j62.2.1.1.2.2.2.2.2.2.2.1.length : Int).toNat - 1)), j62.2.1.1.2.2.2.2.2.2.2.2)))))))), ((j62.2.1.2.2 ++ [(5, (((j62.2.1.1.2.2.2.2.2.2.2.1.getD 0 (0, 0))).1, ((IntKind.i64.wrap (j62.2.1.1.2.1 + 1)), 0)))]), 0))
 else none
 else none
 else none
 else
 bif (room 32 (j62.2.1.2.2 ++ [(10, (0, (j62.2.1.1.2.1, 0)))]).length) then
 some ((0, (j62.2.1.1.2.1, (0, (0, (0, (0, j62.2.1.1.2.2.2.2.2.2)))))), ((j62.2.1.2.2 ++ [(10, (0, (j62.2.1.1.2.1, 0)))]), 0))
 else none
 else
 some (j62.2.1.1, (j62.2.1.2.2, 0))
 else
 (bif (a1.1 == 6) then
 some (false, (0, (0, (0, (0, (0, (0, (0, ([], [])))))))), ((a0.1, (a0.2.1, (a0.2.2.1, (a0.2.2.2.1, (a0.2.2.2.2.1, (a0.2.2.2.2.2.1, (a0.2.2.2.2.2.2.1, (y1, y2)))))))), (a1, [])), ())
 else
 bif (a1.1 == 3) then
 some (false, (0, (0, (0, (0, (0, (0, (0, ([], [])))))))), ((a0.1, (a0.2.1, (a0.2.2.1, (a0.2.2.2.1, (a0.2.2.2.2.1, (a0.2.2.2.2.2.1, (a0.2.2.2.2.2.2.1, (y1, y2)))))))), (a1, [])), ())
 else
 some (false, (0, (0, (0, (0, (0, (0, (0, ([], [])))))))), ((a0.1, (a0.2.1, (a0.2.2.1, (a0.2.2.2.1, (a0.2.2.2.2.1, (a0.2.2.2.2.2.1, (a0.2.2.2.2.2.2.1, (y1, y2)))))))), (a1, [])), ()) : Option ((Bool × (Int × Int × Int × Int × Int × Int × Int × List (Int × Int) × List Int) × ((Int × Int × Int × Int × Int × Int × Int × List (Int × Int) × List Int) × (Int × Int × Int × Int × Int) × List (Int × Int × Int × Int)) × Unit))).bind fun j3 => 
 bif (!j3.1) then
 some ((0, (0, (0, (0, (0, (0, (0, ([], [])))))))), ([], 1))
 else
 none
noncomputable def g_law23_TraceFloor_r1 (p3 : Bool × (List (Int × Int × Int × Int)) × List Int × (List (Int × Int × Int × Int × Int)) × Int × Int × (Int × Int × Int × Int × Int × Int × Int × List (Int × Int) × List Int) × Unit) : Option ((Bool × (List (Int × Int × Int × Int)) × List Int × (List (Int × Int × Int × Int × Int)) × Int × Int × (Int × Int × Int × Int × Int × Int × Int × List (Int × Int) × List Int) × Unit) ⊕ ((Bool × (List (Int × Int × Int × Int)) × List Int × (Int × Int × Int × Int × Int × Int × Int × List (Int × Int) × List Int) × Unit))) :=
 bif (decide (p3.2.2.2.2.2.1 < p3.2.2.2.2.1)) then
 (bif (within p3.2.2.2.2.2.1 p3.2.2.2.1.length) then
 (g_floor_Do p3.2.2.2.2.2.2.1 (p3.2.2.2.1.getD p3.2.2.2.2.2.1.toNat (0, (0, (0, (0, 0)))))).bind fun y4 =>
 bif (y4.2.2 != 0) then
 some (p3.1, p3.2.1, p3.2.2.1, p3.2.2.2.1, p3.2.2.2.2.1, p3.2.2.2.2.2.1, p3.2.2.2.2.2.2.1, ())
 else
 bif (room 32 (p3.2.1 ++ y4.2.1).length) then
 (bif (decide (y4.1.2.1 > p3.2.2.2.2.2.2.1.2.1)) then
 bif (room 8 (p3.2.2.1 ++ [y4.1.2.2.1]).length) then
 some (p3.1, (p3.2.1 ++ y4.2.1), (p3.2.2.1 ++ [y4.1.2.2.1]), p3.2.2.2.1, p3.2.2.2.2.1, p3.2.2.2.2.2.1, p3.2.2.2.2.2.2.1, y4.1, ())
 else none
 else
 some (p3.1, (p3.2.1 ++ y4.2.1), p3.2.2.1, p3.2.2.2.1, p3.2.2.2.2.1, p3.2.2.2.2.2.1, p3.2.2.2.2.2.2.1, y4.1, ()) : Option ((Bool × List (Int × Int × Int × Int) × List Int × (List (Int × Int × Int × Int × Int)) × Int × Int × (Int × Int × Int × Int × Int × Int × Int × List (Int × Int) × List Int) × (Int × Int × Int × Int × Int × Int × Int × List (Int × Int) × List Int) × Unit))).bind fun j5 => 
 some (j5.1, j5.2.1, j5.2.2.1, j5.2.2.2.1, j5.2.2.2.2.1, j5.2.2.2.2.2.1, j5.2.2.2.2.2.2.2.1, ())
 else none
 else none : Option ((Bool × (List (Int × Int × Int × Int)) × List Int × (List (Int × Int × Int × Int × Int)) × Int × Int × (Int × Int × Int × Int × Int × Int × Int × List (Int × Int) × List Int) × Unit))).bind fun j6 => 
 some (Sum.inl (j6.1, j6.2.1, j6.2.2.1, j6.2.2.2.1, j6.2.2.2.2.1, (IntKind.i64.wrap (j6.2.2.2.2.2.1 + 1)), j6.2.2.2.2.2.2.1, ()))
 else
 some (Sum.inr (p3.1, p3.2.1, p3.2.2.1, p3.2.2.2.2.2.2.1, ()))
noncomputable def g_law23_TraceFloor (a0 : List (Int × Int × Int × Int × Int)) : Option (Bool) :=
 (g_law23_live).bind fun y1 =>
 bif (!y1) then
 some false
 else
 bif (decide ((a0.length : Int) > 100)) then
 some y1
 else
 (g_floor_New).bind fun y2 =>
 (iter (g_law23_TraceFloor_r1) (y1, [], [], a0, (a0.length : Int), 0, y2, ())).bind fun j7 => 
 (g_trace_Judge j7.2.1).bind fun y8 =>
 bif j7.1 then
 bif y8.2 then
 bif (y8.1 == (j7.2.1.length : Int)) then
 (g_trace_Holders j7.2.1).bind fun y9 =>
 (g_r03_Equal y9 j7.2.2.1).bind fun y10 =>
 bif y10 then
 some ((j7.2.2.1.length : Int) == j7.2.2.2.1.2.1)
 else
 some false
 else
 some false
 else
 some false
 else
 some false
end Go.Sq
