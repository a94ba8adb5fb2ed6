/- Parts of a proof: evaluation of Go code over typed values, and what it computes. -/
import Derived.Test.YtkhndaanjpmgnaaDoorX1
set_option linter.unusedSimpArgs false
set_option linter.unusedVariables false
set_option linter.unusedSectionVars false
set_option linter.unusedVariables false
set_option maxRecDepth 100000
namespace Go.Sq
open Go.Rx
noncomputable def g_freq_last (a0 : List Int) : Option (Int) :=
 bif (within (IntKind.i64.wrap ((a0.length : Int) - 1)) a0.length) then
 some (a0.getD ((IntKind.i64.wrap ((a0.length : Int) - 1)).toNat) 0)
 else none
noncomputable def g_coder_interval_move (a0 : Int × Int) : Option (Int × Int) :=
 bif (decide (a0.2 < 2147483648)) then
 some (0, 0)
 else
 bif (decide (a0.1 ≥ 2147483648)) then
 some (2147483648, 1)
 else
 (bif (decide (a0.1 ≥ 1073741824)) then
 some ((decide (a0.2 < 3221225472)), ())
 else
 some (false, ()) : Option ((Bool × Unit))).bind fun j1 => 
 bif j1.1 then
 some (1073741824, 2)
 else
 some (0, 3)
noncomputable def g_coder_interval_good (a0 : Int × Int) : Option (Bool) :=
 (g_coder_interval_move (a0.1, a0.2)).bind fun y1 =>
 bif (decide (a0.1 < a0.2)) then
 some (y1.2 == 3)
 else
 some false
noncomputable def g_bits_Check (a0 : List Int × Int) : Option (Int) :=
 (bif (decide (a0.2 < 0)) then
 some (true, (a0.1, a0.2), ())
 else
 bif (decide (a0.2 > 65536)) then
 some (true, (a0.1, a0.2), ())
 else
 some (((a0.1.length : Int) != (IntKind.i64.wrap ((IntKind.i64.wrap (a0.2 + 7)).tdiv 8))), (a0.1, a0.2), ()) : Option ((Bool × (List Int × Int) × Unit))).bind fun j1 => 
 bif j1.1 then
 some 1
 else
 (bif (decide ((j1.2.1.2.tmod 8) > 0)) then
 bif (within (IntKind.i64.wrap ((j1.2.1.1.length : Int) - 1)) j1.2.1.1.length) then
 bif (decide (0 ≤ (j1.2.1.2.tmod 8))) then
 some (((shlI .u8 (j1.2.1.1.getD ((IntKind.i64.wrap ((j1.2.1.1.length : Int) - 1)).toNat) 0) (j1.2.1.2.tmod 8)) != 0), ())
 else none
 else none
 else
 some (false, ()) : Option ((Bool × Unit))).bind fun j2 => 
 bif j2.1 then
 some 1
 else
 some 0
noncomputable def g_freq_Check_r1 (p3 : List Int × Int × Int × List Int × Unit) : Option ((List Int × Int × Int × List Int × Unit) ⊕ (Unit ⊕ (Int × Unit))) :=
 bif (decide (p3.2.2.1 < p3.2.1)) then
 bif (within p3.2.2.1 p3.1.length) then
 bif (within p3.2.2.1 p3.2.2.2.1.length) then
 bif (decide ((p3.1.getD p3.2.2.1.toNat 0) ≤ (p3.2.2.2.1.getD p3.2.2.1.toNat 0))) then
 some (Sum.inr (Sum.inr (1, ())))
 else
 some (Sum.inl (p3.1, p3.2.1, (IntKind.i64.wrap (p3.2.2.1 + 1)), p3.2.2.2.1, ()))
 else none
 else none
 else
 some (Sum.inr (Sum.inl ()))
noncomputable def g_freq_Check (a0 : List Int) : Option (Int) :=
 (bif (decide ((a0.length : Int) < 2)) then
 some (true, a0, ())
 else
 bif (decide ((a0.length : Int) > 257)) then
 some (true, a0, ())
 else
 bif (within 0 a0.length) then
 bif ((a0.getD 0 0) != 0) then
 some (true, a0, ())
 else
 (g_freq_last a0).bind fun y1 =>
 some ((decide (y1 > 16384)), a0, ())
 else none : Option ((Bool × List Int × Unit))).bind fun j2 => 
 bif j2.1 then
 some 1
 else
 bif (cutG 1 (j2.2.1.length : Int) j2.2.1.length) then
 (iter (g_freq_Check_r1) (((j2.2.1.take (j2.2.1.length : Int).toNat).drop 1), (((j2.2.1.take (j2.2.1.length : Int).toNat).drop 1).length : Int), 0, j2.2.1, ())).bind fun j4 => 
 (match j4 with
 | .inl j5 =>
 (some 0)
 | .inr j6 =>
 (some j6.1))
 else none
noncomputable def g_freq_Total (a0 : List Int) : Option (Int) :=
 (g_freq_Check a0).bind fun y1 =>
 bif (y1 != 0) then
 some 0
 else
 (g_freq_last a0).bind fun y2 =>
 some y2
noncomputable def g_slices_Clone_Sbyte_byte (a0 : List Int) : Option (List Int) :=
 bif room 1 ([] ++ a0).length then some ([] ++ a0) else none
noncomputable def g_coder_owned (a0 : List Int × Int) : Option (List Int × Int) :=
 (g_slices_Clone_Sbyte_byte a0.1).bind fun y1 =>
 some (y1, a0.2)
noncomputable def g_coder_bit (a0 : List Int × Int) (a1 : Int) : Option (Int) :=
 bif (decide (a1 ≥ a0.2)) then
 some 0
 else
 bif (within (IntKind.i64.wrap (a1.tdiv 8)) a0.1.length) then
 bif (decide (0 ≤ (IntKind.i64.wrap (7 - (a1.tmod 8))))) then
 some (bitsI .and .u64 (IntKind.u64.wrap (shrI .u8 (a0.1.getD ((IntKind.i64.wrap (a1.tdiv 8)).toNat) 0) (IntKind.i64.wrap (7 - (a1.tmod 8))))) 1)
 else none
 else none
noncomputable def g_cmp_isNaN_int (a0 : Int) : Option (Bool) :=
 some (a0 != a0)
noncomputable def g_cmp_Less_int (a0 : Int) (a1 : Int) : Option (Bool) :=
 (g_cmp_isNaN_int a0).bind fun y1 =>
 bif y1 then
 (g_cmp_isNaN_int a1).bind fun y2 =>
 bif (!y2) then
 some true
 else
 some (decide (a0 < a1))
 else
 some (decide (a0 < a1))
noncomputable def g_slices_isNaN_int (a0 : Int) : Option (Bool) :=
 some (a0 != a0)
noncomputable def g_slices_BinarySearch_Sint_int_r1 (p1 : List Int × Int × Int × Int × Int × Unit) : Option ((List Int × Int × Int × Int × Int × Unit) ⊕ ((List Int × Int × Int × Int × Unit))) :=
 bif (decide (p1.2.2.2.1 < p1.2.2.2.2.1)) then
 bif (within (IntKind.i64.wrap (shrI .u64 (IntKind.u64.wrap (IntKind.i64.wrap (p1.2.2.2.1 + p1.2.2.2.2.1))) 1)) p1.1.length) then
 (g_cmp_Less_int (p1.1.getD ((IntKind.i64.wrap (shrI .u64 (IntKind.u64.wrap (IntKind.i64.wrap (p1.2.2.2.1 + p1.2.2.2.2.1))) 1)).toNat) 0) p1.2.1).bind fun y2 =>
 bif y2 then
 some (Sum.inl (p1.1, p1.2.1, p1.2.2.1, (IntKind.i64.wrap ((IntKind.i64.wrap (shrI .u64 (IntKind.u64.wrap (IntKind.i64.wrap (p1.2.2.2.1 + p1.2.2.2.2.1))) 1)) + 1)), p1.2.2.2.2.1, ()))
 else
 some (Sum.inl (p1.1, p1.2.1, p1.2.2.1, p1.2.2.2.1, (IntKind.i64.wrap (shrI .u64 (IntKind.u64.wrap (IntKind.i64.wrap (p1.2.2.2.1 + p1.2.2.2.2.1))) 1)), ()))
 else none
 else
 some (Sum.inr (p1.1, p1.2.1, p1.2.2.1, p1.2.2.2.1, ()))
noncomputable def g_slices_BinarySearch_Sint_int (a0 : List Int) (a1 : Int) : Option (Int × Bool) :=
 (iter (g_slices_BinarySearch_Sint_int_r1) (a0, a1, (a0.length : Int), 0, (a0.length : Int), ())).bind fun j3 => 
 bif (decide (j3.2.2.2.1 < j3.2.2.1)) then
 bif (within j3.2.2.2.1 j3.1.length) then
 bif ((j3.1.getD j3.2.2.2.1.toNat 0) == j3.2.1) then
 some (j3.2.2.2.1, true)
 else
 bif (within j3.2.2.2.1 j3.1.length) then
 (g_slices_isNaN_int (j3.1.getD j3.2.2.2.1.toNat 0)).bind fun y4 =>
 bif y4 then
 (g_slices_isNaN_int j3.2.1).bind fun y5 =>
 some (j3.2.2.2.1, y5)
 else
 some (j3.2.2.2.1, false)
 else none
 else none
 else
 some (j3.2.2.2.1, false)
noncomputable def g_freq_Find (a0 : List Int) (a1 : Int) : Option (Int × Int) :=
 ((g_freq_Check a0).bind fun y1 =>
 bif (y1 != 0) then
 some (a1, true, a0, ())
 else
 bif (decide (a1 < 0)) then
 some (a1, true, a0, ())
 else
 (g_freq_last a0).bind fun y2 =>
 some (a1, (decide (a1 ≥ y2)), a0, ()) : Option ((Int × Bool × List Int × Unit))).bind fun j3 => 
 bif j3.2.1 then
 some (0, 1)
 else
 (g_slices_BinarySearch_Sint_int j3.2.2.1 j3.1).bind fun y4 =>
 (bif (!y4.2) then
 some ((IntKind.i64.wrap (y4.1 - 1)), ())
 else
 some (y4.1, ()) : Option ((Int × Unit))).bind fun j5 => 
 some (j5.1, 0)
noncomputable def g_coder_Next_r1 (p7 : Int × Int × Int × (Int × Int × Int × (List Int × Int) × Int) × (Int × Int × Int × (List Int × Int) × Int) × (Int × Int) × Unit) : Option ((Int × Int × Int × (Int × Int × Int × (List Int × Int) × Int) × (Int × Int × Int × (List Int × Int) × Int) × (Int × Int) × Unit) ⊕ ((Int × Int × Int × (Int × Int × Int × (List Int × Int) × Int) × (Int × Int × Int × (List Int × Int) × Int) × (Int × Int) × Unit))) :=
 (g_coder_interval_move (p7.2.2.2.2.2.1.1, p7.2.2.2.2.2.1.2)).bind fun y8 =>
 bif (y8.2 == 3) then
 some (Sum.inr (p7.1, p7.2.1, p7.2.2.1, (p7.2.2.2.1.1, (p7.2.2.2.1.2.1, (p7.2.2.2.1.2.2.1, ((p7.2.2.2.1.2.2.2.1.1, p7.2.2.2.1.2.2.2.1.2), p7.2.2.2.1.2.2.2.2)))), (p7.2.2.2.2.1.1, (p7.2.2.2.2.1.2.1, (p7.2.2.2.2.1.2.2.1, ((p7.2.2.2.2.1.2.2.2.1.1, p7.2.2.2.2.1.2.2.2.1.2), p7.2.2.2.2.1.2.2.2.2)))), (p7.2.2.2.2.2.1.1, p7.2.2.2.2.2.1.2), ()))
 else
 (g_coder_bit (p7.2.2.2.1.2.2.2.1.1, p7.2.2.2.1.2.2.2.1.2) p7.2.1).bind fun y9 =>
 some (Sum.inl ((bitsI .or .u64 (shlI .u64 (IntKind.u64.wrap (p7.1 - y8.1)) 1) y9), (IntKind.i64.wrap (p7.2.1 + 1)), p7.2.2.1, (p7.2.2.2.1.1, (p7.2.2.2.1.2.1, (p7.2.2.2.1.2.2.1, ((p7.2.2.2.1.2.2.2.1.1, p7.2.2.2.1.2.2.2.1.2), p7.2.2.2.1.2.2.2.2)))), (p7.2.2.2.2.1.1, (p7.2.2.2.2.1.2.1, (p7.2.2.2.2.1.2.2.1, ((p7.2.2.2.2.1.2.2.2.1.1, p7.2.2.2.2.1.2.2.2.1.2), p7.2.2.2.2.1.2.2.2.2)))), ((shlI .u64 (IntKind.u64.wrap (p7.2.2.2.2.2.1.1 - y8.1)) 1), (bitsI .or .u64 (shlI .u64 (IntKind.u64.wrap (p7.2.2.2.2.2.1.2 - y8.1)) 1) 1)), ()))
noncomputable def g_coder_Next (a0 : Int × Int × Int × (List Int × Int) × Int) (a1 : List Int) : Option ((Int × Int × Int × (List Int × Int) × Int) × Int × Int) :=
 ((g_coder_interval_good ((IntKind.u64.wrap a0.1), (IntKind.u64.wrap a0.2.1))).bind fun y1 =>
 bif (!y1) then
 some ((IntKind.u64.wrap a0.2.2.1), a0.2.2.2.2, true, (a0.1, (a0.2.1, (a0.2.2.1, ((a0.2.2.2.1.1, a0.2.2.2.1.2), a0.2.2.2.2)))), a1, (0, (0, (0, (([], 0), 0)))), ((IntKind.u64.wrap a0.1), (IntKind.u64.wrap a0.2.1)), ())
 else
 bif (decide ((IntKind.u64.wrap a0.2.2.1) < (IntKind.u64.wrap a0.1))) then
 some ((IntKind.u64.wrap a0.2.2.1), a0.2.2.2.2, true, (a0.1, (a0.2.1, (a0.2.2.1, ((a0.2.2.2.1.1, a0.2.2.2.1.2), a0.2.2.2.2)))), a1, (0, (0, (0, (([], 0), 0)))), ((IntKind.u64.wrap a0.1), (IntKind.u64.wrap a0.2.1)), ())
 else
 bif (decide ((IntKind.u64.wrap a0.2.2.1) > (IntKind.u64.wrap a0.2.1))) then
 some ((IntKind.u64.wrap a0.2.2.1), a0.2.2.2.2, true, (a0.1, (a0.2.1, (a0.2.2.1, ((a0.2.2.2.1.1, a0.2.2.2.1.2), a0.2.2.2.2)))), a1, (0, (0, (0, (([], 0), 0)))), ((IntKind.u64.wrap a0.1), (IntKind.u64.wrap a0.2.1)), ())
 else
 (g_bits_Check (a0.2.2.2.1.1, a0.2.2.2.1.2)).bind fun y2 =>
 bif (y2 != 0) then
 some ((IntKind.u64.wrap a0.2.2.1), a0.2.2.2.2, true, (a0.1, (a0.2.1, (a0.2.2.1, ((a0.2.2.2.1.1, a0.2.2.2.1.2), a0.2.2.2.2)))), a1, (0, (0, (0, (([], 0), 0)))), ((IntKind.u64.wrap a0.1), (IntKind.u64.wrap a0.2.1)), ())
 else
 bif (decide (a0.2.2.2.2 < 32)) then
 some ((IntKind.u64.wrap a0.2.2.1), a0.2.2.2.2, true, (a0.1, (a0.2.1, (a0.2.2.1, ((a0.2.2.2.1.1, a0.2.2.2.1.2), a0.2.2.2.2)))), a1, (0, (0, (0, (([], 0), 0)))), ((IntKind.u64.wrap a0.1), (IntKind.u64.wrap a0.2.1)), ())
 else
 bif (decide (a0.2.2.2.2 > 65600)) then
 some ((IntKind.u64.wrap a0.2.2.1), a0.2.2.2.2, true, (a0.1, (a0.2.1, (a0.2.2.1, ((a0.2.2.2.1.1, a0.2.2.2.1.2), a0.2.2.2.2)))), a1, (0, (0, (0, (([], 0), 0)))), ((IntKind.u64.wrap a0.1), (IntKind.u64.wrap a0.2.1)), ())
 else
 (g_freq_Check a1).bind fun y3 =>
 some ((IntKind.u64.wrap a0.2.2.1), a0.2.2.2.2, (y3 != 0), (a0.1, (a0.2.1, (a0.2.2.1, ((a0.2.2.2.1.1, a0.2.2.2.1.2), a0.2.2.2.2)))), a1, (0, (0, (0, (([], 0), 0)))), ((IntKind.u64.wrap a0.1), (IntKind.u64.wrap a0.2.1)), ()) : Option ((Int × Int × Bool × (Int × Int × Int × (List Int × Int) × Int) × List Int × (Int × Int × Int × (List Int × Int) × Int) × (Int × Int) × Unit))).bind fun j4 => 
 bif j4.2.2.1 then
 some ((0, (0, (0, (([], 0), 0)))), (0, 1))
 else
 bif (decide (j4.2.1 > (IntKind.i64.wrap (j4.2.2.2.1.2.2.2.1.2 + 32)))) then
 some ((0, (0, (0, (([], 0), 0)))), (0, 20))
 else
 (g_freq_Total j4.2.2.2.2.1).bind fun y5 =>
 bif ((IntKind.u64.wrap ((IntKind.u64.wrap (j4.2.2.2.2.2.2.1.2 - j4.2.2.2.2.2.2.1.1)) + 1)) != 0) then
 (g_freq_Find j4.2.2.2.2.1 (IntKind.i64.wrap (IntKind.u64.wrap ((IntKind.u64.wrap ((IntKind.u64.wrap ((IntKind.u64.wrap ((IntKind.u64.wrap (j4.1 - j4.2.2.2.2.2.2.1.1)) + 1)) * (IntKind.u64.wrap y5))) - 1)).tdiv (IntKind.u64.wrap ((IntKind.u64.wrap (j4.2.2.2.2.2.2.1.2 - j4.2.2.2.2.2.2.1.1)) + 1)))))).bind fun y6 =>
 bif (y6.2 != 0) then
 some ((0, (0, (0, (([], 0), 0)))), (0, y6.2))
 else
 bif (within y6.1 j4.2.2.2.2.1.length) then
 bif (within (IntKind.i64.wrap (y6.1 + 1)) j4.2.2.2.2.1.length) then
 bif ((IntKind.u64.wrap y5) != 0) then
 bif ((IntKind.u64.wrap y5) != 0) then
 (iter (g_coder_Next_r1) (j4.1, j4.2.1, y6.1, (j4.2.2.2.1.1, (j4.2.2.2.1.2.1, (j4.2.2.2.1.2.2.1, ((j4.2.2.2.1.2.2.2.1.1, j4.2.2.2.1.2.2.2.1.2), j4.2.2.2.1.2.2.2.2)))), (j4.2.2.2.2.2.1.1, (j4.2.2.2.2.2.1.2.1, (j4.2.2.2.2.2.1.2.2.1, ((j4.2.2.2.2.2.1.2.2.2.1.1, j4.2.2.2.2.2.1.2.2.2.1.2), j4.2.2.2.2.2.1.2.2.2.2)))), ((IntKind.u64.wrap (j4.2.2.2.2.2.2.1.1 + (IntKind.u64.wrap ((IntKind.u64.wrap ((IntKind.u64.wrap ((IntKind.u64.wrap (j4.2.2.2.2.2.2.1.2 - j4.2.2.2.2.2.2.1.1)) + 1)) * (IntKind.u64.wrap (j4.2.2.2.2.1.getD y6.1.toNat 0)))).tdiv (IntKind.u64.wrap y5))))), (IntKind.u64.wrap ((IntKind.u64.wrap (j4.2.2.2.2.2.2.1.1 + (IntKind.u64.wrap ((IntKind.u64.wrap ((IntKind.u64.wrap ((IntKind.u64.wrap (j4.2.2.2.2.2.2.1.2 - j4.2.2.2.2.2.2.1.1)) + 1)) * (IntKind.u64.wrap (j4.2.2.2.2.1.getD ((IntKind.i64.wrap (y6.1 + 1)).toNat) 0)))).tdiv (IntKind.u64.wrap y5))))) - 1))), ())).bind fun j10 => 
 (g_coder_owned (j10.2.2.2.1.2.2.2.1.1, j10.2.2.2.1.2.2.2.1.2)).bind fun y11 =>
 some (((IntKind.u32.wrap j10.2.2.2.2.2.1.1), ((IntKind.u32.wrap j10.2.2.2.2.2.1.2), ((IntKind.u32.wrap j10.1), ((y11.1, y11.2), j10.2.1)))), (j10.2.2.1, 0))
 else none
 else none
 else none
 else none
 else none
noncomputable def g_slices_Equal_Sbyte_byte_r1 (p1 : List Int × List Int × Int × Int × Unit) : Option ((List Int × List Int × Int × Int × Unit) ⊕ (Unit ⊕ (Bool × Unit))) :=
 bif (decide (p1.2.2.2.1 < p1.2.2.1)) then
 bif (within p1.2.2.2.1 p1.1.length) then
 bif (within p1.2.2.2.1 p1.2.1.length) then
 bif ((p1.1.getD p1.2.2.2.1.toNat 0) != (p1.2.1.getD p1.2.2.2.1.toNat 0)) then
 some (Sum.inr (Sum.inr (false, ())))
 else
 some (Sum.inl (p1.1, p1.2.1, p1.2.2.1, (IntKind.i64.wrap (p1.2.2.2.1 + 1)), ()))
 else none
 else none
 else
 some (Sum.inr (Sum.inl ()))
noncomputable def g_slices_Equal_Sbyte_byte (a0 : List Int) (a1 : List Int) : Option (Bool) :=
 bif ((a0.length : Int) != (a1.length : Int)) then
 some false
 else
 (iter (g_slices_Equal_Sbyte_byte_r1) (a0, a1, (a0.length : Int), 0, ())).bind fun j2 => 
 (match j2 with
 | .inl j3 =>
 (some true)
 | .inr j4 =>
 (some j4.1))
noncomputable def g_r03_Equal_r1 (p1 : List Int × List Int × Int × Int × Unit) : Option ((List Int × List Int × Int × Int × Unit) ⊕ (Unit ⊕ (Bool × Unit))) :=
 bif (decide (p1.2.2.2.1 < p1.2.2.1)) then
 bif (within p1.2.2.2.1 p1.1.length) then
 bif (within p1.2.2.2.1 p1.2.1.length) then
 bif ((p1.1.getD p1.2.2.2.1.toNat 0) != (p1.2.1.getD p1.2.2.2.1.toNat 0)) then
 some (Sum.inr (Sum.inr (false, ())))
 else
 some (Sum.inl (p1.1, p1.2.1, p1.2.2.1, (IntKind.i64.wrap (p1.2.2.2.1 + 1)), ()))
 else none
 else none
 else
 some (Sum.inr (Sum.inl ()))
noncomputable def g_r03_Equal (a0 : List Int) (a1 : List Int) : Option (Bool) :=
 bif ((a0.length : Int) != (a1.length : Int)) then
 some false
 else
 (iter (g_r03_Equal_r1) (a0, a1, (a0.length : Int), 0, ())).bind fun j2 => 
 (match j2 with
 | .inl j3 =>
 (some true)
 | .inr j4 =>
 (some j4.1))
end Go.Sq
set_option linter.unusedVariables false
set_option maxRecDepth 100000
namespace Go.Sq
open Go.Rx
def tb_first : List Int := [240, 240, 240, 240, 240, 240, 240, 240, 240, 240, 240, 240, 240, 240, 240, 240, 240, 240, 240, 240, 240, 240, 240, 240, 240, 240, 240, 240, 240, 240, 240, 240, 240, 240, 240, 240, 240, 240, 240, 240, 240, 240, 240, 240, 240, 240, 240, 240, 240, 240, 240, 240, 240, 240, 240, 240, 240, 240, 240, 240, 240, 240, 240, 240, 240, 240, 240, 240, 240, 240, 240, 240, 240, 240, 240, 240, 240, 240, 240, 240, 240, 240, 240, 240, 240, 240, 240, 240, 240, 240, 240, 240, 240, 240, 240, 240, 240, 240, 240, 240, 240, 240, 240, 240, 240, 240, 240, 240, 240, 240, 240, 240, 240, 240, 240, 240, 240, 240, 240, 240, 240, 240, 240, 240, 240, 240, 240, 240, 241, 241, 241, 241, 241, 241, 241, 241, 241, 241, 241, 241, 241, 241, 241, 241, 241, 241, 241, 241, 241, 241, 241, 241, 241, 241, 241, 241, 241, 241, 241, 241, 241, 241, 241, 241, 241, 241, 241, 241, 241, 241, 241, 241, 241, 241, 241, 241, 241, 241, 241, 241, 241, 241, 241, 241, 241, 241, 241, 241, 241, 241, 241, 241, 241, 241, 2, 2, 2, 2, 2, 2, 2, 2, 2, 2, 2, 2, 2, 2, 2, 2, 2, 2, 2, 2, 2, 2, 2, 2, 2, 2, 2, 2, 2, 2, 19, 3, 3, 3, 3, 3, 3, 3, 3, 3, 3, 3, 3, 35, 3, 3, 52, 4, 4, 4, 68, 241, 241, 241, 241, 241, 241, 241, 241, 241, 241, 241]
def tb_accept : List (Int × Int) := [(128, 191), (160, 191), (128, 159), (144, 191), (128, 143), (0, 0), (0, 0), (0, 0), (0, 0), (0, 0), (0, 0), (0, 0), (0, 0), (0, 0), (0, 0), (0, 0)]
noncomputable def g_retry_New : Option (Int × List (Int × (Int × Int × Int × Int × Int × Int × Int × Int × ByteArray × List Int) × Int × Int) × List (Int × Int × List Int)) :=
 some (1, ([], []))
noncomputable def g_retry_within (a0 : Int) (a1 : Int) (a2 : Int) : Option (Bool) :=
 bif (decide (a0 ≥ a1)) then
 some (decide (a0 ≤ a2))
 else
 some false
noncomputable def g_wire_clean (a0 : Int) : Option (Bool) :=
 bif (decide (a0 ≥ 32)) then
 some (a0 != 127)
 else
 some false
noncomputable def g_unicode_utf8_word_string (a0 : ByteArray) : Option (Int) :=
 bif (within 0 a0.size) then
 bif (within 1 a0.size) then
 bif (within 2 a0.size) then
 bif (within 3 a0.size) then
 bif (within 4 a0.size) then
 bif (within 5 a0.size) then
 bif (within 6 a0.size) then
 bif (within 7 a0.size) then
 some (bitsI .or .u64 (bitsI .or .u64 (bitsI .or .u64 (bitsI .or .u64 (bitsI .or .u64 (bitsI .or .u64 (bitsI .or .u64 (IntKind.u64.wrap ((a0.data.getD 0 0).toNat : Int)) (shlI .u64 (IntKind.u64.wrap ((a0.data.getD 1 0).toNat : Int)) 8)) (shlI .u64 (IntKind.u64.wrap ((a0.data.getD 2 0).toNat : Int)) 16)) (shlI .u64 (IntKind.u64.wrap ((a0.data.getD 3 0).toNat : Int)) 24)) (shlI .u64 (IntKind.u64.wrap ((a0.data.getD 4 0).toNat : Int)) 32)) (shlI .u64 (IntKind.u64.wrap ((a0.data.getD 5 0).toNat : Int)) 40)) (shlI .u64 (IntKind.u64.wrap ((a0.data.getD 6 0).toNat : Int)) 48)) (shlI .u64 (IntKind.u64.wrap ((a0.data.getD 7 0).toNat : Int)) 56))
 else none
 else none
 else none
 else none
 else none
 else none
 else none
 else none
noncomputable def g_unicode_utf8_ValidString_r1 (p7 : ByteArray × Unit) : Option ((ByteArray × Unit) ⊕ ((ByteArray × Unit))) :=
 (bif (decide ((p7.1.size : Int) > 32)) then
 (g_unicode_utf8_word_string p7.1).bind fun y8 =>
 bif (cutG 8 (p7.1.size : Int) p7.1.size) then
 (g_unicode_utf8_word_string (p7.1.extract 8 (p7.1.size : Int).toNat)).bind fun y9 =>
 bif (cutG 16 (p7.1.size : Int) p7.1.size) then
 (g_unicode_utf8_word_string (p7.1.extract 16 (p7.1.size : Int).toNat)).bind fun y10 =>
 bif (cutG 24 (p7.1.size : Int) p7.1.size) then
 (g_unicode_utf8_word_string (p7.1.extract 24 (p7.1.size : Int).toNat)).bind fun y11 =>
 some (p7.1, ((bitsI .and .u64 (bitsI .or .u64 (bitsI .or .u64 y8 y9) (bitsI .or .u64 y10 y11)) 9259542123273814144) == 0), ())
 else none
 else none
 else none
 else
 some (p7.1, false, ()) : Option ((ByteArray × Bool × Unit))).bind fun j12 => 
 bif j12.2.1 then
 bif (cutG 32 (j12.1.size : Int) j12.1.size) then
 some (Sum.inl ((j12.1.extract 32 (j12.1.size : Int).toNat), ()))
 else none
 else
 some (Sum.inr (j12.1, ()))
noncomputable def g_unicode_utf8_ValidString_r2 (p1 : ByteArray × Unit) : Option ((ByteArray × Unit) ⊕ (Unit ⊕ (Bool × Unit))) :=
 bif (decide ((p1.1.size : Int) > 0)) then
 bif (within 0 p1.1.size) then
 bif (decide (((p1.1.data.getD 0 0).toNat : Int) < 128)) then
 bif (cutG 1 (p1.1.size : Int) p1.1.size) then
 (bif (decide (((p1.1.extract 1 (p1.1.size : Int).toNat).size : Int) > 8)) then
 (g_unicode_utf8_word_string (p1.1.extract 1 (p1.1.size : Int).toNat)).bind fun y2 =>
 some ((p1.1.extract 1 (p1.1.size : Int).toNat), ((bitsI .and .u64 y2 9259542123273814144) == 0), ())
 else
 some ((p1.1.extract 1 (p1.1.size : Int).toNat), false, ()) : Option ((ByteArray × Bool × Unit))).bind fun j3 => 
 bif j3.2.1 then
 bif (cutG 8 (j3.1.size : Int) j3.1.size) then
 (bif (decide (((j3.1.extract 8 (j3.1.size : Int).toNat).size : Int) > 16)) then
 (g_unicode_utf8_word_string (j3.1.extract 8 (j3.1.size : Int).toNat)).bind fun y4 =>
 bif (cutG 8 ((j3.1.extract 8 (j3.1.size : Int).toNat).size : Int) ((j3.1.extract 8 (j3.1.size : Int).toNat).size)) then
 (g_unicode_utf8_word_string ((j3.1.extract 8 (j3.1.size : Int).toNat).extract 8 ((j3.1.extract 8 (j3.1.size : Int).toNat).size : Int).toNat)).bind fun y5 =>
 some ((j3.1.extract 8 (j3.1.size : Int).toNat), ((bitsI .and .u64 (bitsI .or .u64 y4 y5) 9259542123273814144) == 0), ())
 else none
 else
 some ((j3.1.extract 8 (j3.1.size : Int).toNat), false, ()) : Option ((ByteArray × Bool × Unit))).bind fun j6 => 
 bif j6.2.1 then
 bif (cutG 16 (j6.1.size : Int) j6.1.size) then
 (iter (g_unicode_utf8_ValidString_r1) ((j6.1.extract 16 (j6.1.size : Int).toNat), ())).bind fun j13 => 
 some (Sum.inl (j13.1, ()))
 else none
 else
 some (Sum.inl (j6.1, ()))
 else none
 else
 some (Sum.inl (j3.1, ()))
 else none
 else
 bif (within ((p1.1.data.getD 0 0).toNat : Int) 256) then
 bif (within (shrI .u8 (tb_first.getD (((p1.1.data.getD 0 0).toNat : Int).toNat) 0) 4) 16) then
 bif ((IntKind.i64.wrap (bitsI .and .u8 (tb_first.getD (((p1.1.data.getD 0 0).toNat : Int).toNat) 0) 7)) == 2) then
 (bif (decide ((p1.1.size : Int) < 2)) then
 some (p1.1, true, ())
 else
 bif (within 1 p1.1.size) then
 bif (decide (((p1.1.data.getD 1 0).toNat : Int) < ((tb_accept.getD ((shrI .u8 (tb_first.getD (((p1.1.data.getD 0 0).toNat : Int).toNat) 0) 4).toNat) (0, 0))).1)) then
 some (p1.1, true, ())
 else
 bif (within 1 p1.1.size) then
 some (p1.1, (decide (((tb_accept.getD ((shrI .u8 (tb_first.getD (((p1.1.data.getD 0 0).toNat : Int).toNat) 0) 4).toNat) (0, 0))).2 < ((p1.1.data.getD 1 0).toNat : Int))), ())
 else none
 else none : Option ((ByteArray × Bool × Unit))).bind fun j14 => 
 bif j14.2.1 then
 some (Sum.inr (Sum.inr (false, ())))
 else
 bif (cutG 2 (j14.1.size : Int) j14.1.size) then
 some (Sum.inl ((j14.1.extract 2 (j14.1.size : Int).toNat), ()))
 else none
 else
 bif ((IntKind.i64.wrap (bitsI .and .u8 (tb_first.getD (((p1.1.data.getD 0 0).toNat : Int).toNat) 0) 7)) == 3) then
 (bif (decide ((p1.1.size : Int) < 3)) then
 some (p1.1, true, ())
 else
 bif (within 1 p1.1.size) then
 bif (decide (((p1.1.data.getD 1 0).toNat : Int) < ((tb_accept.getD ((shrI .u8 (tb_first.getD (((p1.1.data.getD 0 0).toNat : Int).toNat) 0) 4).toNat) (0, 0))).1)) then
 some (p1.1, true, ())
 else
 bif (within 1 p1.1.size) then
 bif (decide (((tb_accept.getD ((shrI .u8 (tb_first.getD (((p1.1.data.getD 0 0).toNat : Int).toNat) 0) 4).toNat) (0, 0))).2 < ((p1.1.data.getD 1 0).toNat : Int))) then
 some (p1.1, true, ())
 else
 bif (within 2 p1.1.size) then
 bif (decide (((p1.1.data.getD 2 0).toNat : Int) < 128)) then
 some (p1.1, true, ())
 else
 bif (within 2 p1.1.size) then
 some (p1.1, (decide (191 < ((p1.1.data.getD 2 0).toNat : Int))), ())
 else none
 else none
 else none
 else none : Option ((ByteArray × Bool × Unit))).bind fun j15 => 
 bif j15.2.1 then
 some (Sum.inr (Sum.inr (false, ())))
 else
 bif (cutG 3 (j15.1.size : Int) j15.1.size) then
 some (Sum.inl ((j15.1.extract 3 (j15.1.size : Int).toNat), ()))
 else none
 else
 bif ((IntKind.i64.wrap (bitsI .and .u8 (tb_first.getD (((p1.1.data.getD 0 0).toNat : Int).toNat) 0) 7)) == 4) then
 (bif (decide ((p1.1.size : Int) < 4)) then
 some (p1.1, true, ())
 else
 bif (within 1 p1.1.size) then
 bif (decide (((p1.1.data.getD 1 0).toNat : Int) < ((tb_accept.getD ((shrI .u8 (tb_first.getD (((p1.1.data.getD 0 0).toNat : Int).toNat) 0) 4).toNat) (0, 0))).1)) then
 some (p1.1, true, ())
 else
 bif (within 1 p1.1.size) then
 bif (decide (((tb_accept.getD ((shrI .u8 (tb_first.getD (((p1.1.data.getD 0 0).toNat : Int).toNat) 0) 4).toNat) (0, 0))).2 < ((p1.1.data.getD 1 0).toNat : Int))) then
 some (p1.1, true, ())
 else
 bif (within 2 p1.1.size) then
 bif (decide (((p1.1.data.getD 2 0).toNat : Int) < 128)) then
 some (p1.1, true, ())
 else
 bif (within 2 p1.1.size) then
 bif (decide (191 < ((p1.1.data.getD 2 0).toNat : Int))) then
 some (p1.1, true, ())
 else
 bif (within 3 p1.1.size) then
 bif (decide (((p1.1.data.getD 3 0).toNat : Int) < 128)) then
 some (p1.1, true, ())
 else
 bif (within 3 p1.1.size) then
 some (p1.1, (decide (191 < ((p1.1.data.getD 3 0).toNat : Int))), ())
 else none
 else none
 else none
 else none
 else none
 else none : Option ((ByteArray × Bool × Unit))).bind fun j16 => 
 bif j16.2.1 then
 some (Sum.inr (Sum.inr (false, ())))
 else
 bif (cutG 4 (j16.1.size : Int) j16.1.size) then
 some (Sum.inl ((j16.1.extract 4 (j16.1.size : Int).toNat), ()))
 else none
 else
 some (Sum.inr (Sum.inr (false, ())))
 else none
 else none
 else none
 else
 some (Sum.inr (Sum.inl ()))
noncomputable def g_unicode_utf8_ValidString (a0 : ByteArray) : Option (Bool) :=
 (iter (g_unicode_utf8_ValidString_r2) (a0, ())).bind fun j17 => 
 (match j17 with
 | .inl j18 =>
 (some true)
 | .inr j19 =>
 (some j19.1))
noncomputable def g_wire_Name_r1 (p1 : ByteArray × Int × (ByteArray × Int) × Unit) : Option ((ByteArray × Int × (ByteArray × Int) × Unit) ⊕ ((ByteArray × Int × Unit) ⊕ (Bool × Unit))) :=
 bif (decide (p1.2.2.1.2.toNat < p1.2.2.1.1.size)) then
 (g_wire_clean (runeAt p1.2.2.1.1 p1.2.2.1.2.toNat)).bind fun y2 =>
 bif (!y2) then
 some (Sum.inr (Sum.inr (false, ())))
 else
 some (Sum.inl (p1.1, (IntKind.i64.wrap (p1.2.1 + 1)), (p1.2.2.1.1, ((p1.2.2.1.2.toNat + runeLen p1.2.2.1.1 p1.2.2.1.2.toNat) : Int)), ()))
 else
 some (Sum.inr (Sum.inl (p1.1, p1.2.1, ())))
noncomputable def g_wire_Name (a0 : ByteArray) : Option (Bool) :=
 (iter (g_wire_Name_r1) (a0, 0, (a0, 0), ())).bind fun j3 => 
 (match j3 with
 | .inl j4 =>
 (bif (decide (j4.2.1 ≤ 16)) then
 (g_unicode_utf8_ValidString j4.1).bind fun y6 =>
 some y6
 else
 some false)
 | .inr j5 =>
 (some j5.1))
noncomputable def g_wire_Check (a0 : Int × Int × Int × Int × Int × Int × Int × Int × ByteArray × List Int) : Option (Int) :=
 (bif (decide (a0.1 ≥ 1)) then
 bif (decide (a0.1 ≤ 15)) then
 bif (decide ((a0.2.2.2.2.2.2.2.2.2.length : Int) ≤ 64)) then
 some (((a0.1 == 13) == (decide ((a0.2.2.2.2.2.2.2.2.2.length : Int) > 0))), a0, ())
 else
 some (false, a0, ())
 else
 some (false, a0, ())
 else
 some (false, a0, ()) : Option ((Bool × (Int × Int × Int × Int × Int × Int × Int × Int × ByteArray × List Int) × Unit))).bind fun j1 => 
 (bif j1.1 then
 bif (decide (j1.2.1.2.1 ≥ 0)) then
 some ((decide (j1.2.1.2.1 ≤ 1073741824)), j1.2.1, ())
 else
 some (false, j1.2.1, ())
 else
 some (false, j1.2.1, ()) : Option ((Bool × (Int × Int × Int × Int × Int × Int × Int × Int × ByteArray × List Int) × Unit))).bind fun j2 => 
 (bif j2.1 then
 bif (decide (j2.2.1.2.2.1 ≥ 0)) then
 some ((decide (j2.2.1.2.2.1 ≤ 1073741824)), j2.2.1, ())
 else
 some (false, j2.2.1, ())
 else
 some (false, j2.2.1, ()) : Option ((Bool × (Int × Int × Int × Int × Int × Int × Int × Int × ByteArray × List Int) × Unit))).bind fun j3 => 
 (bif j3.1 then
 bif (decide (j3.2.1.2.2.2.1 ≥ 0)) then
 some ((decide (j3.2.1.2.2.2.1 ≤ 1073741824)), j3.2.1, ())
 else
 some (false, j3.2.1, ())
 else
 some (false, j3.2.1, ()) : Option ((Bool × (Int × Int × Int × Int × Int × Int × Int × Int × ByteArray × List Int) × Unit))).bind fun j4 => 
 (bif j4.1 then
 bif (decide (j4.2.1.2.2.2.2.1 ≥ 0)) then
 some ((decide (j4.2.1.2.2.2.2.1 ≤ 1073741824)), j4.2.1, ())
 else
 some (false, j4.2.1, ())
 else
 some (false, j4.2.1, ()) : Option ((Bool × (Int × Int × Int × Int × Int × Int × Int × Int × ByteArray × List Int) × Unit))).bind fun j5 => 
 (bif j5.1 then
 bif (decide (j5.2.1.2.2.2.2.2.1 ≥ 0)) then
 some ((decide (j5.2.1.2.2.2.2.2.1 ≤ 1073741824)), j5.2.1, ())
 else
 some (false, j5.2.1, ())
 else
 some (false, j5.2.1, ()) : Option ((Bool × (Int × Int × Int × Int × Int × Int × Int × Int × ByteArray × List Int) × Unit))).bind fun j6 => 
 (bif j6.1 then
 bif (decide (j6.2.1.2.2.2.2.2.2.1 ≥ 0)) then
 some ((decide (j6.2.1.2.2.2.2.2.2.1 ≤ 1073741824)), j6.2.1, ())
 else
 some (false, j6.2.1, ())
 else
 some (false, j6.2.1, ()) : Option ((Bool × (Int × Int × Int × Int × Int × Int × Int × Int × ByteArray × List Int) × Unit))).bind fun j7 => 
 (bif j7.1 then
 bif (decide (j7.2.1.2.2.2.2.2.2.2.1 ≥ 0)) then
 some ((decide (j7.2.1.2.2.2.2.2.2.2.1 ≤ 1073741824)), j7.2.1, ())
 else
 some (false, j7.2.1, ())
 else
 some (false, j7.2.1, ()) : Option ((Bool × (Int × Int × Int × Int × Int × Int × Int × Int × ByteArray × List Int) × Unit))).bind fun j8 => 
 ((bif (j8.2.1.1 == 1) then
 some (j8.1, true, j8.2.1, ())
 else
 bif (j8.2.1.1 == 9) then
 some (j8.1, true, j8.2.1, ())
 else
 some (j8.1, (j8.2.1.1 == 5), j8.2.1, ()) : Option ((Bool × Bool × (Int × Int × Int × Int × Int × Int × Int × Int × ByteArray × List Int) × Unit))).bind fun j9 => 
 bif j9.2.1 then
 bif j9.1 then
 (g_wire_Name j9.2.2.1.2.2.2.2.2.2.2.2.1).bind fun y10 =>
 some (y10, ())
 else
 some (false, ())
 else
 bif j9.1 then
 some ((strEq j9.2.2.1.2.2.2.2.2.2.2.2.1 (ByteArray.mk #[])), ())
 else
 some (false, ()) : Option ((Bool × Unit))).bind fun j11 => 
 bif (!j11.1) then
 some 1
 else
 some 0
noncomputable def g_retry_Check_r1 (p3 : Bool × Int × (List (Int × (Int × Int × Int × Int × Int × Int × Int × Int × ByteArray × List Int) × Int × Int)) × Int × Int × (Int × List (Int × (Int × Int × Int × Int × Int × Int × Int × Int × ByteArray × List Int) × Int × Int) × List (Int × Int × List Int)) × Unit) : Option ((Bool × Int × (List (Int × (Int × Int × Int × Int × Int × Int × Int × Int × ByteArray × List Int) × Int × Int)) × Int × Int × (Int × List (Int × (Int × Int × Int × Int × Int × Int × Int × Int × ByteArray × List Int) × Int × Int) × List (Int × Int × List Int)) × Unit) ⊕ ((Bool × (Int × List (Int × (Int × Int × Int × Int × Int × Int × Int × Int × ByteArray × List Int) × Int × Int) × List (Int × Int × List Int)) × Unit))) :=
 bif (decide (p3.2.2.2.2.1 < p3.2.2.2.1)) then
 bif (within p3.2.2.2.2.1 p3.2.2.1.length) then
 (bif p3.1 then
 (g_retry_within (((p3.2.2.1.getD p3.2.2.2.2.1.toNat (0, ((0, (0, (0, (0, (0, (0, (0, (0, (ByteArray.empty, []))))))))), (0, 0))))).1) (IntKind.i64.wrap (p3.2.1 + 1)) (IntKind.i64.wrap (p3.2.2.2.2.2.1.1 - 1))).bind fun y4 =>
 bif y4 then
 bif ((((((((((p3.2.2.1.getD p3.2.2.2.2.1.toNat (0, ((0, (0, (0, (0, (0, (0, (0, (0, (ByteArray.empty, []))))))))), (0, 0))))).2).1).2).2).2).2).1) == (((p3.2.2.1.getD p3.2.2.2.2.1.toNat (0, ((0, (0, (0, (0, (0, (0, (0, (0, (ByteArray.empty, []))))))))), (0, 0))))).1)) then
 (g_retry_within (((((p3.2.2.1.getD p3.2.2.2.2.1.toNat (0, ((0, (0, (0, (0, (0, (0, (0, (0, (ByteArray.empty, []))))))))), (0, 0))))).2).2).1) 0 4).bind fun y5 =>
 bif y5 then
 (g_retry_within (((((p3.2.2.1.getD p3.2.2.2.2.1.toNat (0, ((0, (0, (0, (0, (0, (0, (0, (0, (ByteArray.empty, []))))))))), (0, 0))))).2).2).2) 0 2199023255552).bind fun y6 =>
 bif y6 then
 (g_wire_Check ((((p3.2.2.1.getD p3.2.2.2.2.1.toNat (0, ((0, (0, (0, (0, (0, (0, (0, (0, (ByteArray.empty, []))))))))), (0, 0))))).2).1)).bind fun y7 =>
 some ((y7 == 0), p3.2.2.1, p3.2.2.2.1, p3.2.2.2.2.1, p3.2.2.2.2.2.1, (p3.2.2.1.getD p3.2.2.2.2.1.toNat (0, ((0, (0, (0, (0, (0, (0, (0, (0, (ByteArray.empty, []))))))))), (0, 0)))), ())
 else
 some (false, p3.2.2.1, p3.2.2.2.1, p3.2.2.2.2.1, p3.2.2.2.2.2.1, (p3.2.2.1.getD p3.2.2.2.2.1.toNat (0, ((0, (0, (0, (0, (0, (0, (0, (0, (ByteArray.empty, []))))))))), (0, 0)))), ())
 else
 some (false, p3.2.2.1, p3.2.2.2.1, p3.2.2.2.2.1, p3.2.2.2.2.2.1, (p3.2.2.1.getD p3.2.2.2.2.1.toNat (0, ((0, (0, (0, (0, (0, (0, (0, (0, (ByteArray.empty, []))))))))), (0, 0)))), ())
 else
 some (false, p3.2.2.1, p3.2.2.2.1, p3.2.2.2.2.1, p3.2.2.2.2.2.1, (p3.2.2.1.getD p3.2.2.2.2.1.toNat (0, ((0, (0, (0, (0, (0, (0, (0, (0, (ByteArray.empty, []))))))))), (0, 0)))), ())
 else
 some (false, p3.2.2.1, p3.2.2.2.1, p3.2.2.2.2.1, p3.2.2.2.2.2.1, (p3.2.2.1.getD p3.2.2.2.2.1.toNat (0, ((0, (0, (0, (0, (0, (0, (0, (0, (ByteArray.empty, []))))))))), (0, 0)))), ())
 else
 some (false, p3.2.2.1, p3.2.2.2.1, p3.2.2.2.2.1, p3.2.2.2.2.2.1, (p3.2.2.1.getD p3.2.2.2.2.1.toNat (0, ((0, (0, (0, (0, (0, (0, (0, (0, (ByteArray.empty, []))))))))), (0, 0)))), ()) : Option ((Bool × (List (Int × (Int × Int × Int × Int × Int × Int × Int × Int × ByteArray × List Int) × Int × Int)) × Int × Int × (Int × List (Int × (Int × Int × Int × Int × Int × Int × Int × Int × ByteArray × List Int) × Int × Int) × List (Int × Int × List Int)) × (Int × (Int × Int × Int × Int × Int × Int × Int × Int × ByteArray × List Int) × Int × Int) × Unit))).bind fun j8 => 
 some (Sum.inl (j8.1, j8.2.2.2.2.2.1.1, j8.2.1, j8.2.2.1, (IntKind.i64.wrap (j8.2.2.2.1 + 1)), j8.2.2.2.2.1, ()))
 else none
 else
 some (Sum.inr (p3.1, p3.2.2.2.2.2.1, ()))
noncomputable def g_retry_Check_r2 (p13 : Bool × Int × Int × (List (Int × Int × List Int)) × Int × Int × List Int × Int × Int × Unit) : Option ((Bool × Int × Int × (List (Int × Int × List Int)) × Int × Int × List Int × Int × Int × Unit) ⊕ ((Bool × Int × (List (Int × Int × List Int)) × Int × Int × Unit))) :=
 bif (decide (p13.2.2.2.2.2.2.2.2.1 < p13.2.2.2.2.2.2.2.1)) then
 bif (within p13.2.2.2.2.2.2.2.2.1 p13.2.2.2.2.2.2.1.length) then
 (bif p13.1 then
 bif (decide ((p13.2.2.2.2.2.2.1.getD p13.2.2.2.2.2.2.2.2.1.toNat 0) > p13.2.2.1)) then
 some ((decide ((p13.2.2.2.2.2.2.1.getD p13.2.2.2.2.2.2.2.2.1.toNat 0) ≤ 1073741824)), p13.2.1, (p13.2.2.2.2.2.2.1.getD p13.2.2.2.2.2.2.2.2.1.toNat 0), p13.2.2.2.1, p13.2.2.2.2.1, p13.2.2.2.2.2.1, p13.2.2.2.2.2.2.1, p13.2.2.2.2.2.2.2.1, p13.2.2.2.2.2.2.2.2.1, ())
 else
 some (false, p13.2.1, (p13.2.2.2.2.2.2.1.getD p13.2.2.2.2.2.2.2.2.1.toNat 0), p13.2.2.2.1, p13.2.2.2.2.1, p13.2.2.2.2.2.1, p13.2.2.2.2.2.2.1, p13.2.2.2.2.2.2.2.1, p13.2.2.2.2.2.2.2.2.1, ())
 else
 some (false, p13.2.1, (p13.2.2.2.2.2.2.1.getD p13.2.2.2.2.2.2.2.2.1.toNat 0), p13.2.2.2.1, p13.2.2.2.2.1, p13.2.2.2.2.2.1, p13.2.2.2.2.2.2.1, p13.2.2.2.2.2.2.2.1, p13.2.2.2.2.2.2.2.2.1, ()) : Option ((Bool × Int × Int × (List (Int × Int × List Int)) × Int × Int × List Int × Int × Int × Unit))).bind fun j14 => 
 some (Sum.inl (j14.1, j14.2.1, j14.2.2.1, j14.2.2.2.1, j14.2.2.2.2.1, j14.2.2.2.2.2.1, j14.2.2.2.2.2.2.1, j14.2.2.2.2.2.2.2.1, (IntKind.i64.wrap (j14.2.2.2.2.2.2.2.2.1 + 1)), ()))
 else none
 else
 some (Sum.inr (p13.1, p13.2.1, p13.2.2.2.1, p13.2.2.2.2.1, p13.2.2.2.2.2.1, ()))
noncomputable def g_retry_Check_r3 (p10 : Bool × Int × (List (Int × Int × List Int)) × Int × Int × Unit) : Option ((Bool × Int × (List (Int × Int × List Int)) × Int × Int × Unit) ⊕ ((Bool × Unit))) :=
 bif (decide (p10.2.2.2.2.1 < p10.2.2.2.1)) then
 bif (within p10.2.2.2.2.1 p10.2.2.1.length) then
 (bif p10.1 then
 bif (decide (((p10.2.2.1.getD p10.2.2.2.2.1.toNat (0, (0, [])))).1 > p10.2.1)) then
 bif (decide (((p10.2.2.1.getD p10.2.2.2.2.1.toNat (0, (0, [])))).1 ≤ 1073741824)) then
 (g_retry_within ((((p10.2.2.1.getD p10.2.2.2.2.1.toNat (0, (0, [])))).2).1) 0 1073741825).bind fun y11 =>
 bif y11 then
 some ((decide ((((((p10.2.2.1.getD p10.2.2.2.2.1.toNat (0, (0, [])))).2).2).length : Int) ≤ 16)), p10.2.2.1, p10.2.2.2.1, p10.2.2.2.2.1, (p10.2.2.1.getD p10.2.2.2.2.1.toNat (0, (0, []))), ())
 else
 some (false, p10.2.2.1, p10.2.2.2.1, p10.2.2.2.2.1, (p10.2.2.1.getD p10.2.2.2.2.1.toNat (0, (0, []))), ())
 else
 some (false, p10.2.2.1, p10.2.2.2.1, p10.2.2.2.2.1, (p10.2.2.1.getD p10.2.2.2.2.1.toNat (0, (0, []))), ())
 else
 some (false, p10.2.2.1, p10.2.2.2.1, p10.2.2.2.2.1, (p10.2.2.1.getD p10.2.2.2.2.1.toNat (0, (0, []))), ())
 else
 some (false, p10.2.2.1, p10.2.2.2.1, p10.2.2.2.2.1, (p10.2.2.1.getD p10.2.2.2.2.1.toNat (0, (0, []))), ()) : Option ((Bool × (List (Int × Int × List Int)) × Int × Int × (Int × Int × List Int) × Unit))).bind fun j12 => 
 (iter (g_retry_Check_r2) (j12.1, j12.2.2.2.2.1.1, j12.2.2.2.2.1.2.1, j12.2.1, j12.2.2.1, j12.2.2.2.1, j12.2.2.2.2.1.2.2, (j12.2.2.2.2.1.2.2.length : Int), 0, ())).bind fun j15 => 
 some (Sum.inl (j15.1, j15.2.1, j15.2.2.1, j15.2.2.2.1, (IntKind.i64.wrap (j15.2.2.2.2.1 + 1)), ()))
 else none
 else
 some (Sum.inr (p10.1, ()))
noncomputable def g_retry_Check (a0 : Int × List (Int × (Int × Int × Int × Int × Int × Int × Int × Int × ByteArray × List Int) × Int × Int) × List (Int × Int × List Int)) : Option (Int) :=
 ((g_retry_within a0.1 1 1073741824).bind fun y1 =>
 bif y1 then
 bif (decide ((a0.2.1.length : Int) ≤ 64)) then
 some ((decide ((a0.2.2.length : Int) ≤ 64)), a0, ())
 else
 some (false, a0, ())
 else
 some (false, a0, ()) : Option ((Bool × (Int × List (Int × (Int × Int × Int × Int × Int × Int × Int × Int × ByteArray × List Int) × Int × Int) × List (Int × Int × List Int)) × Unit))).bind fun j2 => 
 (iter (g_retry_Check_r1) (j2.1, 0, j2.2.1.2.1, (j2.2.1.2.1.length : Int), 0, j2.2.1, ())).bind fun j9 => 
 (iter (g_retry_Check_r3) (j9.1, (-1), j9.2.1.2.2, (j9.2.1.2.2.length : Int), 0, ())).bind fun j16 => 
 bif (!j16.1) then
 some 1
 else
 some 0
noncomputable def g_retry_timely (a0 : Int × List (Int × (Int × Int × Int × Int × Int × Int × Int × Int × ByteArray × List Int) × Int × Int) × List (Int × Int × List Int)) (a1 : Int) : Option (Bool) :=
 (g_retry_within a1 0 1099511627776).bind fun y1 =>
 bif y1 then
 (g_retry_Check a0).bind fun y2 =>
 some (y2 == 0)
 else
 some false
noncomputable def g_slices_Clone_Sapi_Send_api_Send (a0 : List (Int × (Int × Int × Int × Int × Int × Int × Int × Int × ByteArray × List Int) × Int × Int)) : Option (List (Int × (Int × Int × Int × Int × Int × Int × Int × Int × ByteArray × List Int) × Int × Int)) :=
 bif room 128 ([] ++ a0).length then some ([] ++ a0) else none
noncomputable def g_slices_Clone_Sapi_Heard_api_Heard (a0 : List (Int × Int × List Int)) : Option (List (Int × Int × List Int)) :=
 bif room 40 ([] ++ a0).length then some ([] ++ a0) else none
noncomputable def g_retry_letter (a0 : Int × Int × Int × Int × Int × Int × Int × Int × ByteArray × List Int) : Option (Int × Int × Int × Int × Int × Int × Int × Int × ByteArray × List Int) :=
 (g_slices_Clone_Sbyte_byte a0.2.2.2.2.2.2.2.2.2).bind fun y1 =>
 some (a0.1, (a0.2.1, (a0.2.2.1, (a0.2.2.2.1, (a0.2.2.2.2.1, (a0.2.2.2.2.2.1, (a0.2.2.2.2.2.2.1, (a0.2.2.2.2.2.2.2.1, (a0.2.2.2.2.2.2.2.2.1, y1)))))))))
noncomputable def g_slices_Clone_Sint_int (a0 : List Int) : Option (List Int) :=
 bif room 8 ([] ++ a0).length then some ([] ++ a0) else none
noncomputable def g_retry_owned_r1 (p3 : Int × Int × (Int × List (Int × (Int × Int × Int × Int × Int × Int × Int × Int × ByteArray × List Int) × Int × Int) × List (Int × Int × List Int)) × (Int × List (Int × (Int × Int × Int × Int × Int × Int × Int × Int × ByteArray × List Int) × Int × Int) × List (Int × Int × List Int)) × Unit) : Option ((Int × Int × (Int × List (Int × (Int × Int × Int × Int × Int × Int × Int × Int × ByteArray × List Int) × Int × Int) × List (Int × Int × List Int)) × (Int × List (Int × (Int × Int × Int × Int × Int × Int × Int × Int × ByteArray × List Int) × Int × Int) × List (Int × Int × List Int)) × Unit) ⊕ (((Int × List (Int × (Int × Int × Int × Int × Int × Int × Int × Int × ByteArray × List Int) × Int × Int) × List (Int × Int × List Int)) × (Int × List (Int × (Int × Int × Int × Int × Int × Int × Int × Int × ByteArray × List Int) × Int × Int) × List (Int × Int × List Int)) × Unit))) :=
 bif (decide (p3.2.1 < p3.1)) then
 bif (within p3.2.1 p3.2.2.1.2.1.length) then
 (g_retry_letter ((((p3.2.2.1.2.1.getD p3.2.1.toNat (0, ((0, (0, (0, (0, (0, (0, (0, (0, (ByteArray.empty, []))))))))), (0, 0))))).2).1)).bind fun y4 =>
 bif (within p3.2.1 p3.2.2.1.2.1.length) then
 some (Sum.inl (p3.1, (IntKind.i64.wrap (p3.2.1 + 1)), (p3.2.2.1.1, ((p3.2.2.1.2.1.set p3.2.1.toNat (((p3.2.2.1.2.1.getD p3.2.1.toNat (0, ((0, (0, (0, (0, (0, (0, (0, (0, (ByteArray.empty, []))))))))), (0, 0))))).1, (y4, ((((p3.2.2.1.2.1.getD p3.2.1.toNat (0, ((0, (0, (0, (0, (0, (0, (0, (0, (ByteArray.empty, []))))))))), (0, 0))))).2).2)))), p3.2.2.1.2.2)), p3.2.2.2.1, ()))
 else none
 else none
 else
 some (Sum.inr (p3.2.2.1, p3.2.2.2.1, ()))
noncomputable def g_retry_owned_r2 (p6 : Int × Int × (Int × List (Int × (Int × Int × Int × Int × Int × Int × Int × Int × ByteArray × List Int) × Int × Int) × List (Int × Int × List Int)) × (Int × List (Int × (Int × Int × Int × Int × Int × Int × Int × Int × ByteArray × List Int) × Int × Int) × List (Int × Int × List Int)) × Unit) : Option ((Int × Int × (Int × List (Int × (Int × Int × Int × Int × Int × Int × Int × Int × ByteArray × List Int) × Int × Int) × List (Int × Int × List Int)) × (Int × List (Int × (Int × Int × Int × Int × Int × Int × Int × Int × ByteArray × List Int) × Int × Int) × List (Int × Int × List Int)) × Unit) ⊕ (((Int × List (Int × (Int × Int × Int × Int × Int × Int × Int × Int × ByteArray × List Int) × Int × Int) × List (Int × Int × List Int)) × (Int × List (Int × (Int × Int × Int × Int × Int × Int × Int × Int × ByteArray × List Int) × Int × Int) × List (Int × Int × List Int)) × Unit))) :=
 bif (decide (p6.2.1 < p6.1)) then
 bif (within p6.2.1 p6.2.2.1.2.2.length) then
 (g_slices_Clone_Sint_int ((((p6.2.2.1.2.2.getD p6.2.1.toNat (0, (0, [])))).2).2)).bind fun y7 =>
 bif (within p6.2.1 p6.2.2.1.2.2.length) then
 some (Sum.inl (p6.1, (IntKind.i64.wrap (p6.2.1 + 1)), (p6.2.2.1.1, (p6.2.2.1.2.1, (p6.2.2.1.2.2.set p6.2.1.toNat (((p6.2.2.1.2.2.getD p6.2.1.toNat (0, (0, [])))).1, ((((p6.2.2.1.2.2.getD p6.2.1.toNat (0, (0, [])))).2).1, y7))))), p6.2.2.2.1, ()))
 else none
 else none
 else
 some (Sum.inr (p6.2.2.1, p6.2.2.2.1, ()))
noncomputable def g_retry_owned (a0 : Int × List (Int × (Int × Int × Int × Int × Int × Int × Int × Int × ByteArray × List Int) × Int × Int) × List (Int × Int × List Int)) : Option (Int × List (Int × (Int × Int × Int × Int × Int × Int × Int × Int × ByteArray × List Int) × Int × Int) × List (Int × Int × List Int)) :=
 (g_slices_Clone_Sapi_Send_api_Send a0.2.1).bind fun y1 =>
 (g_slices_Clone_Sapi_Heard_api_Heard a0.2.2).bind fun y2 =>
 (iter (g_retry_owned_r1) ((y1.length : Int), 0, (a0.1, (y1, y2)), (0, ([], [])), ())).bind fun j5 => 
 (iter (g_retry_owned_r2) ((j5.1.2.2.length : Int), 0, j5.1, j5.2.1, ())).bind fun j8 => 
 some j8.1
noncomputable def g_retry_Post (a0 : Int × List (Int × (Int × Int × Int × Int × Int × Int × Int × Int × ByteArray × List Int) × Int × Int) × List (Int × Int × List Int)) (a1 : Int × Int × Int × Int × Int × Int × Int × Int × ByteArray × List Int) (a2 : Int) : Option ((Int × List (Int × (Int × Int × Int × Int × Int × Int × Int × Int × ByteArray × List Int) × Int × Int) × List (Int × Int × List Int)) × (Int × Int × Int × Int × Int × Int × Int × Int × ByteArray × List Int) × Int) :=
 ((g_retry_timely a0 a2).bind fun y1 =>
 bif (!y1) then
 some (a2, true, a0, (a1.1, (a1.2.1, (a1.2.2.1, (a1.2.2.2.1, (a0.1, a1.2.2.2.2.2))))), (0, ([], [])), (0, (0, (0, (0, (0, (0, (0, (0, (ByteArray.empty, []))))))))), ())
 else
 (g_wire_Check (a1.1, (a1.2.1, (a1.2.2.1, (a1.2.2.2.1, (a0.1, a1.2.2.2.2.2)))))).bind fun y2 =>
 some (a2, (y2 != 0), a0, (a1.1, (a1.2.1, (a1.2.2.1, (a1.2.2.2.1, (a0.1, a1.2.2.2.2.2))))), (0, ([], [])), (0, (0, (0, (0, (0, (0, (0, (0, (ByteArray.empty, []))))))))), ()) : Option ((Int × Bool × (Int × List (Int × (Int × Int × Int × Int × Int × Int × Int × Int × ByteArray × List Int) × Int × Int) × List (Int × Int × List Int)) × (Int × Int × Int × Int × Int × Int × Int × Int × ByteArray × List Int) × (Int × List (Int × (Int × Int × Int × Int × Int × Int × Int × Int × ByteArray × List Int) × Int × Int) × List (Int × Int × List Int)) × (Int × Int × Int × Int × Int × Int × Int × Int × ByteArray × List Int) × Unit))).bind fun j3 => 
 bif j3.2.1 then
 some ((0, ([], [])), ((0, (0, (0, (0, (0, (0, (0, (0, (ByteArray.empty, []))))))))), 1))
 else
 (bif (j3.2.2.1.1 == 1073741824) then
 some (j3.1, true, j3.2.2.1, j3.2.2.2.1, j3.2.2.2.2.1, j3.2.2.2.2.2.1, ())
 else
 some (j3.1, (decide ((j3.2.2.1.2.1.length : Int) ≥ 64)), j3.2.2.1, j3.2.2.2.1, j3.2.2.2.2.1, j3.2.2.2.2.2.1, ()) : Option ((Int × Bool × (Int × List (Int × (Int × Int × Int × Int × Int × Int × Int × Int × ByteArray × List Int) × Int × Int) × List (Int × Int × List Int)) × (Int × Int × Int × Int × Int × Int × Int × Int × ByteArray × List Int) × (Int × List (Int × (Int × Int × Int × Int × Int × Int × Int × Int × ByteArray × List Int) × Int × Int) × List (Int × Int × List Int)) × (Int × Int × Int × Int × Int × Int × Int × Int × ByteArray × List Int) × Unit))).bind fun j4 => 
 bif j4.2.1 then
 some ((0, ([], [])), ((0, (0, (0, (0, (0, (0, (0, (0, (ByteArray.empty, []))))))))), 2))
 else
 (g_retry_owned j4.2.2.1).bind fun y5 =>
 (g_retry_letter j4.2.2.2.1).bind fun y6 =>
 bif (room 128 (y5.2.1 ++ [(j4.2.2.2.1.2.2.2.2.1, (y6, (4, (IntKind.i64.wrap (j4.1 + 5)))))]).length) then
 (g_retry_letter j4.2.2.2.1).bind fun y7 =>
 some (((IntKind.i64.wrap (y5.1 + 1)), ((y5.2.1 ++ [(j4.2.2.2.1.2.2.2.2.1, (y6, (4, (IntKind.i64.wrap (j4.1 + 5)))))]), y5.2.2)), (y7, 0))
 else none
noncomputable def g_retry_Tick_r1 (p3 : List (Int × (Int × Int × Int × Int × Int × Int × Int × Int × ByteArray × List Int) × Int × Int) × Int × Int × Int × (List (Int × Int × Int × Int × Int × Int × Int × Int × ByteArray × List Int)) × Unit) : Option ((List (Int × (Int × Int × Int × Int × Int × Int × Int × Int × ByteArray × List Int) × Int × Int) × Int × Int × Int × (List (Int × Int × Int × Int × Int × Int × Int × Int × ByteArray × List Int)) × Unit) ⊕ ((List (Int × (Int × Int × Int × Int × Int × Int × Int × Int × ByteArray × List Int) × Int × Int) × Int × (List (Int × Int × Int × Int × Int × Int × Int × Int × ByteArray × List Int)) × Unit) ⊕ (List (Int × (Int × Int × Int × Int × Int × Int × Int × Int × ByteArray × List Int) × Int × Int) × Int × Int × (List (Int × Int × Int × Int × Int × Int × Int × Int × ByteArray × List Int)) × Unit))) :=
 bif (decide (p3.2.2.1 < p3.2.1)) then
 bif (within p3.2.2.1 p3.1.length) then
 (bif (decide (((((p3.1.getD p3.2.2.1.toNat (0, ((0, (0, (0, (0, (0, (0, (0, (0, (ByteArray.empty, []))))))))), (0, 0))))).2).2).2 ≤ p3.2.2.2.1)) then
 some ((p3.1.getD p3.2.2.1.toNat (0, ((0, (0, (0, (0, (0, (0, (0, (0, (ByteArray.empty, []))))))))), (0, 0)))), ((((((p3.1.getD p3.2.2.1.toNat (0, ((0, (0, (0, (0, (0, (0, (0, (0, (ByteArray.empty, []))))))))), (0, 0))))).2).2).1) == 0), p3.2.2.2.1, p3.2.2.2.2.1, (p3.1.getD p3.2.2.1.toNat (0, ((0, (0, (0, (0, (0, (0, (0, (0, (ByteArray.empty, []))))))))), (0, 0)))), ())
 else
 some ((p3.1.getD p3.2.2.1.toNat (0, ((0, (0, (0, (0, (0, (0, (0, (0, (ByteArray.empty, []))))))))), (0, 0)))), false, p3.2.2.2.1, p3.2.2.2.2.1, (p3.1.getD p3.2.2.1.toNat (0, ((0, (0, (0, (0, (0, (0, (0, (0, (ByteArray.empty, []))))))))), (0, 0)))), ()) : Option (((Int × (Int × Int × Int × Int × Int × Int × Int × Int × ByteArray × List Int) × Int × Int) × Bool × Int × (List (Int × Int × Int × Int × Int × Int × Int × Int × ByteArray × List Int)) × (Int × (Int × Int × Int × Int × Int × Int × Int × Int × ByteArray × List Int) × Int × Int) × Unit))).bind fun j4 => 
 (bif j4.2.1 then
 (g_retry_letter j4.2.2.2.2.1.2.1).bind fun y5 =>
 bif (room 104 (j4.2.2.2.1 ++ [y5]).length) then
 some (j4.1, j4.2.1, j4.2.2.1, (j4.2.2.2.1 ++ [y5]), ())
 else none
 else
 some (j4.1, j4.2.1, j4.2.2.1, j4.2.2.2.1, ()) : Option (((Int × (Int × Int × Int × Int × Int × Int × Int × Int × ByteArray × List Int) × Int × Int) × Bool × Int × (List (Int × Int × Int × Int × Int × Int × Int × Int × ByteArray × List Int)) × Unit))).bind fun j6 => 
 bif j6.2.1 then
 some (Sum.inr (Sum.inr (p3.1, p3.2.2.1, j6.2.2.1, j6.2.2.2.1, ())))
 else
 some (Sum.inl (p3.1, p3.2.1, (IntKind.i64.wrap (p3.2.2.1 + 1)), j6.2.2.1, j6.2.2.2.1, ()))
 else none
 else
 some (Sum.inr (Sum.inl (p3.1, p3.2.2.2.1, p3.2.2.2.2.1, ())))
noncomputable def g_retry_Tick_r2 (p11 : List (Int × (Int × Int × Int × Int × Int × Int × Int × Int × ByteArray × List Int) × Int × Int) × Int × Int × Int × (List (Int × Int × Int × Int × Int × Int × Int × Int × ByteArray × List Int)) × Unit) : Option ((List (Int × (Int × Int × Int × Int × Int × Int × Int × Int × ByteArray × List Int) × Int × Int) × Int × Int × Int × (List (Int × Int × Int × Int × Int × Int × Int × Int × ByteArray × List Int)) × Unit) ⊕ ((List (Int × (Int × Int × Int × Int × Int × Int × Int × Int × ByteArray × List Int) × Int × Int) × Int × Int × (List (Int × Int × Int × Int × Int × Int × Int × Int × ByteArray × List Int)) × Unit))) :=
 bif (decide (p11.2.2.1 < (p11.1.length : Int))) then
 (bif (within p11.2.2.1 p11.1.length) then
 (bif (decide (((((p11.1.getD p11.2.2.1.toNat (0, ((0, (0, (0, (0, (0, (0, (0, (0, (ByteArray.empty, []))))))))), (0, 0))))).2).2).2 ≤ p11.2.2.2.1)) then
 some ((p11.1.getD p11.2.2.1.toNat (0, ((0, (0, (0, (0, (0, (0, (0, (0, (ByteArray.empty, []))))))))), (0, 0)))), ((((((p11.1.getD p11.2.2.1.toNat (0, ((0, (0, (0, (0, (0, (0, (0, (0, (ByteArray.empty, []))))))))), (0, 0))))).2).2).1) == 0), p11.2.2.2.1, p11.2.2.2.2.1, (p11.1.getD p11.2.2.1.toNat (0, ((0, (0, (0, (0, (0, (0, (0, (0, (ByteArray.empty, []))))))))), (0, 0)))), ())
 else
 some ((p11.1.getD p11.2.2.1.toNat (0, ((0, (0, (0, (0, (0, (0, (0, (0, (ByteArray.empty, []))))))))), (0, 0)))), false, p11.2.2.2.1, p11.2.2.2.2.1, (p11.1.getD p11.2.2.1.toNat (0, ((0, (0, (0, (0, (0, (0, (0, (0, (ByteArray.empty, []))))))))), (0, 0)))), ()) : Option (((Int × (Int × Int × Int × Int × Int × Int × Int × Int × ByteArray × List Int) × Int × Int) × Bool × Int × (List (Int × Int × Int × Int × Int × Int × Int × Int × ByteArray × List Int)) × (Int × (Int × Int × Int × Int × Int × Int × Int × Int × ByteArray × List Int) × Int × Int) × Unit))).bind fun j12 => 
 (bif j12.2.1 then
 (g_retry_letter j12.2.2.2.2.1.2.1).bind fun y13 =>
 bif (room 104 (j12.2.2.2.1 ++ [y13]).length) then
 some (j12.1, j12.2.1, j12.2.2.1, (j12.2.2.2.1 ++ [y13]), ())
 else none
 else
 some (j12.1, j12.2.1, j12.2.2.1, j12.2.2.2.1, ()) : Option (((Int × (Int × Int × Int × Int × Int × Int × Int × Int × ByteArray × List Int) × Int × Int) × Bool × Int × (List (Int × Int × Int × Int × Int × Int × Int × Int × ByteArray × List Int)) × Unit))).bind fun j14 => 
 bif (!j14.2.1) then
 bif (within p11.2.1 p11.1.length) then
 some ((p11.1.set p11.2.1.toNat (p11.1.getD p11.2.2.1.toNat (0, ((0, (0, (0, (0, (0, (0, (0, (0, (ByteArray.empty, []))))))))), (0, 0))))), (IntKind.i64.wrap (p11.2.1 + 1)), p11.2.2.1, j14.2.2.1, j14.2.2.2.1, ())
 else none
 else
 some (p11.1, p11.2.1, p11.2.2.1, j14.2.2.1, j14.2.2.2.1, ())
 else none : Option ((List (Int × (Int × Int × Int × Int × Int × Int × Int × Int × ByteArray × List Int) × Int × Int) × Int × Int × Int × (List (Int × Int × Int × Int × Int × Int × Int × Int × ByteArray × List Int)) × Unit))).bind fun j15 => 
 some (Sum.inl (j15.1, j15.2.1, (IntKind.i64.wrap (j15.2.2.1 + 1)), j15.2.2.2.1, j15.2.2.2.2.1, ()))
 else
 some (Sum.inr (p11.1, p11.2.1, p11.2.2.2.1, p11.2.2.2.2.1, ()))
noncomputable def g_retry_Tick_r3 (p18 : (List (Int × Int × Int × Int × Int × Int × Int × Int × ByteArray × List Int)) × Int × Int × (Int × List (Int × (Int × Int × Int × Int × Int × Int × Int × Int × ByteArray × List Int) × Int × Int) × List (Int × Int × List Int)) × Int × (Int × List (Int × (Int × Int × Int × Int × Int × Int × Int × Int × ByteArray × List Int) × Int × Int) × List (Int × Int × List Int)) × (List (Int × Int × Int × Int × Int × Int × Int × Int × ByteArray × List Int)) × Unit) : Option (((List (Int × Int × Int × Int × Int × Int × Int × Int × ByteArray × List Int)) × Int × Int × (Int × List (Int × (Int × Int × Int × Int × Int × Int × Int × Int × ByteArray × List Int) × Int × Int) × List (Int × Int × List Int)) × Int × (Int × List (Int × (Int × Int × Int × Int × Int × Int × Int × Int × ByteArray × List Int) × Int × Int) × List (Int × Int × List Int)) × (List (Int × Int × Int × Int × Int × Int × Int × Int × ByteArray × List Int)) × Unit) ⊕ (((List (Int × Int × Int × Int × Int × Int × Int × Int × ByteArray × List Int)) × (Int × List (Int × (Int × Int × Int × Int × Int × Int × Int × Int × ByteArray × List Int) × Int × Int) × List (Int × Int × List Int)) × (Int × List (Int × (Int × Int × Int × Int × Int × Int × Int × Int × ByteArray × List Int) × Int × Int) × List (Int × Int × List Int)) × (List (Int × Int × Int × Int × Int × Int × Int × Int × ByteArray × List Int)) × Unit))) :=
 bif (decide (p18.2.2.1 < p18.2.1)) then
 (bif (within p18.2.2.1 p18.2.2.2.1.2.1.length) then
 bif (decide (((((p18.2.2.2.1.2.1.getD p18.2.2.1.toNat (0, ((0, (0, (0, (0, (0, (0, (0, (0, (ByteArray.empty, []))))))))), (0, 0))))).2).2).2 ≤ p18.2.2.2.2.1)) then
 (g_retry_letter ((((p18.2.2.2.1.2.1.getD p18.2.2.1.toNat (0, ((0, (0, (0, (0, (0, (0, (0, (0, (ByteArray.empty, []))))))))), (0, 0))))).2).1)).bind fun y19 =>
 bif (room 104 (p18.1 ++ [y19]).length) then
 some ((p18.1 ++ [y19]), p18.2.1, p18.2.2.1, (p18.2.2.2.1.1, (((p18.2.2.2.1.2.1.set p18.2.2.1.toNat (((p18.2.2.2.1.2.1.getD p18.2.2.1.toNat (0, ((0, (0, (0, (0, (0, (0, (0, (0, (ByteArray.empty, []))))))))), (0, 0))))).1, (((((p18.2.2.2.1.2.1.getD p18.2.2.1.toNat (0, ((0, (0, (0, (0, (0, (0, (0, (0, (ByteArray.empty, []))))))))), (0, 0))))).2).1), ((IntKind.i64.wrap ((((((p18.2.2.2.1.2.1.getD p18.2.2.1.toNat (0, ((0, (0, (0, (0, (0, (0, (0, (0, (ByteArray.empty, []))))))))), (0, 0))))).2).2).1) - 1)), ((((p18.2.2.2.1.2.1.getD p18.2.2.1.toNat (0, ((0, (0, (0, (0, (0, (0, (0, (0, (ByteArray.empty, []))))))))), (0, 0))))).2).2).2)))).set p18.2.2.1.toNat ((((p18.2.2.2.1.2.1.set p18.2.2.1.toNat (((p18.2.2.2.1.2.1.getD p18.2.2.1.toNat (0, ((0, (0, (0, (0, (0, (0, (0, (0, (ByteArray.empty, []))))))))), (0, 0))))).1, (((((p18.2.2.2.1.2.1.getD p18.2.2.1.toNat (0, ((0, (0, (0, (0, (0, (0, (0, (0, (ByteArray.empty, []))))))))), (0, 0))))).2).1), ((IntKind.i64.wrap ((((((p18.2.2.2.1.2.1.getD p18.2.2.1.toNat (0, ((0, (0, (0, (0, (0, (0, (0, (0, (ByteArray.empty, []))))))))), (0, 0))))).2).2).1) - 1)), ((((p18.2.2.2.1.2.1.getD p18.2.2.1.toNat (0, ((0, (0, (0, (0, (0, (0, (0, (0, (ByteArray.empty, []))))))))), (0, 0))))).2).2).2)))).getD p18.2.2.1.toNat (0, ((0, (0, (0, (0, (0, (0, (0, (0, (ByteArray.empty, []))))))))), (0, 0))))).1, ((((((p18.2.2.2.1.2.1.set p18.2.2.1.toNat (((p18.2.2.2.1.2.1.getD p18.2.2.1.toNat (0, ((0, (0, (0, (0, (0, (0, (0, (0, (ByteArray.empty, []))))))))), (0, 0))))).1, (((((p18.2.2.2.1.2.1.getD p18.2.2.1.toNat (0, ((0, (0, (0, (0, (0, (0, (0, (0, (ByteArray.empty, []))))))))), (0, 0))))).2).1), ((IntKind.i64.wrap ((((((p18.2.2.2.1.2.1.getD p18.2.2.1.toNat (0, ((0, (0, (0, (0, (0, (0, (0, (0, (ByteArray.empty, []))))))))), (0, 0))))).2).2).1) - 1)), ((((p18.2.2.2.1.2.1.getD p18.2.2.1.toNat (0, ((0, (0, (0, (0, (0, (0, (0, (0, (ByteArray.empty, []))))))))), (0, 0))))).2).2).2)))).getD p18.2.2.1.toNat (0, ((0, (0, (0, (0, (0, (0, (0, (0, (ByteArray.empty, []))))))))), (0, 0))))).2).1), ((((((p18.2.2.2.1.2.1.set p18.2.2.1.toNat (((p18.2.2.2.1.2.1.getD p18.2.2.1.toNat (0, ((0, (0, (0, (0, (0, (0, (0, (0, (ByteArray.empty, []))))))))), (0, 0))))).1, (((((p18.2.2.2.1.2.1.getD p18.2.2.1.toNat (0, ((0, (0, (0, (0, (0, (0, (0, (0, (ByteArray.empty, []))))))))), (0, 0))))).2).1), ((IntKind.i64.wrap ((((((p18.2.2.2.1.2.1.getD p18.2.2.1.toNat (0, ((0, (0, (0, (0, (0, (0, (0, (0, (ByteArray.empty, []))))))))), (0, 0))))).2).2).1) - 1)), ((((p18.2.2.2.1.2.1.getD p18.2.2.1.toNat (0, ((0, (0, (0, (0, (0, (0, (0, (0, (ByteArray.empty, []))))))))), (0, 0))))).2).2).2)))).getD p18.2.2.1.toNat (0, ((0, (0, (0, (0, (0, (0, (0, (0, (ByteArray.empty, []))))))))), (0, 0))))).2).2).1, (IntKind.i64.wrap (p18.2.2.2.2.1 + 5)))))), p18.2.2.2.1.2.2)), p18.2.2.2.2.1, p18.2.2.2.2.2.1, p18.2.2.2.2.2.2.1, ())
 else none
 else
 some (p18.1, p18.2.1, p18.2.2.1, p18.2.2.2.1, p18.2.2.2.2.1, p18.2.2.2.2.2.1, p18.2.2.2.2.2.2.1, ())
 else none : Option (((List (Int × Int × Int × Int × Int × Int × Int × Int × ByteArray × List Int)) × Int × Int × (Int × List (Int × (Int × Int × Int × Int × Int × Int × Int × Int × ByteArray × List Int) × Int × Int) × List (Int × Int × List Int)) × Int × (Int × List (Int × (Int × Int × Int × Int × Int × Int × Int × Int × ByteArray × List Int) × Int × Int) × List (Int × Int × List Int)) × (List (Int × Int × Int × Int × Int × Int × Int × Int × ByteArray × List Int)) × Unit))).bind fun j20 => 
 some (Sum.inl (j20.1, j20.2.1, (IntKind.i64.wrap (j20.2.2.1 + 1)), j20.2.2.2.1, j20.2.2.2.2.1, j20.2.2.2.2.2.1, j20.2.2.2.2.2.2.1, ()))
 else
 some (Sum.inr (p18.1, p18.2.2.2.1, p18.2.2.2.2.2.1, p18.2.2.2.2.2.2.1, ()))
noncomputable def g_retry_Tick (a0 : Int × List (Int × (Int × Int × Int × Int × Int × Int × Int × Int × ByteArray × List Int) × Int × Int) × List (Int × Int × List Int)) (a1 : Int) : Option ((Int × List (Int × (Int × Int × Int × Int × Int × Int × Int × Int × ByteArray × List Int) × Int × Int) × List (Int × Int × List Int)) × (List (Int × Int × Int × Int × Int × Int × Int × Int × ByteArray × List Int)) × (List (Int × Int × Int × Int × Int × Int × Int × Int × ByteArray × List Int)) × Int) :=
 (g_retry_timely a0 a1).bind fun y1 =>
 bif (!y1) then
 some ((0, ([], [])), ([], ([], 1)))
 else
 (g_retry_owned a0).bind fun y2 =>
 (((iter (g_retry_Tick_r1) (y2.2.1, (y2.2.1.length : Int), 0, a1, [], ())).bind fun j7 => 
 (match j7 with
 | .inl j8 =>
 (some (j8.1, (-1), j8.2.1, j8.2.2.1, ()))
 | .inr j9 =>
 (some (j9.1, j9.2.1, j9.2.2.1, j9.2.2.2.1, ()))) : Option ((List (Int × (Int × Int × Int × Int × Int × Int × Int × Int × ByteArray × List Int) × Int × Int) × Int × Int × (List (Int × Int × Int × Int × Int × Int × Int × Int × ByteArray × List Int)) × Unit))).bind fun j10 => 
 bif (j10.2.1 == (-1)) then
 some ([], (y2.1, (j10.1, y2.2.2)), j10.2.2.1, (0, ([], [])), j10.2.2.2.1, ())
 else
 (iter (g_retry_Tick_r2) (j10.1, j10.2.1, (IntKind.i64.wrap (j10.2.1 + 1)), j10.2.2.1, j10.2.2.2.1, ())).bind fun j16 => 
 bif (cutG j16.2.1 (j16.1.length : Int) j16.1.length) then
 bif (cutG 0 j16.2.1 ((copyL j16.1 j16.2.1.toNat (List.replicate ((j16.1.length : Int).toNat - j16.2.1.toNat) (0, ((0, (0, (0, (0, (0, (0, (0, (0, (ByteArray.empty, []))))))))), (0, 0))))).length)) then
 some ([], (y2.1, ((((copyL j16.1 j16.2.1.toNat (List.replicate ((j16.1.length : Int).toNat - j16.2.1.toNat) (0, ((0, (0, (0, (0, (0, (0, (0, (0, (ByteArray.empty, []))))))))), (0, 0))))).drop 0).take (j16.2.1.toNat - 0)), y2.2.2)), j16.2.2.1, (0, ([], [])), j16.2.2.2.1, ())
 else none
 else none : Option (((List (Int × Int × Int × Int × Int × Int × Int × Int × ByteArray × List Int)) × (Int × List (Int × (Int × Int × Int × Int × Int × Int × Int × Int × ByteArray × List Int) × Int × Int) × List (Int × Int × List Int)) × Int × (Int × List (Int × (Int × Int × Int × Int × Int × Int × Int × Int × ByteArray × List Int) × Int × Int) × List (Int × Int × List Int)) × (List (Int × Int × Int × Int × Int × Int × Int × Int × ByteArray × List Int)) × Unit))).bind fun j17 => 
 (iter (g_retry_Tick_r3) (j17.1, (j17.2.1.2.1.length : Int), 0, j17.2.1, j17.2.2.1, j17.2.2.2.1, j17.2.2.2.2.1, ())).bind fun j21 => 
 some (j21.2.1, (j21.1, (j21.2.2.2.1, 0)))
noncomputable def g_retry_Answered_r1 (p3 : List (Int × (Int × Int × Int × Int × Int × Int × Int × Int × ByteArray × List Int) × Int × Int) × Int × Int × Int × Unit) : Option ((List (Int × (Int × Int × Int × Int × Int × Int × Int × Int × ByteArray × List Int) × Int × Int) × Int × Int × Int × Unit) ⊕ ((List (Int × (Int × Int × Int × Int × Int × Int × Int × Int × ByteArray × List Int) × Int × Int) × Int × Unit) ⊕ (List (Int × (Int × Int × Int × Int × Int × Int × Int × Int × ByteArray × List Int) × Int × Int) × Int × Int × Unit))) :=
 bif (decide (p3.2.2.1 < p3.2.1)) then
 bif (within p3.2.2.1 p3.1.length) then
 bif ((((p3.1.getD p3.2.2.1.toNat (0, ((0, (0, (0, (0, (0, (0, (0, (0, (ByteArray.empty, []))))))))), (0, 0))))).1) == p3.2.2.2.1) then
 some (Sum.inr (Sum.inr (p3.1, p3.2.2.1, p3.2.2.2.1, ())))
 else
 some (Sum.inl (p3.1, p3.2.1, (IntKind.i64.wrap (p3.2.2.1 + 1)), p3.2.2.2.1, ()))
 else none
 else
 some (Sum.inr (Sum.inl (p3.1, p3.2.2.2.1, ())))
noncomputable def g_retry_Answered_r2 (p8 : List (Int × (Int × Int × Int × Int × Int × Int × Int × Int × ByteArray × List Int) × Int × Int) × Int × Int × Int × Unit) : Option ((List (Int × (Int × Int × Int × Int × Int × Int × Int × Int × ByteArray × List Int) × Int × Int) × Int × Int × Int × Unit) ⊕ ((List (Int × (Int × Int × Int × Int × Int × Int × Int × Int × ByteArray × List Int) × Int × Int) × Int × Int × Unit))) :=
 bif (decide (p8.2.2.1 < (p8.1.length : Int))) then
 (bif (within p8.2.2.1 p8.1.length) then
 bif (!((((p8.1.getD p8.2.2.1.toNat (0, ((0, (0, (0, (0, (0, (0, (0, (0, (ByteArray.empty, []))))))))), (0, 0))))).1) == p8.2.2.2.1)) then
 bif (within p8.2.1 p8.1.length) then
 some ((p8.1.set p8.2.1.toNat (p8.1.getD p8.2.2.1.toNat (0, ((0, (0, (0, (0, (0, (0, (0, (0, (ByteArray.empty, []))))))))), (0, 0))))), (IntKind.i64.wrap (p8.2.1 + 1)), p8.2.2.1, p8.2.2.2.1, ())
 else none
 else
 some (p8.1, p8.2.1, p8.2.2.1, p8.2.2.2.1, ())
 else none : Option ((List (Int × (Int × Int × Int × Int × Int × Int × Int × Int × ByteArray × List Int) × Int × Int) × Int × Int × Int × Unit))).bind fun j9 => 
 some (Sum.inl (j9.1, j9.2.1, (IntKind.i64.wrap (j9.2.2.1 + 1)), j9.2.2.2.1, ()))
 else
 some (Sum.inr (p8.1, p8.2.1, p8.2.2.2.1, ()))
noncomputable def g_retry_Answered (a0 : Int × List (Int × (Int × Int × Int × Int × Int × Int × Int × Int × ByteArray × List Int) × Int × Int) × List (Int × Int × List Int)) (a1 : Int) : Option ((Int × List (Int × (Int × Int × Int × Int × Int × Int × Int × Int × ByteArray × List Int) × Int × Int) × List (Int × Int × List Int)) × Bool × Int) :=
 (g_retry_Check a0).bind fun y1 =>
 bif (y1 != 0) then
 some ((0, ([], [])), (false, y1))
 else
 (g_retry_owned a0).bind fun y2 =>
 (((iter (g_retry_Answered_r1) (y2.2.1, (y2.2.1.length : Int), 0, a1, ())).bind fun j4 => 
 (match j4 with
 | .inl j5 =>
 (some (j5.1, (-1), j5.2.1, ()))
 | .inr j6 =>
 (some (j6.1, j6.2.1, j6.2.2.1, ()))) : Option ((List (Int × (Int × Int × Int × Int × Int × Int × Int × Int × ByteArray × List Int) × Int × Int) × Int × Int × Unit))).bind fun j7 => 
 bif (j7.2.1 == (-1)) then
 some ((a0.2.1.length : Int), (y2.1, (j7.1, y2.2.2)), (0, ([], [])), ())
 else
 (iter (g_retry_Answered_r2) (j7.1, j7.2.1, (IntKind.i64.wrap (j7.2.1 + 1)), j7.2.2.1, ())).bind fun j10 => 
 bif (cutG j10.2.1 (j10.1.length : Int) j10.1.length) then
 bif (cutG 0 j10.2.1 ((copyL j10.1 j10.2.1.toNat (List.replicate ((j10.1.length : Int).toNat - j10.2.1.toNat) (0, ((0, (0, (0, (0, (0, (0, (0, (0, (ByteArray.empty, []))))))))), (0, 0))))).length)) then
 some ((a0.2.1.length : Int), (y2.1, ((((copyL j10.1 j10.2.1.toNat (List.replicate ((j10.1.length : Int).toNat - j10.2.1.toNat) (0, ((0, (0, (0, (0, (0, (0, (0, (0, (ByteArray.empty, []))))))))), (0, 0))))).drop 0).take (j10.2.1.toNat - 0)), y2.2.2)), (0, ([], [])), ())
 else none
 else none : Option ((Int × (Int × List (Int × (Int × Int × Int × Int × Int × Int × Int × Int × ByteArray × List Int) × Int × Int) × List (Int × Int × List Int)) × (Int × List (Int × (Int × Int × Int × Int × Int × Int × Int × Int × ByteArray × List Int) × Int × Int) × List (Int × Int × List Int)) × Unit))).bind fun j11 => 
 some (j11.2.1, ((decide ((j11.2.1.2.1.length : Int) < j11.1)), 0))
noncomputable def g_law17_live : Option (Bool) :=
 (g_retry_New).bind fun y1 =>
 (g_retry_Post y1 (1, (0, (0, (0, (0, (0, (0, (0, ((ByteArray.mk #[97]), []))))))))) 10).bind fun y2 =>
 (g_retry_Tick y2.1 15).bind fun y3 =>
 (g_retry_Answered y3.1 y2.2.1.2.2.2.2.1).bind fun y4 =>
 (g_retry_Tick y4.1 100).bind fun y5 =>
 bif (y2.2.2 == 0) then
 bif (y2.2.1.2.2.2.2.1 == 1) then
 bif (y3.2.2.2 == 0) then
 bif ((y3.2.1.length : Int) == 1) then
 bif ((y3.2.2.1.length : Int) == 0) then
 bif y4.2.1 then
 bif (y4.2.2 == 0) then
 bif ((IntKind.i64.wrap ((y5.2.1.length : Int) + (y5.2.2.1.length : Int))) == 0) then
 some (y5.2.2.2 == 0)
 else
 some false
 else
 some false
 else
 some false
 else
 some false
 else
 some false
 else
 some false
 else
 some false
 else
 some false
noncomputable def g_r15_Big (a0 : Int × Int × Int × Int × Int × Int × Int × Int × ByteArray × List Int) : Option (Bool) :=
 some (decide ((IntKind.i64.wrap ((a0.2.2.2.2.2.2.2.2.1.size : Int) + (a0.2.2.2.2.2.2.2.2.2.length : Int))) > 2000))
noncomputable def g_law17_few_r1 (p1 : (List (Int × (Int × Int × Int × Int × Int × Int × Int × Int × ByteArray × List Int) × Int × Int)) × Int × Int × (Int × List (Int × (Int × Int × Int × Int × Int × Int × Int × Int × ByteArray × List Int) × Int × Int) × List (Int × Int × List Int)) × Unit) : Option (((List (Int × (Int × Int × Int × Int × Int × Int × Int × Int × ByteArray × List Int) × Int × Int)) × Int × Int × (Int × List (Int × (Int × Int × Int × Int × Int × Int × Int × Int × ByteArray × List Int) × Int × Int) × List (Int × Int × List Int)) × Unit) ⊕ (((Int × List (Int × (Int × Int × Int × Int × Int × Int × Int × Int × ByteArray × List Int) × Int × Int) × List (Int × Int × List Int)) × Unit) ⊕ (Bool × Unit))) :=
 bif (decide (p1.2.2.1 < p1.2.1)) then
 bif (within p1.2.2.1 p1.1.length) then
 (g_r15_Big ((((p1.1.getD p1.2.2.1.toNat (0, ((0, (0, (0, (0, (0, (0, (0, (0, (ByteArray.empty, []))))))))), (0, 0))))).2).1)).bind fun y2 =>
 bif y2 then
 some (Sum.inr (Sum.inr (false, ())))
 else
 some (Sum.inl (p1.1, p1.2.1, (IntKind.i64.wrap (p1.2.2.1 + 1)), p1.2.2.2.1, ()))
 else none
 else
 some (Sum.inr (Sum.inl (p1.2.2.2.1, ())))
noncomputable def g_law17_few_r2 (p6 : (List (Int × Int × List Int)) × Int × Int × (Int × List (Int × (Int × Int × Int × Int × Int × Int × Int × Int × ByteArray × List Int) × Int × Int) × List (Int × Int × List Int)) × Unit) : Option (((List (Int × Int × List Int)) × Int × Int × (Int × List (Int × (Int × Int × Int × Int × Int × Int × Int × Int × ByteArray × List Int) × Int × Int) × List (Int × Int × List Int)) × Unit) ⊕ (((Int × List (Int × (Int × Int × Int × Int × Int × Int × Int × Int × ByteArray × List Int) × Int × Int) × List (Int × Int × List Int)) × Unit) ⊕ (Bool × Unit))) :=
 bif (decide (p6.2.2.1 < p6.2.1)) then
 bif (within p6.2.2.1 p6.1.length) then
 bif (decide ((((((p6.1.getD p6.2.2.1.toNat (0, (0, [])))).2).2).length : Int) > 100)) then
 some (Sum.inr (Sum.inr (false, ())))
 else
 some (Sum.inl (p6.1, p6.2.1, (IntKind.i64.wrap (p6.2.2.1 + 1)), p6.2.2.2.1, ()))
 else none
 else
 some (Sum.inr (Sum.inl (p6.2.2.2.1, ())))
noncomputable def g_law17_few (a0 : Int × List (Int × (Int × Int × Int × Int × Int × Int × Int × Int × ByteArray × List Int) × Int × Int) × List (Int × Int × List Int)) : Option (Bool) :=
 (iter (g_law17_few_r1) (a0.2.1, (a0.2.1.length : Int), 0, a0, ())).bind fun j3 => 
 (match j3 with
 | .inl j4 =>
 ((iter (g_law17_few_r2) (j4.1.2.2, (j4.1.2.2.length : Int), 0, j4.1, ())).bind fun j7 => 
 (match j7 with
 | .inl j8 =>
 (bif (decide ((j8.1.2.1.length : Int) ≤ 100)) then
 some (decide ((j8.1.2.2.length : Int) ≤ 100))
 else
 some false)
 | .inr j9 =>
 (some j9.1)))
 | .inr j5 =>
 (some j5.1))
noncomputable def g_r15_first_r1 (p8 : ByteArray × Int × Int × Int × Unit) : Option ((ByteArray × Int × Int × Int × Unit) ⊕ ((Int × Int × Unit) ⊕ (Int × Int × Unit))) :=
 bif (decide (p8.2.2.2.1 < p8.2.1)) then
 bif (within p8.2.2.2.1 p8.1.size) then
 bif ((bitsI .and .u8 ((p8.1.data.getD p8.2.2.2.1.toNat 0).toNat : Int) 192) != 128) then
 some (Sum.inr (Sum.inr (0, 0, ())))
 else
 bif (within p8.2.2.2.1 p8.1.size) then
 some (Sum.inl (p8.1, p8.2.1, (bitsI .or .i64 (shlI .i64 p8.2.2.1 6) (IntKind.i64.wrap (bitsI .and .u8 ((p8.1.data.getD p8.2.2.2.1.toNat 0).toNat : Int) 63))), (IntKind.i64.wrap (p8.2.2.2.1 + 1)), ()))
 else none
 else none
 else
 some (Sum.inr (Sum.inl (p8.2.1, p8.2.2.1, ())))
noncomputable def g_r15_first (a0 : ByteArray) : Option (Int × Int) :=
 (bif (within 0 a0.size) then
 bif (decide ((IntKind.i64.wrap ((a0.data.getD 0 0).toNat : Int)) < 128)) then
 some (Sum.inr ((IntKind.i64.wrap ((a0.data.getD 0 0).toNat : Int)), 1, ()))
 else
 (bif (decide ((IntKind.i64.wrap ((a0.data.getD 0 0).toNat : Int)) ≥ 194)) then
 some (a0, 0, 0, (IntKind.i64.wrap ((a0.data.getD 0 0).toNat : Int)), (decide ((IntKind.i64.wrap ((a0.data.getD 0 0).toNat : Int)) < 224)), ())
 else
 some (a0, 0, 0, (IntKind.i64.wrap ((a0.data.getD 0 0).toNat : Int)), false, ()) : Option ((ByteArray × Int × Int × Int × Bool × Unit))).bind fun j1 => 
 bif j1.2.2.2.2.1 then
 some (Sum.inl (j1.1, 2, (bitsI .and .i64 j1.2.2.2.1 31), ()))
 else
 (bif (decide (j1.2.2.2.1 ≥ 224)) then
 some (j1.1, j1.2.1, j1.2.2.1, j1.2.2.2.1, (decide (j1.2.2.2.1 < 240)), ())
 else
 some (j1.1, j1.2.1, j1.2.2.1, j1.2.2.2.1, false, ()) : Option ((ByteArray × Int × Int × Int × Bool × Unit))).bind fun j2 => 
 bif j2.2.2.2.2.1 then
 some (Sum.inl (j2.1, 3, (bitsI .and .i64 j2.2.2.2.1 15), ()))
 else
 (bif (decide (j2.2.2.2.1 ≥ 240)) then
 some (j2.1, j2.2.1, j2.2.2.1, j2.2.2.2.1, (decide (j2.2.2.2.1 < 245)), ())
 else
 some (j2.1, j2.2.1, j2.2.2.1, j2.2.2.2.1, false, ()) : Option ((ByteArray × Int × Int × Int × Bool × Unit))).bind fun j3 => 
 bif j3.2.2.2.2.1 then
 some (Sum.inl (j3.1, 4, (bitsI .and .i64 j3.2.2.2.1 7), ()))
 else
 some (Sum.inl (j3.1, j3.2.1, j3.2.2.1, ()))
 else none : Option ((ByteArray × Int × Int × Unit) ⊕ (Int × Int × Unit))).bind fun j4 => 
 (match j4 with
 | .inl j5 =>
 ((bif (j5.2.1 == 0) then
 some (j5.1, j5.2.1, j5.2.2.1, true, ())
 else
 some (j5.1, j5.2.1, j5.2.2.1, (decide ((j5.1.size : Int) < j5.2.1)), ()) : Option ((ByteArray × Int × Int × Bool × Unit))).bind fun j7 => 
 bif j7.2.2.2.1 then
 some (0, 0)
 else
 (iter (g_r15_first_r1) (j7.1, j7.2.1, j7.2.2.1, 1, ())).bind fun j9 => 
 (match j9 with
 | .inl j10 =>
 ((bif (j10.1 == 3) then
 bif (decide (j10.2.1 < 2048)) then
 some (j10.1, j10.2.1, true, ())
 else
 bif (decide (j10.2.1 ≥ 55296)) then
 bif (decide (j10.2.1 < 57344)) then
 some (j10.1, j10.2.1, true, ())
 else
 bif (j10.1 == 4) then
 bif (decide (j10.2.1 < 65536)) then
 some (j10.1, j10.2.1, true, ())
 else
 some (j10.1, j10.2.1, (decide (j10.2.1 > 1114111)), ())
 else
 some (j10.1, j10.2.1, false, ())
 else
 bif (j10.1 == 4) then
 bif (decide (j10.2.1 < 65536)) then
 some (j10.1, j10.2.1, true, ())
 else
 some (j10.1, j10.2.1, (decide (j10.2.1 > 1114111)), ())
 else
 some (j10.1, j10.2.1, false, ())
 else
 bif (j10.1 == 4) then
 bif (decide (j10.2.1 < 65536)) then
 some (j10.1, j10.2.1, true, ())
 else
 some (j10.1, j10.2.1, (decide (j10.2.1 > 1114111)), ())
 else
 some (j10.1, j10.2.1, false, ()) : Option ((Int × Int × Bool × Unit))).bind fun j12 => 
 bif j12.2.2.1 then
 some (0, 0)
 else
 some (j12.2.1, j12.1))
 | .inr j11 =>
 (some (j11.1, j11.2.1))))
 | .inr j6 =>
 (some (j6.1, j6.2.1)))
noncomputable def g_r15_Name_r1 (p1 : ByteArray × Int × Unit) : Option ((ByteArray × Int × Unit) ⊕ ((Int × Unit) ⊕ (Bool × Unit))) :=
 bif (decide ((p1.1.size : Int) > 0)) then
 (g_r15_first p1.1).bind fun y2 =>
 (bif (y2.2 == 0) then
 some (p1.1, p1.2.1, y2.2, true, ())
 else
 bif (decide (y2.1 < 32)) then
 some (p1.1, p1.2.1, y2.2, true, ())
 else
 some (p1.1, p1.2.1, y2.2, (y2.1 == 127), ()) : Option ((ByteArray × Int × Int × Bool × Unit))).bind fun j3 => 
 bif j3.2.2.2.1 then
 some (Sum.inr (Sum.inr (false, ())))
 else
 bif (cutG j3.2.2.1 (j3.1.size : Int) j3.1.size) then
 some (Sum.inl ((j3.1.extract j3.2.2.1.toNat (j3.1.size : Int).toNat), (IntKind.i64.wrap (j3.2.1 + 1)), ()))
 else none
 else
 some (Sum.inr (Sum.inl (p1.2.1, ())))
noncomputable def g_r15_Name (a0 : ByteArray) : Option (Bool) :=
 (iter (g_r15_Name_r1) (a0, 0, ())).bind fun j4 => 
 (match j4 with
 | .inl j5 =>
 (some (decide (j5.1 ≤ 16)))
 | .inr j6 =>
 (some j6.1))
noncomputable def g_r15_numbers (a0 : Int × Int × Int × Int × Int × Int × Int × Int × ByteArray × List Int) : Option (List Int) :=
 some [a0.2.1, a0.2.2.1, a0.2.2.2.1, a0.2.2.2.2.1, a0.2.2.2.2.2.1, a0.2.2.2.2.2.2.1, a0.2.2.2.2.2.2.2.1]
noncomputable def g_r15_Check_r1 (p4 : List Int × Int × Int × (Int × Int × Int × Int × Int × Int × Int × Int × ByteArray × List Int) × Unit) : Option ((List Int × Int × Int × (Int × Int × Int × Int × Int × Int × Int × Int × ByteArray × List Int) × Unit) ⊕ (((Int × Int × Int × Int × Int × Int × Int × Int × ByteArray × List Int) × Unit) ⊕ (Int × Unit))) :=
 bif (decide (p4.2.2.1 < p4.2.1)) then
 bif (within p4.2.2.1 p4.1.length) then
 (bif (decide ((p4.1.getD p4.2.2.1.toNat 0) < 0)) then
 some (p4.1, p4.2.1, p4.2.2.1, true, p4.2.2.2.1, ())
 else
 some (p4.1, p4.2.1, p4.2.2.1, (decide ((p4.1.getD p4.2.2.1.toNat 0) > 1073741824)), p4.2.2.2.1, ()) : Option ((List Int × Int × Int × Bool × (Int × Int × Int × Int × Int × Int × Int × Int × ByteArray × List Int) × Unit))).bind fun j5 => 
 bif j5.2.2.2.1 then
 some (Sum.inr (Sum.inr (1, ())))
 else
 some (Sum.inl (j5.1, j5.2.1, (IntKind.i64.wrap (j5.2.2.1 + 1)), j5.2.2.2.2.1, ()))
 else none
 else
 some (Sum.inr (Sum.inl (p4.2.2.2.1, ())))
noncomputable def g_r15_Check (a0 : Int × Int × Int × Int × Int × Int × Int × Int × ByteArray × List Int) : Option (Int) :=
 (bif (decide (a0.1 < 1)) then
 some (true, a0, ())
 else
 bif (decide (a0.1 > 15)) then
 some (true, a0, ())
 else
 (g_r15_Name a0.2.2.2.2.2.2.2.2.1).bind fun y1 =>
 bif (!y1) then
 some (true, a0, ())
 else
 some ((decide ((a0.2.2.2.2.2.2.2.2.2.length : Int) > 64)), a0, ()) : Option ((Bool × (Int × Int × Int × Int × Int × Int × Int × Int × ByteArray × List Int) × Unit))).bind fun j2 => 
 bif j2.1 then
 some 1
 else
 (g_r15_numbers j2.2.1).bind fun y3 =>
 (iter (g_r15_Check_r1) (y3, (y3.length : Int), 0, j2.2.1, ())).bind fun j6 => 
 (match j6 with
 | .inl j7 =>
 ((bif (j7.1.1 == 1) then
 some (true, j7.1, ())
 else
 bif (j7.1.1 == 9) then
 some (true, j7.1, ())
 else
 some ((j7.1.1 == 5), j7.1, ()) : Option ((Bool × (Int × Int × Int × Int × Int × Int × Int × Int × ByteArray × List Int) × Unit))).bind fun j9 => 
 (bif (!(strEq j9.2.1.2.2.2.2.2.2.2.2.1 (ByteArray.mk #[]))) then
 bif (!j9.1) then
 some (true, ())
 else
 some ((!((decide ((j9.2.1.2.2.2.2.2.2.2.2.2.length : Int) > 0)) == (j9.2.1.1 == 13))), ())
 else
 some ((!((decide ((j9.2.1.2.2.2.2.2.2.2.2.2.length : Int) > 0)) == (j9.2.1.1 == 13))), ()) : Option ((Bool × Unit))).bind fun j10 => 
 bif j10.1 then
 some 1
 else
 some 0)
 | .inr j8 =>
 (some j8.1))
noncomputable def g_r17_Check_r1 (p2 : Int × (List (Int × (Int × Int × Int × Int × Int × Int × Int × Int × ByteArray × List Int) × Int × Int)) × Int × Int × (Int × List (Int × (Int × Int × Int × Int × Int × Int × Int × Int × ByteArray × List Int) × Int × Int) × List (Int × Int × List Int)) × Unit) : Option ((Int × (List (Int × (Int × Int × Int × Int × Int × Int × Int × Int × ByteArray × List Int) × Int × Int)) × Int × Int × (Int × List (Int × (Int × Int × Int × Int × Int × Int × Int × Int × ByteArray × List Int) × Int × Int) × List (Int × Int × List Int)) × Unit) ⊕ (((Int × List (Int × (Int × Int × Int × Int × Int × Int × Int × Int × ByteArray × List Int) × Int × Int) × List (Int × Int × List Int)) × Unit) ⊕ (Int × Unit))) :=
 bif (decide (p2.2.2.2.1 < p2.2.2.1)) then
 bif (within p2.2.2.2.1 p2.2.1.length) then
 (bif (decide (((p2.2.1.getD p2.2.2.2.1.toNat (0, ((0, (0, (0, (0, (0, (0, (0, (0, (ByteArray.empty, []))))))))), (0, 0))))).1 ≤ p2.1)) then
 some (p2.2.1, p2.2.2.1, p2.2.2.2.1, true, p2.2.2.2.2.1, (p2.2.1.getD p2.2.2.2.1.toNat (0, ((0, (0, (0, (0, (0, (0, (0, (0, (ByteArray.empty, []))))))))), (0, 0)))), ())
 else
 bif (decide (((p2.2.1.getD p2.2.2.2.1.toNat (0, ((0, (0, (0, (0, (0, (0, (0, (0, (ByteArray.empty, []))))))))), (0, 0))))).1 ≥ p2.2.2.2.2.1.1)) then
 some (p2.2.1, p2.2.2.1, p2.2.2.2.1, true, p2.2.2.2.2.1, (p2.2.1.getD p2.2.2.2.1.toNat (0, ((0, (0, (0, (0, (0, (0, (0, (0, (ByteArray.empty, []))))))))), (0, 0)))), ())
 else
 bif ((((((((((p2.2.1.getD p2.2.2.2.1.toNat (0, ((0, (0, (0, (0, (0, (0, (0, (0, (ByteArray.empty, []))))))))), (0, 0))))).2).1).2).2).2).2).1) != (((p2.2.1.getD p2.2.2.2.1.toNat (0, ((0, (0, (0, (0, (0, (0, (0, (0, (ByteArray.empty, []))))))))), (0, 0))))).1)) then
 some (p2.2.1, p2.2.2.1, p2.2.2.2.1, true, p2.2.2.2.2.1, (p2.2.1.getD p2.2.2.2.1.toNat (0, ((0, (0, (0, (0, (0, (0, (0, (0, (ByteArray.empty, []))))))))), (0, 0)))), ())
 else
 (g_r15_Check ((((p2.2.1.getD p2.2.2.2.1.toNat (0, ((0, (0, (0, (0, (0, (0, (0, (0, (ByteArray.empty, []))))))))), (0, 0))))).2).1)).bind fun y3 =>
 bif (y3 != 0) then
 some (p2.2.1, p2.2.2.1, p2.2.2.2.1, true, p2.2.2.2.2.1, (p2.2.1.getD p2.2.2.2.1.toNat (0, ((0, (0, (0, (0, (0, (0, (0, (0, (ByteArray.empty, []))))))))), (0, 0)))), ())
 else
 bif (decide (((((p2.2.1.getD p2.2.2.2.1.toNat (0, ((0, (0, (0, (0, (0, (0, (0, (0, (ByteArray.empty, []))))))))), (0, 0))))).2).2).1 < 0)) then
 some (p2.2.1, p2.2.2.1, p2.2.2.2.1, true, p2.2.2.2.2.1, (p2.2.1.getD p2.2.2.2.1.toNat (0, ((0, (0, (0, (0, (0, (0, (0, (0, (ByteArray.empty, []))))))))), (0, 0)))), ())
 else
 bif (decide (((((p2.2.1.getD p2.2.2.2.1.toNat (0, ((0, (0, (0, (0, (0, (0, (0, (0, (ByteArray.empty, []))))))))), (0, 0))))).2).2).1 > 4)) then
 some (p2.2.1, p2.2.2.1, p2.2.2.2.1, true, p2.2.2.2.2.1, (p2.2.1.getD p2.2.2.2.1.toNat (0, ((0, (0, (0, (0, (0, (0, (0, (0, (ByteArray.empty, []))))))))), (0, 0)))), ())
 else
 bif (decide (((((p2.2.1.getD p2.2.2.2.1.toNat (0, ((0, (0, (0, (0, (0, (0, (0, (0, (ByteArray.empty, []))))))))), (0, 0))))).2).2).2 < 0)) then
 some (p2.2.1, p2.2.2.1, p2.2.2.2.1, true, p2.2.2.2.2.1, (p2.2.1.getD p2.2.2.2.1.toNat (0, ((0, (0, (0, (0, (0, (0, (0, (0, (ByteArray.empty, []))))))))), (0, 0)))), ())
 else
 some (p2.2.1, p2.2.2.1, p2.2.2.2.1, (decide (((((p2.2.1.getD p2.2.2.2.1.toNat (0, ((0, (0, (0, (0, (0, (0, (0, (0, (ByteArray.empty, []))))))))), (0, 0))))).2).2).2 > 2199023255552)), p2.2.2.2.2.1, (p2.2.1.getD p2.2.2.2.1.toNat (0, ((0, (0, (0, (0, (0, (0, (0, (0, (ByteArray.empty, []))))))))), (0, 0)))), ()) : Option (((List (Int × (Int × Int × Int × Int × Int × Int × Int × Int × ByteArray × List Int) × Int × Int)) × Int × Int × Bool × (Int × List (Int × (Int × Int × Int × Int × Int × Int × Int × Int × ByteArray × List Int) × Int × Int) × List (Int × Int × List Int)) × (Int × (Int × Int × Int × Int × Int × Int × Int × Int × ByteArray × List Int) × Int × Int) × Unit))).bind fun j4 => 
 bif j4.2.2.2.1 then
 some (Sum.inr (Sum.inr (1, ())))
 else
 some (Sum.inl (j4.2.2.2.2.2.1.1, j4.1, j4.2.1, (IntKind.i64.wrap (j4.2.2.1 + 1)), j4.2.2.2.2.1, ()))
 else none
 else
 some (Sum.inr (Sum.inl (p2.2.2.2.2.1, ())))
noncomputable def g_r17_Check_r2 (p10 : Int × Int × (List (Int × Int × List Int)) × Int × Int × List Int × Int × Int × Unit) : Option ((Int × Int × (List (Int × Int × List Int)) × Int × Int × List Int × Int × Int × Unit) ⊕ ((Int × (List (Int × Int × List Int)) × Int × Int × Unit) ⊕ (Int × Unit))) :=
 bif (decide (p10.2.2.2.2.2.2.2.1 < p10.2.2.2.2.2.2.1)) then
 bif (within p10.2.2.2.2.2.2.2.1 p10.2.2.2.2.2.1.length) then
 (bif (decide ((p10.2.2.2.2.2.1.getD p10.2.2.2.2.2.2.2.1.toNat 0) ≤ p10.2.1)) then
 some (p10.1, (p10.2.2.2.2.2.1.getD p10.2.2.2.2.2.2.2.1.toNat 0), p10.2.2.1, p10.2.2.2.1, p10.2.2.2.2.1, p10.2.2.2.2.2.1, p10.2.2.2.2.2.2.1, p10.2.2.2.2.2.2.2.1, true, ())
 else
 some (p10.1, (p10.2.2.2.2.2.1.getD p10.2.2.2.2.2.2.2.1.toNat 0), p10.2.2.1, p10.2.2.2.1, p10.2.2.2.2.1, p10.2.2.2.2.2.1, p10.2.2.2.2.2.2.1, p10.2.2.2.2.2.2.2.1, (decide ((p10.2.2.2.2.2.1.getD p10.2.2.2.2.2.2.2.1.toNat 0) > 1073741824)), ()) : Option ((Int × Int × (List (Int × Int × List Int)) × Int × Int × List Int × Int × Int × Bool × Unit))).bind fun j11 => 
 bif j11.2.2.2.2.2.2.2.2.1 then
 some (Sum.inr (Sum.inr (1, ())))
 else
 some (Sum.inl (j11.1, j11.2.1, j11.2.2.1, j11.2.2.2.1, j11.2.2.2.2.1, j11.2.2.2.2.2.1, j11.2.2.2.2.2.2.1, (IntKind.i64.wrap (j11.2.2.2.2.2.2.2.1 + 1)), ()))
 else none
 else
 some (Sum.inr (Sum.inl (p10.1, p10.2.2.1, p10.2.2.2.1, p10.2.2.2.2.1, ())))
noncomputable def g_r17_Check_r3 (p8 : Int × (List (Int × Int × List Int)) × Int × Int × Unit) : Option ((Int × (List (Int × Int × List Int)) × Int × Int × Unit) ⊕ (Unit ⊕ (Int × Unit))) :=
 bif (decide (p8.2.2.2.1 < p8.2.2.1)) then
 bif (within p8.2.2.2.1 p8.2.1.length) then
 (bif (decide (((p8.2.1.getD p8.2.2.2.1.toNat (0, (0, [])))).1 ≤ p8.1)) then
 some (p8.2.1, p8.2.2.1, p8.2.2.2.1, true, (p8.2.1.getD p8.2.2.2.1.toNat (0, (0, []))), ())
 else
 bif (decide (((p8.2.1.getD p8.2.2.2.1.toNat (0, (0, [])))).1 > 1073741824)) then
 some (p8.2.1, p8.2.2.1, p8.2.2.2.1, true, (p8.2.1.getD p8.2.2.2.1.toNat (0, (0, []))), ())
 else
 bif (decide ((((p8.2.1.getD p8.2.2.2.1.toNat (0, (0, [])))).2).1 < 0)) then
 some (p8.2.1, p8.2.2.1, p8.2.2.2.1, true, (p8.2.1.getD p8.2.2.2.1.toNat (0, (0, []))), ())
 else
 bif (decide ((((p8.2.1.getD p8.2.2.2.1.toNat (0, (0, [])))).2).1 > 1073741825)) then
 some (p8.2.1, p8.2.2.1, p8.2.2.2.1, true, (p8.2.1.getD p8.2.2.2.1.toNat (0, (0, []))), ())
 else
 some (p8.2.1, p8.2.2.1, p8.2.2.2.1, (decide ((((((p8.2.1.getD p8.2.2.2.1.toNat (0, (0, [])))).2).2).length : Int) > 16)), (p8.2.1.getD p8.2.2.2.1.toNat (0, (0, []))), ()) : Option (((List (Int × Int × List Int)) × Int × Int × Bool × (Int × Int × List Int) × Unit))).bind fun j9 => 
 bif j9.2.2.2.1 then
 some (Sum.inr (Sum.inr (1, ())))
 else
 (iter (g_r17_Check_r2) (j9.2.2.2.2.1.1, j9.2.2.2.2.1.2.1, j9.1, j9.2.1, j9.2.2.1, j9.2.2.2.2.1.2.2, (j9.2.2.2.2.1.2.2.length : Int), 0, ())).bind fun j12 => 
 (match j12 with
 | .inl j13 =>
 (some (Sum.inl (j13.1, j13.2.1, j13.2.2.1, (IntKind.i64.wrap (j13.2.2.2.1 + 1)), ())))
 | .inr j14 =>
 (some (Sum.inr (Sum.inr (j14.1, ())))))
 else none
 else
 some (Sum.inr (Sum.inl ()))
noncomputable def g_r17_Check (a0 : Int × List (Int × (Int × Int × Int × Int × Int × Int × Int × Int × ByteArray × List Int) × Int × Int) × List (Int × Int × List Int)) : Option (Int) :=
 (bif (decide (a0.1 < 1)) then
 some (true, a0, ())
 else
 bif (decide (a0.1 > 1073741824)) then
 some (true, a0, ())
 else
 bif (decide ((a0.2.1.length : Int) > 64)) then
 some (true, a0, ())
 else
 some ((decide ((a0.2.2.length : Int) > 64)), a0, ()) : Option ((Bool × (Int × List (Int × (Int × Int × Int × Int × Int × Int × Int × Int × ByteArray × List Int) × Int × Int) × List (Int × Int × List Int)) × Unit))).bind fun j1 => 
 bif j1.1 then
 some 1
 else
 (iter (g_r17_Check_r1) (0, j1.2.1.2.1, (j1.2.1.2.1.length : Int), 0, j1.2.1, ())).bind fun j5 => 
 (match j5 with
 | .inl j6 =>
 ((iter (g_r17_Check_r3) ((-1), j6.1.2.2, (j6.1.2.2.length : Int), 0, ())).bind fun j15 => 
 (match j15 with
 | .inl j16 =>
 (some 0)
 | .inr j17 =>
 (some j17.1)))
 | .inr j7 =>
 (some j7.1))
noncomputable def g_slices_Index_Sint_int_r1 (p1 : List Int × Int × Int × Int × Unit) : Option ((List Int × Int × Int × Int × Unit) ⊕ (Unit ⊕ (Int × Unit))) :=
 bif (decide (p1.2.2.2.1 < p1.2.2.1)) then
 bif (within p1.2.2.2.1 p1.1.length) then
 bif (p1.2.1 == (p1.1.getD p1.2.2.2.1.toNat 0)) then
 some (Sum.inr (Sum.inr (p1.2.2.2.1, ())))
 else
 some (Sum.inl (p1.1, p1.2.1, p1.2.2.1, (IntKind.i64.wrap (p1.2.2.2.1 + 1)), ()))
 else none
 else
 some (Sum.inr (Sum.inl ()))
noncomputable def g_slices_Index_Sint_int (a0 : List Int) (a1 : Int) : Option (Int) :=
 (iter (g_slices_Index_Sint_int_r1) (a0, a1, (a0.length : Int), 0, ())).bind fun j2 => 
 (match j2 with
 | .inl j3 =>
 (some (-1))
 | .inr j4 =>
 (some j4.1))
noncomputable def g_slices_Contains_Sint_int (a0 : List Int) (a1 : Int) : Option (Bool) :=
 (g_slices_Index_Sint_int a0 a1).bind fun y1 =>
 some (decide (y1 ≥ 0))
noncomputable def g_retry_Waiting_r1 (p2 : List Int × List Int × (List (Int × (Int × Int × Int × Int × Int × Int × Int × Int × ByteArray × List Int) × Int × Int)) × Int × Int × Unit) : Option ((List Int × List Int × (List (Int × (Int × Int × Int × Int × Int × Int × Int × Int × ByteArray × List Int) × Int × Int)) × Int × Int × Unit) ⊕ ((List Int × Unit))) :=
 bif (decide (p2.2.2.2.2.1 < p2.2.2.2.1)) then
 (bif (within p2.2.2.2.2.1 p2.2.2.1.length) then
 (bif ((p2.1.length : Int) == 0) then
 some (p2.1, p2.2.1, p2.2.2.1, p2.2.2.2.1, p2.2.2.2.2.1, true, (p2.2.2.1.getD p2.2.2.2.2.1.toNat (0, ((0, (0, (0, (0, (0, (0, (0, (0, (ByteArray.empty, []))))))))), (0, 0)))), ())
 else
 (g_slices_Contains_Sint_int p2.1 (((((p2.2.2.1.getD p2.2.2.2.2.1.toNat (0, ((0, (0, (0, (0, (0, (0, (0, (0, (ByteArray.empty, []))))))))), (0, 0))))).2).1).1)).bind fun y3 =>
 some (p2.1, p2.2.1, p2.2.2.1, p2.2.2.2.1, p2.2.2.2.2.1, y3, (p2.2.2.1.getD p2.2.2.2.2.1.toNat (0, ((0, (0, (0, (0, (0, (0, (0, (0, (ByteArray.empty, []))))))))), (0, 0)))), ()) : Option ((List Int × List Int × (List (Int × (Int × Int × Int × Int × Int × Int × Int × Int × ByteArray × List Int) × Int × Int)) × Int × Int × Bool × (Int × (Int × Int × Int × Int × Int × Int × Int × Int × ByteArray × List Int) × Int × Int) × Unit))).bind fun j4 => 
 bif j4.2.2.2.2.2.1 then
 bif (room 8 (j4.2.1 ++ [j4.2.2.2.2.2.2.1.1]).length) then
 some (j4.1, (j4.2.1 ++ [j4.2.2.2.2.2.2.1.1]), j4.2.2.1, j4.2.2.2.1, j4.2.2.2.2.1, ())
 else none
 else
 some (j4.1, j4.2.1, j4.2.2.1, j4.2.2.2.1, j4.2.2.2.2.1, ())
 else none : Option ((List Int × List Int × (List (Int × (Int × Int × Int × Int × Int × Int × Int × Int × ByteArray × List Int) × Int × Int)) × Int × Int × Unit))).bind fun j5 => 
 some (Sum.inl (j5.1, j5.2.1, j5.2.2.1, j5.2.2.2.1, (IntKind.i64.wrap (j5.2.2.2.2.1 + 1)), ()))
 else
 some (Sum.inr (p2.2.1, ()))
noncomputable def g_retry_Waiting (a0 : Int × List (Int × (Int × Int × Int × Int × Int × Int × Int × Int × ByteArray × List Int) × Int × Int) × List (Int × Int × List Int)) (a1 : List Int) : Option (List Int) :=
 (g_retry_Check a0).bind fun y1 =>
 bif (y1 != 0) then
 some []
 else
 (iter (g_retry_Waiting_r1) (a1, [], a0.2.1, (a0.2.1.length : Int), 0, ())).bind fun j6 => 
 some j6.1
noncomputable def g_wire_Same (a0 : Int × Int × Int × Int × Int × Int × Int × Int × ByteArray × List Int) (a1 : Int × Int × Int × Int × Int × Int × Int × Int × ByteArray × List Int) : Option (Bool) :=
 bif (a0.2.1 != a1.2.1) then
 some false
 else
 bif (a0.2.2.1 != a1.2.2.1) then
 some false
 else
 bif (a0.2.2.2.1 != a1.2.2.2.1) then
 some false
 else
 bif (a0.2.2.2.2.1 != a1.2.2.2.2.1) then
 some false
 else
 bif (a0.2.2.2.2.2.1 != a1.2.2.2.2.2.1) then
 some false
 else
 bif (a0.2.2.2.2.2.2.1 != a1.2.2.2.2.2.2.1) then
 some false
 else
 bif (a0.2.2.2.2.2.2.2.1 != a1.2.2.2.2.2.2.2.1) then
 some false
 else
 bif (a0.1 == a1.1) then
 bif (strEq a0.2.2.2.2.2.2.2.2.1 a1.2.2.2.2.2.2.2.2.1) then
 (g_slices_Equal_Sbyte_byte a0.2.2.2.2.2.2.2.2.2 a1.2.2.2.2.2.2.2.2.2).bind fun y1 =>
 some y1
 else
 some false
 else
 some false
noncomputable def g_retry_Same_1 (a0 : Int × (Int × Int × Int × Int × Int × Int × Int × Int × ByteArray × List Int) × Int × Int) (a1 : Int × (Int × Int × Int × Int × Int × Int × Int × Int × ByteArray × List Int) × Int × Int) : Option (Bool) :=
 bif ([a0.1, a0.2.2.1, a0.2.2.2] == [a1.1, a1.2.2.1, a1.2.2.2]) then
 (g_wire_Same a0.2.1 a1.2.1).bind fun y1 =>
 some y1
 else
 some false
noncomputable def g_slices_Equal_Sint_int_r1 (p1 : List Int × List Int × Int × Int × Unit) : Option ((List Int × List Int × Int × Int × Unit) ⊕ (Unit ⊕ (Bool × Unit))) :=
 bif (decide (p1.2.2.2.1 < p1.2.2.1)) then
 bif (within p1.2.2.2.1 p1.1.length) then
 bif (within p1.2.2.2.1 p1.2.1.length) then
 bif ((p1.1.getD p1.2.2.2.1.toNat 0) != (p1.2.1.getD p1.2.2.2.1.toNat 0)) then
 some (Sum.inr (Sum.inr (false, ())))
 else
 some (Sum.inl (p1.1, p1.2.1, p1.2.2.1, (IntKind.i64.wrap (p1.2.2.2.1 + 1)), ()))
 else none
 else none
 else
 some (Sum.inr (Sum.inl ()))
noncomputable def g_slices_Equal_Sint_int (a0 : List Int) (a1 : List Int) : Option (Bool) :=
 bif ((a0.length : Int) != (a1.length : Int)) then
 some false
 else
 (iter (g_slices_Equal_Sint_int_r1) (a0, a1, (a0.length : Int), 0, ())).bind fun j2 => 
 (match j2 with
 | .inl j3 =>
 (some true)
 | .inr j4 =>
 (some j4.1))
noncomputable def g_retry_Same_2 (a0 : Int × Int × List Int) (a1 : Int × Int × List Int) : Option (Bool) :=
 bif (a0.1 == a1.1) then
 bif (a0.2.1 == a1.2.1) then
 (g_slices_Equal_Sint_int a0.2.2 a1.2.2).bind fun y1 =>
 some y1
 else
 some false
 else
 some false
noncomputable def g_retry_Same_r1 (p1 : (List (Int × (Int × Int × Int × Int × Int × Int × Int × Int × ByteArray × List Int) × Int × Int)) × (List (Int × (Int × Int × Int × Int × Int × Int × Int × Int × ByteArray × List Int) × Int × Int)) × (List (Int × (Int × Int × Int × Int × Int × Int × Int × Int × ByteArray × List Int) × Int × Int)) × Int × Int × Unit) : Option (((List (Int × (Int × Int × Int × Int × Int × Int × Int × Int × ByteArray × List Int) × Int × Int)) × (List (Int × (Int × Int × Int × Int × Int × Int × Int × Int × ByteArray × List Int) × Int × Int)) × (List (Int × (Int × Int × Int × Int × Int × Int × Int × Int × ByteArray × List Int) × Int × Int)) × Int × Int × Unit) ⊕ (((List (Int × (Int × Int × Int × Int × Int × Int × Int × Int × ByteArray × List Int) × Int × Int)) × (List (Int × (Int × Int × Int × Int × Int × Int × Int × Int × ByteArray × List Int) × Int × Int)) × Unit) ⊕ ((List (Int × (Int × Int × Int × Int × Int × Int × Int × Int × ByteArray × List Int) × Int × Int)) × (List (Int × (Int × Int × Int × Int × Int × Int × Int × Int × ByteArray × List Int) × Int × Int)) × Bool × Unit))) :=
 bif (decide (p1.2.2.2.2.1 < p1.2.2.2.1)) then
 bif (within p1.2.2.2.2.1 p1.2.2.1.length) then
 bif (within p1.2.2.2.2.1 p1.2.1.length) then
 (g_retry_Same_1 (p1.2.2.1.getD p1.2.2.2.2.1.toNat (0, ((0, (0, (0, (0, (0, (0, (0, (0, (ByteArray.empty, []))))))))), (0, 0)))) (p1.2.1.getD p1.2.2.2.2.1.toNat (0, ((0, (0, (0, (0, (0, (0, (0, (0, (ByteArray.empty, []))))))))), (0, 0))))).bind fun y2 =>
 bif (!y2) then
 some (Sum.inr (Sum.inr (p1.1, p1.2.1, false, ())))
 else
 some (Sum.inl (p1.1, p1.2.1, p1.2.2.1, p1.2.2.2.1, (IntKind.i64.wrap (p1.2.2.2.2.1 + 1)), ()))
 else none
 else none
 else
 some (Sum.inr (Sum.inl (p1.1, p1.2.1, ())))
noncomputable def g_retry_Same_r2 (p7 : (List (Int × Int × List Int)) × (List (Int × Int × List Int)) × (List (Int × Int × List Int)) × Int × Int × Unit) : Option (((List (Int × Int × List Int)) × (List (Int × Int × List Int)) × (List (Int × Int × List Int)) × Int × Int × Unit) ⊕ (((List (Int × Int × List Int)) × (List (Int × Int × List Int)) × Unit) ⊕ ((List (Int × Int × List Int)) × (List (Int × Int × List Int)) × Bool × Unit))) :=
 bif (decide (p7.2.2.2.2.1 < p7.2.2.2.1)) then
 bif (within p7.2.2.2.2.1 p7.2.2.1.length) then
 bif (within p7.2.2.2.2.1 p7.2.1.length) then
 (g_retry_Same_2 (p7.2.2.1.getD p7.2.2.2.2.1.toNat (0, (0, []))) (p7.2.1.getD p7.2.2.2.2.1.toNat (0, (0, [])))).bind fun y8 =>
 bif (!y8) then
 some (Sum.inr (Sum.inr (p7.1, p7.2.1, false, ())))
 else
 some (Sum.inl (p7.1, p7.2.1, p7.2.2.1, p7.2.2.2.1, (IntKind.i64.wrap (p7.2.2.2.2.1 + 1)), ()))
 else none
 else none
 else
 some (Sum.inr (Sum.inl (p7.1, p7.2.1, ())))
noncomputable def g_retry_Same (a0 : Int × List (Int × (Int × Int × Int × Int × Int × Int × Int × Int × ByteArray × List Int) × Int × Int) × List (Int × Int × List Int)) (a1 : Int × List (Int × (Int × Int × Int × Int × Int × Int × Int × Int × ByteArray × List Int) × Int × Int) × List (Int × Int × List Int)) : Option (Bool) :=
 (bif ((a0.2.1.length : Int) != (a1.2.1.length : Int)) then
 some (false, a0, a1, ())
 else
 (iter (g_retry_Same_r1) (a0.2.1, a1.2.1, a0.2.1, (a0.2.1.length : Int), 0, ())).bind fun j3 => 
 (match j3 with
 | .inl j4 =>
 (some (true, a0, a1, ()))
 | .inr j5 =>
 (some (j5.2.2.1, a0, a1, ()))) : Option ((Bool × (Int × List (Int × (Int × Int × Int × Int × Int × Int × Int × Int × ByteArray × List Int) × Int × Int) × List (Int × Int × List Int)) × (Int × List (Int × (Int × Int × Int × Int × Int × Int × Int × Int × ByteArray × List Int) × Int × Int) × List (Int × Int × List Int)) × Unit))).bind fun j6 => 
 (bif ((j6.2.1.2.2.length : Int) != (j6.2.2.1.2.2.length : Int)) then
 some (j6.1, false, j6.2.1, j6.2.2.1, ())
 else
 (iter (g_retry_Same_r2) (j6.2.1.2.2, j6.2.2.1.2.2, j6.2.1.2.2, (j6.2.1.2.2.length : Int), 0, ())).bind fun j9 => 
 (match j9 with
 | .inl j10 =>
 (some (j6.1, true, j6.2.1, j6.2.2.1, ()))
 | .inr j11 =>
 (some (j6.1, j11.2.2.1, j6.2.1, j6.2.2.1, ()))) : Option ((Bool × Bool × (Int × List (Int × (Int × Int × Int × Int × Int × Int × Int × Int × ByteArray × List Int) × Int × Int) × List (Int × Int × List Int)) × (Int × List (Int × (Int × Int × Int × Int × Int × Int × Int × Int × ByteArray × List Int) × Int × Int) × List (Int × Int × List Int)) × Unit))).bind fun j12 => 
 bif j12.1 then
 bif j12.2.1 then
 bif (j12.2.2.1.1 == j12.2.2.2.1.1) then
 (g_retry_Check j12.2.2.1).bind fun y13 =>
 some (y13 == 0)
 else
 some false
 else
 some false
 else
 some false
noncomputable def g_r15_Same_r1 (p4 : List Int × List Int × Int × Int × Unit) : Option ((List Int × List Int × Int × Int × Unit) ⊕ (Unit ⊕ (Bool × Unit))) :=
 bif (decide (p4.2.2.2.1 < p4.2.2.1)) then
 bif (within p4.2.2.2.1 p4.1.length) then
 bif (within p4.2.2.2.1 p4.2.1.length) then
 bif ((p4.1.getD p4.2.2.2.1.toNat 0) != (p4.2.1.getD p4.2.2.2.1.toNat 0)) then
 some (Sum.inr (Sum.inr (false, ())))
 else
 some (Sum.inl (p4.1, p4.2.1, p4.2.2.1, (IntKind.i64.wrap (p4.2.2.2.1 + 1)), ()))
 else none
 else none
 else
 some (Sum.inr (Sum.inl ()))
noncomputable def g_r15_Same (a0 : Int × Int × Int × Int × Int × Int × Int × Int × ByteArray × List Int) (a1 : Int × Int × Int × Int × Int × Int × Int × Int × ByteArray × List Int) : Option (Bool) :=
 (bif (a0.1 != a1.1) then
 some (true, a0, a1, ())
 else
 bif (!(strEq a0.2.2.2.2.2.2.2.2.1 a1.2.2.2.2.2.2.2.2.1)) then
 some (true, a0, a1, ())
 else
 some ((!(strEq (strOf a0.2.2.2.2.2.2.2.2.2) (strOf a1.2.2.2.2.2.2.2.2.2))), a0, a1, ()) : Option ((Bool × (Int × Int × Int × Int × Int × Int × Int × Int × ByteArray × List Int) × (Int × Int × Int × Int × Int × Int × Int × Int × ByteArray × List Int) × Unit))).bind fun j1 => 
 bif j1.1 then
 some false
 else
 (g_r15_numbers j1.2.1).bind fun y2 =>
 (g_r15_numbers j1.2.2.1).bind fun y3 =>
 (iter (g_r15_Same_r1) (y2, y3, (y2.length : Int), 0, ())).bind fun j5 => 
 (match j5 with
 | .inl j6 =>
 (some true)
 | .inr j7 =>
 (some j7.1))
noncomputable def g_r17_Equal_r1 (p2 : (List (Int × (Int × Int × Int × Int × Int × Int × Int × Int × ByteArray × List Int) × Int × Int)) × Int × Int × (Int × List (Int × (Int × Int × Int × Int × Int × Int × Int × Int × ByteArray × List Int) × Int × Int) × List (Int × Int × List Int)) × (Int × List (Int × (Int × Int × Int × Int × Int × Int × Int × Int × ByteArray × List Int) × Int × Int) × List (Int × Int × List Int)) × Unit) : Option (((List (Int × (Int × Int × Int × Int × Int × Int × Int × Int × ByteArray × List Int) × Int × Int)) × Int × Int × (Int × List (Int × (Int × Int × Int × Int × Int × Int × Int × Int × ByteArray × List Int) × Int × Int) × List (Int × Int × List Int)) × (Int × List (Int × (Int × Int × Int × Int × Int × Int × Int × Int × ByteArray × List Int) × Int × Int) × List (Int × Int × List Int)) × Unit) ⊕ (((Int × List (Int × (Int × Int × Int × Int × Int × Int × Int × Int × ByteArray × List Int) × Int × Int) × List (Int × Int × List Int)) × (Int × List (Int × (Int × Int × Int × Int × Int × Int × Int × Int × ByteArray × List Int) × Int × Int) × List (Int × Int × List Int)) × Unit) ⊕ (Bool × Unit))) :=
 bif (decide (p2.2.2.1 < p2.2.1)) then
 bif (within p2.2.2.1 p2.1.length) then
 bif (within p2.2.2.1 p2.2.2.2.2.1.2.1.length) then
 (bif ((((p2.1.getD p2.2.2.1.toNat (0, ((0, (0, (0, (0, (0, (0, (0, (0, (ByteArray.empty, []))))))))), (0, 0))))).1) != (((p2.2.2.2.2.1.2.1.getD p2.2.2.1.toNat (0, ((0, (0, (0, (0, (0, (0, (0, (0, (ByteArray.empty, []))))))))), (0, 0))))).1)) then
 some (p2.1, p2.2.1, p2.2.2.1, true, p2.2.2.2.1, p2.2.2.2.2.1, ())
 else
 bif ((((((p2.1.getD p2.2.2.1.toNat (0, ((0, (0, (0, (0, (0, (0, (0, (0, (ByteArray.empty, []))))))))), (0, 0))))).2).2).1) != (((((p2.2.2.2.2.1.2.1.getD p2.2.2.1.toNat (0, ((0, (0, (0, (0, (0, (0, (0, (0, (ByteArray.empty, []))))))))), (0, 0))))).2).2).1)) then
 some (p2.1, p2.2.1, p2.2.2.1, true, p2.2.2.2.1, p2.2.2.2.2.1, ())
 else
 bif ((((((p2.1.getD p2.2.2.1.toNat (0, ((0, (0, (0, (0, (0, (0, (0, (0, (ByteArray.empty, []))))))))), (0, 0))))).2).2).2) != (((((p2.2.2.2.2.1.2.1.getD p2.2.2.1.toNat (0, ((0, (0, (0, (0, (0, (0, (0, (0, (ByteArray.empty, []))))))))), (0, 0))))).2).2).2)) then
 some (p2.1, p2.2.1, p2.2.2.1, true, p2.2.2.2.1, p2.2.2.2.2.1, ())
 else
 (g_r15_Same ((((p2.1.getD p2.2.2.1.toNat (0, ((0, (0, (0, (0, (0, (0, (0, (0, (ByteArray.empty, []))))))))), (0, 0))))).2).1) ((((p2.2.2.2.2.1.2.1.getD p2.2.2.1.toNat (0, ((0, (0, (0, (0, (0, (0, (0, (0, (ByteArray.empty, []))))))))), (0, 0))))).2).1)).bind fun y3 =>
 some (p2.1, p2.2.1, p2.2.2.1, (!y3), p2.2.2.2.1, p2.2.2.2.2.1, ()) : Option (((List (Int × (Int × Int × Int × Int × Int × Int × Int × Int × ByteArray × List Int) × Int × Int)) × Int × Int × Bool × (Int × List (Int × (Int × Int × Int × Int × Int × Int × Int × Int × ByteArray × List Int) × Int × Int) × List (Int × Int × List Int)) × (Int × List (Int × (Int × Int × Int × Int × Int × Int × Int × Int × ByteArray × List Int) × Int × Int) × List (Int × Int × List Int)) × Unit))).bind fun j4 => 
 bif j4.2.2.2.1 then
 some (Sum.inr (Sum.inr (false, ())))
 else
 some (Sum.inl (j4.1, j4.2.1, (IntKind.i64.wrap (j4.2.2.1 + 1)), j4.2.2.2.2.1, j4.2.2.2.2.2.1, ()))
 else none
 else none
 else
 some (Sum.inr (Sum.inl (p2.2.2.2.1, p2.2.2.2.2.1, ())))
noncomputable def g_r17_Equal_r2 (p8 : (List (Int × Int × List Int)) × Int × Int × (Int × List (Int × (Int × Int × Int × Int × Int × Int × Int × Int × ByteArray × List Int) × Int × Int) × List (Int × Int × List Int)) × Unit) : Option (((List (Int × Int × List Int)) × Int × Int × (Int × List (Int × (Int × Int × Int × Int × Int × Int × Int × Int × ByteArray × List Int) × Int × Int) × List (Int × Int × List Int)) × Unit) ⊕ (Unit ⊕ (Bool × Unit))) :=
 bif (decide (p8.2.2.1 < p8.2.1)) then
 bif (within p8.2.2.1 p8.1.length) then
 bif (within p8.2.2.1 p8.2.2.2.1.2.2.length) then
 (bif ((((p8.1.getD p8.2.2.1.toNat (0, (0, [])))).1) != (((p8.2.2.2.1.2.2.getD p8.2.2.1.toNat (0, (0, [])))).1)) then
 some (p8.1, p8.2.1, p8.2.2.1, true, p8.2.2.2.1, ())
 else
 bif (((((p8.1.getD p8.2.2.1.toNat (0, (0, [])))).2).1) != ((((p8.2.2.2.1.2.2.getD p8.2.2.1.toNat (0, (0, [])))).2).1)) then
 some (p8.1, p8.2.1, p8.2.2.1, true, p8.2.2.2.1, ())
 else
 (g_r03_Equal ((((p8.1.getD p8.2.2.1.toNat (0, (0, [])))).2).2) ((((p8.2.2.2.1.2.2.getD p8.2.2.1.toNat (0, (0, [])))).2).2)).bind fun y9 =>
 some (p8.1, p8.2.1, p8.2.2.1, (!y9), p8.2.2.2.1, ()) : Option (((List (Int × Int × List Int)) × Int × Int × Bool × (Int × List (Int × (Int × Int × Int × Int × Int × Int × Int × Int × ByteArray × List Int) × Int × Int) × List (Int × Int × List Int)) × Unit))).bind fun j10 => 
 bif j10.2.2.2.1 then
 some (Sum.inr (Sum.inr (false, ())))
 else
 some (Sum.inl (j10.1, j10.2.1, (IntKind.i64.wrap (j10.2.2.1 + 1)), j10.2.2.2.2.1, ()))
 else none
 else none
 else
 some (Sum.inr (Sum.inl ()))
noncomputable def g_r17_Equal (a0 : Int × List (Int × (Int × Int × Int × Int × Int × Int × Int × Int × ByteArray × List Int) × Int × Int) × List (Int × Int × List Int)) (a1 : Int × List (Int × (Int × Int × Int × Int × Int × Int × Int × Int × ByteArray × List Int) × Int × Int) × List (Int × Int × List Int)) : Option (Bool) :=
 (bif (a0.1 != a1.1) then
 some (true, a0, a1, ())
 else
 bif ((a0.2.1.length : Int) != (a1.2.1.length : Int)) then
 some (true, a0, a1, ())
 else
 some (((a0.2.2.length : Int) != (a1.2.2.length : Int)), a0, a1, ()) : Option ((Bool × (Int × List (Int × (Int × Int × Int × Int × Int × Int × Int × Int × ByteArray × List Int) × Int × Int) × List (Int × Int × List Int)) × (Int × List (Int × (Int × Int × Int × Int × Int × Int × Int × Int × ByteArray × List Int) × Int × Int) × List (Int × Int × List Int)) × Unit))).bind fun j1 => 
 bif j1.1 then
 some false
 else
 (iter (g_r17_Equal_r1) (j1.2.1.2.1, (j1.2.1.2.1.length : Int), 0, j1.2.1, j1.2.2.1, ())).bind fun j5 => 
 (match j5 with
 | .inl j6 =>
 ((iter (g_r17_Equal_r2) (j6.1.2.2, (j6.1.2.2.length : Int), 0, j6.2.1, ())).bind fun j11 => 
 (match j11 with
 | .inl j12 =>
 (some true)
 | .inr j13 =>
 (some j13.1)))
 | .inr j7 =>
 (some j7.1))
noncomputable def g_r17_Same (a0 : Int × List (Int × (Int × Int × Int × Int × Int × Int × Int × Int × ByteArray × List Int) × Int × Int) × List (Int × Int × List Int)) (a1 : Int × List (Int × (Int × Int × Int × Int × Int × Int × Int × Int × ByteArray × List Int) × Int × Int) × List (Int × Int × List Int)) : Option (Bool) :=
 (g_r17_Check a0).bind fun y1 =>
 bif (y1 == 0) then
 (g_r17_Check a1).bind fun y2 =>
 bif (y2 == 0) then
 (g_r17_Equal a0 a1).bind fun y3 =>
 some y3
 else
 some false
 else
 some false
noncomputable def g_r17_New : Option (Int × List (Int × (Int × Int × Int × Int × Int × Int × Int × Int × ByteArray × List Int) × Int × Int) × List (Int × Int × List Int)) :=
 some (1, ([], []))
noncomputable def g_r17_Copy_r1 (p1 : (List (Int × Int × List Int)) × (List (Int × Int × List Int)) × Int × Int × (Int × List (Int × (Int × Int × Int × Int × Int × Int × Int × Int × ByteArray × List Int) × Int × Int) × List (Int × Int × List Int)) × (Int × List (Int × (Int × Int × Int × Int × Int × Int × Int × Int × ByteArray × List Int) × Int × Int) × List (Int × Int × List Int)) × Unit) : Option (((List (Int × Int × List Int)) × (List (Int × Int × List Int)) × Int × Int × (Int × List (Int × (Int × Int × Int × Int × Int × Int × Int × Int × ByteArray × List Int) × Int × Int) × List (Int × Int × List Int)) × (Int × List (Int × (Int × Int × Int × Int × Int × Int × Int × Int × ByteArray × List Int) × Int × Int) × List (Int × Int × List Int)) × Unit) ⊕ (((List (Int × Int × List Int)) × (Int × List (Int × (Int × Int × Int × Int × Int × Int × Int × Int × ByteArray × List Int) × Int × Int) × List (Int × Int × List Int)) × (Int × List (Int × (Int × Int × Int × Int × Int × Int × Int × Int × ByteArray × List Int) × Int × Int) × List (Int × Int × List Int)) × Unit))) :=
 bif (decide (p1.2.2.2.1 < p1.2.2.1)) then
 bif (within p1.2.2.2.1 p1.2.1.length) then
 bif (room 8 ((((p1.2.1.getD p1.2.2.2.1.toNat (0, (0, [])))).2).2).length) then
 bif (room 40 (p1.1 ++ [(p1.2.1.getD p1.2.2.2.1.toNat (0, (0, [])))]).length) then
 some (Sum.inl ((p1.1 ++ [(p1.2.1.getD p1.2.2.2.1.toNat (0, (0, [])))]), p1.2.1, p1.2.2.1, (IntKind.i64.wrap (p1.2.2.2.1 + 1)), p1.2.2.2.2.1, p1.2.2.2.2.2.1, ()))
 else none
 else none
 else none
 else
 some (Sum.inr (p1.1, p1.2.2.2.2.1, p1.2.2.2.2.2.1, ()))
noncomputable def g_r17_Copy (a0 : Int × List (Int × (Int × Int × Int × Int × Int × Int × Int × Int × ByteArray × List Int) × Int × Int) × List (Int × Int × List Int)) : Option (Int × List (Int × (Int × Int × Int × Int × Int × Int × Int × Int × ByteArray × List Int) × Int × Int) × List (Int × Int × List Int)) :=
 bif (room 128 a0.2.1.length) then
 (iter (g_r17_Copy_r1) ([], a0.2.2, (a0.2.2.length : Int), 0, a0, (0, ([], [])), ())).bind fun j2 => 
 some (j2.2.1.1, (j2.2.1.2.1, j2.1))
 else none
noncomputable def g_cmp_Compare_int (a0 : Int) (a1 : Int) : Option (Int) :=
 (g_cmp_isNaN_int a0).bind fun y1 =>
 (g_cmp_isNaN_int a1).bind fun y2 =>
 bif y1 then
 bif y2 then
 some 0
 else
 some (-1)
 else
 bif y2 then
 some 1
 else
 bif (decide (a0 < a1)) then
 some (-1)
 else
 bif (decide (a0 > a1)) then
 some 1
 else
 some 0
noncomputable def g_retry_Hear_1 (a0 : Int × Int × List Int) (a1 : Int) : Option (Int) :=
 (g_cmp_Compare_int a0.1 a1).bind fun y1 =>
 some y1
noncomputable def g_r17_Post (a0 : Int × List (Int × (Int × Int × Int × Int × Int × Int × Int × Int × ByteArray × List Int) × Int × Int) × List (Int × Int × List Int)) (a1 : Int × Int × Int × Int × Int × Int × Int × Int × ByteArray × List Int) (a2 : Int) : Option ((Int × List (Int × (Int × Int × Int × Int × Int × Int × Int × Int × ByteArray × List Int) × Int × Int) × List (Int × Int × List Int)) × (Int × Int × Int × Int × Int × Int × Int × Int × ByteArray × List Int) × Int) :=
 ((g_r17_Check a0).bind fun y1 =>
 bif (y1 != 0) then
 some (a2, true, a0, (a1.1, (a1.2.1, (a1.2.2.1, (a1.2.2.2.1, (a0.1, a1.2.2.2.2.2))))), (0, ([], [])), (0, (0, (0, (0, (0, (0, (0, (0, (ByteArray.empty, []))))))))), ())
 else
 bif (decide (a2 < 0)) then
 some (a2, true, a0, (a1.1, (a1.2.1, (a1.2.2.1, (a1.2.2.2.1, (a0.1, a1.2.2.2.2.2))))), (0, ([], [])), (0, (0, (0, (0, (0, (0, (0, (0, (ByteArray.empty, []))))))))), ())
 else
 bif (decide (a2 > 1099511627776)) then
 some (a2, true, a0, (a1.1, (a1.2.1, (a1.2.2.1, (a1.2.2.2.1, (a0.1, a1.2.2.2.2.2))))), (0, ([], [])), (0, (0, (0, (0, (0, (0, (0, (0, (ByteArray.empty, []))))))))), ())
 else
 (g_r15_Check (a1.1, (a1.2.1, (a1.2.2.1, (a1.2.2.2.1, (a0.1, a1.2.2.2.2.2)))))).bind fun y2 =>
 some (a2, (y2 != 0), a0, (a1.1, (a1.2.1, (a1.2.2.1, (a1.2.2.2.1, (a0.1, a1.2.2.2.2.2))))), (0, ([], [])), (0, (0, (0, (0, (0, (0, (0, (0, (ByteArray.empty, []))))))))), ()) : Option ((Int × Bool × (Int × List (Int × (Int × Int × Int × Int × Int × Int × Int × Int × ByteArray × List Int) × Int × Int) × List (Int × Int × List Int)) × (Int × Int × Int × Int × Int × Int × Int × Int × ByteArray × List Int) × (Int × List (Int × (Int × Int × Int × Int × Int × Int × Int × Int × ByteArray × List Int) × Int × Int) × List (Int × Int × List Int)) × (Int × Int × Int × Int × Int × Int × Int × Int × ByteArray × List Int) × Unit))).bind fun j3 => 
 bif j3.2.1 then
 some ((0, ([], [])), ((0, (0, (0, (0, (0, (0, (0, (0, (ByteArray.empty, []))))))))), 1))
 else
 (bif (j3.2.2.1.1 == 1073741824) then
 some (j3.1, true, j3.2.2.1, j3.2.2.2.1, j3.2.2.2.2.1, j3.2.2.2.2.2.1, ())
 else
 some (j3.1, (decide ((j3.2.2.1.2.1.length : Int) ≥ 64)), j3.2.2.1, j3.2.2.2.1, j3.2.2.2.2.1, j3.2.2.2.2.2.1, ()) : Option ((Int × Bool × (Int × List (Int × (Int × Int × Int × Int × Int × Int × Int × Int × ByteArray × List Int) × Int × Int) × List (Int × Int × List Int)) × (Int × Int × Int × Int × Int × Int × Int × Int × ByteArray × List Int) × (Int × List (Int × (Int × Int × Int × Int × Int × Int × Int × Int × ByteArray × List Int) × Int × Int) × List (Int × Int × List Int)) × (Int × Int × Int × Int × Int × Int × Int × Int × ByteArray × List Int) × Unit))).bind fun j4 => 
 bif j4.2.1 then
 some ((0, ([], [])), ((0, (0, (0, (0, (0, (0, (0, (0, (ByteArray.empty, []))))))))), 2))
 else
 (g_r17_Copy j4.2.2.1).bind fun y5 =>
 bif (room 128 (y5.2.1 ++ [(j4.2.2.2.1.2.2.2.2.1, (j4.2.2.2.1, (4, (IntKind.i64.wrap (j4.1 + 5)))))]).length) then
 some (((IntKind.i64.wrap (y5.1 + 1)), ((y5.2.1 ++ [(j4.2.2.2.1.2.2.2.2.1, (j4.2.2.2.1, (4, (IntKind.i64.wrap (j4.1 + 5)))))]), y5.2.2)), (j4.2.2.2.1, 0))
 else none
noncomputable def g_r17_Tick_r1 (p4 : Int × (List (Int × Int × Int × Int × Int × Int × Int × Int × ByteArray × List Int)) × (List (Int × Int × Int × Int × Int × Int × Int × Int × ByteArray × List Int)) × (List (Int × (Int × Int × Int × Int × Int × Int × Int × Int × ByteArray × List Int) × Int × Int)) × Int × Int × (Int × List (Int × (Int × Int × Int × Int × Int × Int × Int × Int × ByteArray × List Int) × Int × Int) × List (Int × Int × List Int)) × (Int × List (Int × (Int × Int × Int × Int × Int × Int × Int × Int × ByteArray × List Int) × Int × Int) × List (Int × Int × List Int)) × Unit) : Option ((Int × (List (Int × Int × Int × Int × Int × Int × Int × Int × ByteArray × List Int)) × (List (Int × Int × Int × Int × Int × Int × Int × Int × ByteArray × List Int)) × (List (Int × (Int × Int × Int × Int × Int × Int × Int × Int × ByteArray × List Int) × Int × Int)) × Int × Int × (Int × List (Int × (Int × Int × Int × Int × Int × Int × Int × Int × ByteArray × List Int) × Int × Int) × List (Int × Int × List Int)) × (Int × List (Int × (Int × Int × Int × Int × Int × Int × Int × Int × ByteArray × List Int) × Int × Int) × List (Int × Int × List Int)) × Unit) ⊕ (((List (Int × Int × Int × Int × Int × Int × Int × Int × ByteArray × List Int)) × (List (Int × Int × Int × Int × Int × Int × Int × Int × ByteArray × List Int)) × (Int × List (Int × (Int × Int × Int × Int × Int × Int × Int × Int × ByteArray × List Int) × Int × Int) × List (Int × Int × List Int)) × (Int × List (Int × (Int × Int × Int × Int × Int × Int × Int × Int × ByteArray × List Int) × Int × Int) × List (Int × Int × List Int)) × Unit))) :=
 bif (decide (p4.2.2.2.2.2.1 < p4.2.2.2.2.1)) then
 (bif (within p4.2.2.2.2.2.1 p4.2.2.2.1.length) then
 bif (decide (((((p4.2.2.2.1.getD p4.2.2.2.2.2.1.toNat (0, ((0, (0, (0, (0, (0, (0, (0, (0, (ByteArray.empty, []))))))))), (0, 0))))).2).2).2 > p4.1)) then
 bif (room 128 (p4.2.2.2.2.2.2.2.1.2.1 ++ [(p4.2.2.2.1.getD p4.2.2.2.2.2.1.toNat (0, ((0, (0, (0, (0, (0, (0, (0, (0, (ByteArray.empty, []))))))))), (0, 0))))]).length) then
 some (p4.1, p4.2.1, p4.2.2.1, p4.2.2.2.1, p4.2.2.2.2.1, p4.2.2.2.2.2.1, p4.2.2.2.2.2.2.1, (p4.2.2.2.2.2.2.2.1.1, ((p4.2.2.2.2.2.2.2.1.2.1 ++ [(p4.2.2.2.1.getD p4.2.2.2.2.2.1.toNat (0, ((0, (0, (0, (0, (0, (0, (0, (0, (ByteArray.empty, []))))))))), (0, 0))))]), p4.2.2.2.2.2.2.2.1.2.2)), ())
 else none
 else
 bif ((((((p4.2.2.2.1.getD p4.2.2.2.2.2.1.toNat (0, ((0, (0, (0, (0, (0, (0, (0, (0, (ByteArray.empty, []))))))))), (0, 0))))).2).2).1) == 0) then
 bif (room 104 (p4.2.2.1 ++ [((((p4.2.2.2.1.getD p4.2.2.2.2.2.1.toNat (0, ((0, (0, (0, (0, (0, (0, (0, (0, (ByteArray.empty, []))))))))), (0, 0))))).2).1)]).length) then
 some (p4.1, p4.2.1, (p4.2.2.1 ++ [((((p4.2.2.2.1.getD p4.2.2.2.2.2.1.toNat (0, ((0, (0, (0, (0, (0, (0, (0, (0, (ByteArray.empty, []))))))))), (0, 0))))).2).1)]), p4.2.2.2.1, p4.2.2.2.2.1, p4.2.2.2.2.2.1, p4.2.2.2.2.2.2.1, p4.2.2.2.2.2.2.2.1, ())
 else none
 else
 bif (room 104 (p4.2.1 ++ [((((p4.2.2.2.1.getD p4.2.2.2.2.2.1.toNat (0, ((0, (0, (0, (0, (0, (0, (0, (0, (ByteArray.empty, []))))))))), (0, 0))))).2).1)]).length) then
 bif (room 128 (p4.2.2.2.2.2.2.2.1.2.1 ++ [(((p4.2.2.2.1.getD p4.2.2.2.2.2.1.toNat (0, ((0, (0, (0, (0, (0, (0, (0, (0, (ByteArray.empty, []))))))))), (0, 0))))).1, (((((p4.2.2.2.1.getD p4.2.2.2.2.2.1.toNat (0, ((0, (0, (0, (0, (0, (0, (0, (0, (ByteArray.empty, []))))))))), (0, 0))))).2).1), ((IntKind.i64.wrap ((((((p4.2.2.2.1.getD p4.2.2.2.2.2.1.toNat (0, ((0, (0, (0, (0, (0, (0, (0, (0, (ByteArray.empty, []))))))))), (0, 0))))).2).2).1) - 1)), (IntKind.i64.wrap (p4.1 + 5)))))]).length) then
 some (p4.1, (p4.2.1 ++ [((((p4.2.2.2.1.getD p4.2.2.2.2.2.1.toNat (0, ((0, (0, (0, (0, (0, (0, (0, (0, (ByteArray.empty, []))))))))), (0, 0))))).2).1)]), p4.2.2.1, p4.2.2.2.1, p4.2.2.2.2.1, p4.2.2.2.2.2.1, p4.2.2.2.2.2.2.1, (p4.2.2.2.2.2.2.2.1.1, ((p4.2.2.2.2.2.2.2.1.2.1 ++ [(((p4.2.2.2.1.getD p4.2.2.2.2.2.1.toNat (0, ((0, (0, (0, (0, (0, (0, (0, (0, (ByteArray.empty, []))))))))), (0, 0))))).1, (((((p4.2.2.2.1.getD p4.2.2.2.2.2.1.toNat (0, ((0, (0, (0, (0, (0, (0, (0, (0, (ByteArray.empty, []))))))))), (0, 0))))).2).1), ((IntKind.i64.wrap ((((((p4.2.2.2.1.getD p4.2.2.2.2.2.1.toNat (0, ((0, (0, (0, (0, (0, (0, (0, (0, (ByteArray.empty, []))))))))), (0, 0))))).2).2).1) - 1)), (IntKind.i64.wrap (p4.1 + 5)))))]), p4.2.2.2.2.2.2.2.1.2.2)), ())
 else none
 else none
 else none : Option ((Int × (List (Int × Int × Int × Int × Int × Int × Int × Int × ByteArray × List Int)) × (List (Int × Int × Int × Int × Int × Int × Int × Int × ByteArray × List Int)) × (List (Int × (Int × Int × Int × Int × Int × Int × Int × Int × ByteArray × List Int) × Int × Int)) × Int × Int × (Int × List (Int × (Int × Int × Int × Int × Int × Int × Int × Int × ByteArray × List Int) × Int × Int) × List (Int × Int × List Int)) × (Int × List (Int × (Int × Int × Int × Int × Int × Int × Int × Int × ByteArray × List Int) × Int × Int) × List (Int × Int × List Int)) × Unit))).bind fun j5 => 
 some (Sum.inl (j5.1, j5.2.1, j5.2.2.1, j5.2.2.2.1, j5.2.2.2.2.1, (IntKind.i64.wrap (j5.2.2.2.2.2.1 + 1)), j5.2.2.2.2.2.2.1, j5.2.2.2.2.2.2.2.1, ()))
 else
 some (Sum.inr (p4.2.1, p4.2.2.1, p4.2.2.2.2.2.2.1, p4.2.2.2.2.2.2.2.1, ()))
noncomputable def g_r17_Tick (a0 : Int × List (Int × (Int × Int × Int × Int × Int × Int × Int × Int × ByteArray × List Int) × Int × Int) × List (Int × Int × List Int)) (a1 : Int) : Option ((Int × List (Int × (Int × Int × Int × Int × Int × Int × Int × Int × ByteArray × List Int) × Int × Int) × List (Int × Int × List Int)) × (List (Int × Int × Int × Int × Int × Int × Int × Int × ByteArray × List Int)) × (List (Int × Int × Int × Int × Int × Int × Int × Int × ByteArray × List Int)) × Int) :=
 ((g_r17_Check a0).bind fun y1 =>
 bif (y1 != 0) then
 some (a1, true, a0, (0, ([], [])), ())
 else
 bif (decide (a1 < 0)) then
 some (a1, true, a0, (0, ([], [])), ())
 else
 some (a1, (decide (a1 > 1099511627776)), a0, (0, ([], [])), ()) : Option ((Int × Bool × (Int × List (Int × (Int × Int × Int × Int × Int × Int × Int × Int × ByteArray × List Int) × Int × Int) × List (Int × Int × List Int)) × (Int × List (Int × (Int × Int × Int × Int × Int × Int × Int × Int × ByteArray × List Int) × Int × Int) × List (Int × Int × List Int)) × Unit))).bind fun j2 => 
 bif j2.2.1 then
 some ((0, ([], [])), ([], ([], 1)))
 else
 (g_r17_Copy j2.2.2.1).bind fun y3 =>
 (iter (g_r17_Tick_r1) (j2.1, [], [], j2.2.2.1.2.1, (j2.2.2.1.2.1.length : Int), 0, j2.2.2.2.1, (y3.1, ([], y3.2.2)), ())).bind fun j6 => 
 some (j6.2.2.2.1, (j6.1, (j6.2.1, 0)))
noncomputable def g_r17_Answered_r1 (p3 : Int × (List (Int × (Int × Int × Int × Int × Int × Int × Int × Int × ByteArray × List Int) × Int × Int)) × Int × Int × (Int × List (Int × (Int × Int × Int × Int × Int × Int × Int × Int × ByteArray × List Int) × Int × Int) × List (Int × Int × List Int)) × (Int × List (Int × (Int × Int × Int × Int × Int × Int × Int × Int × ByteArray × List Int) × Int × Int) × List (Int × Int × List Int)) × (Int × List (Int × (Int × Int × Int × Int × Int × Int × Int × Int × ByteArray × List Int) × Int × Int) × List (Int × Int × List Int)) × Unit) : Option ((Int × (List (Int × (Int × Int × Int × Int × Int × Int × Int × Int × ByteArray × List Int) × Int × Int)) × Int × Int × (Int × List (Int × (Int × Int × Int × Int × Int × Int × Int × Int × ByteArray × List Int) × Int × Int) × List (Int × Int × List Int)) × (Int × List (Int × (Int × Int × Int × Int × Int × Int × Int × Int × ByteArray × List Int) × Int × Int) × List (Int × Int × List Int)) × (Int × List (Int × (Int × Int × Int × Int × Int × Int × Int × Int × ByteArray × List Int) × Int × Int) × List (Int × Int × List Int)) × Unit) ⊕ (((Int × List (Int × (Int × Int × Int × Int × Int × Int × Int × Int × ByteArray × List Int) × Int × Int) × List (Int × Int × List Int)) × (Int × List (Int × (Int × Int × Int × Int × Int × Int × Int × Int × ByteArray × List Int) × Int × Int) × List (Int × Int × List Int)) × (Int × List (Int × (Int × Int × Int × Int × Int × Int × Int × Int × ByteArray × List Int) × Int × Int) × List (Int × Int × List Int)) × Unit))) :=
 bif (decide (p3.2.2.2.1 < p3.2.2.1)) then
 (bif (within p3.2.2.2.1 p3.2.1.length) then
 bif ((((p3.2.1.getD p3.2.2.2.1.toNat (0, ((0, (0, (0, (0, (0, (0, (0, (0, (ByteArray.empty, []))))))))), (0, 0))))).1) != p3.1) then
 bif (room 128 (p3.2.2.2.2.2.2.1.2.1 ++ [(p3.2.1.getD p3.2.2.2.1.toNat (0, ((0, (0, (0, (0, (0, (0, (0, (0, (ByteArray.empty, []))))))))), (0, 0))))]).length) then
 some (p3.1, p3.2.1, p3.2.2.1, p3.2.2.2.1, p3.2.2.2.2.1, p3.2.2.2.2.2.1, (p3.2.2.2.2.2.2.1.1, ((p3.2.2.2.2.2.2.1.2.1 ++ [(p3.2.1.getD p3.2.2.2.1.toNat (0, ((0, (0, (0, (0, (0, (0, (0, (0, (ByteArray.empty, []))))))))), (0, 0))))]), p3.2.2.2.2.2.2.1.2.2)), ())
 else none
 else
 some (p3.1, p3.2.1, p3.2.2.1, p3.2.2.2.1, p3.2.2.2.2.1, p3.2.2.2.2.2.1, p3.2.2.2.2.2.2.1, ())
 else none : Option ((Int × (List (Int × (Int × Int × Int × Int × Int × Int × Int × Int × ByteArray × List Int) × Int × Int)) × Int × Int × (Int × List (Int × (Int × Int × Int × Int × Int × Int × Int × Int × ByteArray × List Int) × Int × Int) × List (Int × Int × List Int)) × (Int × List (Int × (Int × Int × Int × Int × Int × Int × Int × Int × ByteArray × List Int) × Int × Int) × List (Int × Int × List Int)) × (Int × List (Int × (Int × Int × Int × Int × Int × Int × Int × Int × ByteArray × List Int) × Int × Int) × List (Int × Int × List Int)) × Unit))).bind fun j4 => 
 some (Sum.inl (j4.1, j4.2.1, j4.2.2.1, (IntKind.i64.wrap (j4.2.2.2.1 + 1)), j4.2.2.2.2.1, j4.2.2.2.2.2.1, j4.2.2.2.2.2.2.1, ()))
 else
 some (Sum.inr (p3.2.2.2.2.1, p3.2.2.2.2.2.1, p3.2.2.2.2.2.2.1, ()))
noncomputable def g_r17_Answered (a0 : Int × List (Int × (Int × Int × Int × Int × Int × Int × Int × Int × ByteArray × List Int) × Int × Int) × List (Int × Int × List Int)) (a1 : Int) : Option ((Int × List (Int × (Int × Int × Int × Int × Int × Int × Int × Int × ByteArray × List Int) × Int × Int) × List (Int × Int × List Int)) × Bool × Int) :=
 (g_r17_Check a0).bind fun y1 =>
 bif (y1 != 0) then
 some ((0, ([], [])), (false, 1))
 else
 (g_r17_Copy a0).bind fun y2 =>
 (iter (g_r17_Answered_r1) (a1, a0.2.1, (a0.2.1.length : Int), 0, a0, (0, ([], [])), (y2.1, ([], y2.2.2)), ())).bind fun j5 => 
 some (j5.2.2.1, ((decide ((j5.2.2.1.2.1.length : Int) < (j5.1.2.1.length : Int))), 0))
noncomputable def g_r17_in_r1 (p1 : Int × List Int × Int × Int × Unit) : Option ((Int × List Int × Int × Int × Unit) ⊕ (Unit ⊕ (Bool × Unit))) :=
 bif (decide (p1.2.2.2.1 < p1.2.2.1)) then
 bif (within p1.2.2.2.1 p1.2.1.length) then
 bif ((p1.2.1.getD p1.2.2.2.1.toNat 0) == p1.1) then
 some (Sum.inr (Sum.inr (true, ())))
 else
 some (Sum.inl (p1.1, p1.2.1, p1.2.2.1, (IntKind.i64.wrap (p1.2.2.2.1 + 1)), ()))
 else none
 else
 some (Sum.inr (Sum.inl ()))
noncomputable def g_r17_in (a0 : List Int) (a1 : Int) : Option (Bool) :=
 (iter (g_r17_in_r1) (a1, a0, (a0.length : Int), 0, ())).bind fun j2 => 
 (match j2 with
 | .inl j3 =>
 (some false)
 | .inr j4 =>
 (some j4.1))
noncomputable def g_r17_Waiting_r1 (p2 : List Int × List Int × (List (Int × (Int × Int × Int × Int × Int × Int × Int × Int × ByteArray × List Int) × Int × Int)) × Int × Int × Unit) : Option ((List Int × List Int × (List (Int × (Int × Int × Int × Int × Int × Int × Int × Int × ByteArray × List Int) × Int × Int)) × Int × Int × Unit) ⊕ ((List Int × Unit))) :=
 bif (decide (p2.2.2.2.2.1 < p2.2.2.2.1)) then
 (bif (within p2.2.2.2.2.1 p2.2.2.1.length) then
 (bif ((p2.1.length : Int) == 0) then
 some (p2.1, p2.2.1, p2.2.2.1, p2.2.2.2.1, p2.2.2.2.2.1, true, (p2.2.2.1.getD p2.2.2.2.2.1.toNat (0, ((0, (0, (0, (0, (0, (0, (0, (0, (ByteArray.empty, []))))))))), (0, 0)))), ())
 else
 (g_r17_in p2.1 (((((p2.2.2.1.getD p2.2.2.2.2.1.toNat (0, ((0, (0, (0, (0, (0, (0, (0, (0, (ByteArray.empty, []))))))))), (0, 0))))).2).1).1)).bind fun y3 =>
 some (p2.1, p2.2.1, p2.2.2.1, p2.2.2.2.1, p2.2.2.2.2.1, y3, (p2.2.2.1.getD p2.2.2.2.2.1.toNat (0, ((0, (0, (0, (0, (0, (0, (0, (0, (ByteArray.empty, []))))))))), (0, 0)))), ()) : Option ((List Int × List Int × (List (Int × (Int × Int × Int × Int × Int × Int × Int × Int × ByteArray × List Int) × Int × Int)) × Int × Int × Bool × (Int × (Int × Int × Int × Int × Int × Int × Int × Int × ByteArray × List Int) × Int × Int) × Unit))).bind fun j4 => 
 bif j4.2.2.2.2.2.1 then
 bif (room 8 (j4.2.1 ++ [j4.2.2.2.2.2.2.1.1]).length) then
 some (j4.1, (j4.2.1 ++ [j4.2.2.2.2.2.2.1.1]), j4.2.2.1, j4.2.2.2.1, j4.2.2.2.2.1, ())
 else none
 else
 some (j4.1, j4.2.1, j4.2.2.1, j4.2.2.2.1, j4.2.2.2.2.1, ())
 else none : Option ((List Int × List Int × (List (Int × (Int × Int × Int × Int × Int × Int × Int × Int × ByteArray × List Int) × Int × Int)) × Int × Int × Unit))).bind fun j5 => 
 some (Sum.inl (j5.1, j5.2.1, j5.2.2.1, j5.2.2.2.1, (IntKind.i64.wrap (j5.2.2.2.2.1 + 1)), ()))
 else
 some (Sum.inr (p2.2.1, ()))
noncomputable def g_r17_Waiting (a0 : Int × List (Int × (Int × Int × Int × Int × Int × Int × Int × Int × ByteArray × List Int) × Int × Int) × List (Int × Int × List Int)) (a1 : List Int) : Option (List Int) :=
 (g_r17_Check a0).bind fun y1 =>
 bif (y1 != 0) then
 some []
 else
 (iter (g_r17_Waiting_r1) (a1, [], a0.2.1, (a0.2.1.length : Int), 0, ())).bind fun j6 => 
 some j6.1
noncomputable def g_r17_SameMsgs_r1 (p1 : (List (Int × Int × Int × Int × Int × Int × Int × Int × ByteArray × List Int)) × (List (Int × Int × Int × Int × Int × Int × Int × Int × ByteArray × List Int)) × Int × Int × Unit) : Option (((List (Int × Int × Int × Int × Int × Int × Int × Int × ByteArray × List Int)) × (List (Int × Int × Int × Int × Int × Int × Int × Int × ByteArray × List Int)) × Int × Int × Unit) ⊕ (Unit ⊕ (Bool × Unit))) :=
 bif (decide (p1.2.2.2.1 < p1.2.2.1)) then
 bif (within p1.2.2.2.1 p1.1.length) then
 bif (within p1.2.2.2.1 p1.2.1.length) then
 (g_r15_Same (p1.1.getD p1.2.2.2.1.toNat (0, (0, (0, (0, (0, (0, (0, (0, (ByteArray.empty, [])))))))))) (p1.2.1.getD p1.2.2.2.1.toNat (0, (0, (0, (0, (0, (0, (0, (0, (ByteArray.empty, []))))))))))).bind fun y2 =>
 bif (!y2) then
 some (Sum.inr (Sum.inr (false, ())))
 else
 some (Sum.inl (p1.1, p1.2.1, p1.2.2.1, (IntKind.i64.wrap (p1.2.2.2.1 + 1)), ()))
 else none
 else none
 else
 some (Sum.inr (Sum.inl ()))
noncomputable def g_r17_SameMsgs (a0 : List (Int × Int × Int × Int × Int × Int × Int × Int × ByteArray × List Int)) (a1 : List (Int × Int × Int × Int × Int × Int × Int × Int × ByteArray × List Int)) : Option (Bool) :=
 bif ((a0.length : Int) != (a1.length : Int)) then
 some false
 else
 (iter (g_r17_SameMsgs_r1) (a0, a1, (a0.length : Int), 0, ())).bind fun j3 => 
 (match j3 with
 | .inl j4 =>
 (some true)
 | .inr j5 =>
 (some j5.1))
noncomputable def g_law17_same_r1 (p3 : Int × Int × (Bool × Int × List Int × List (List (Int × Int × Int × Int × Int × Int × Int × Int × ByteArray × List Int))) × (Bool × Int × List Int × List (List (Int × Int × Int × Int × Int × Int × Int × Int × ByteArray × List Int))) × Unit) : Option ((Int × Int × (Bool × Int × List Int × List (List (Int × Int × Int × Int × Int × Int × Int × Int × ByteArray × List Int))) × (Bool × Int × List Int × List (List (Int × Int × Int × Int × Int × Int × Int × Int × ByteArray × List Int))) × Unit) ⊕ (Unit ⊕ (Bool × Unit))) :=
 bif (decide (p3.2.1 < p3.1)) then
 bif (within p3.2.1 p3.2.2.1.2.2.2.length) then
 bif (within p3.2.1 p3.2.2.2.1.2.2.2.length) then
 (g_r17_SameMsgs (p3.2.2.1.2.2.2.getD p3.2.1.toNat []) (p3.2.2.2.1.2.2.2.getD p3.2.1.toNat [])).bind fun y4 =>
 bif (!y4) then
 some (Sum.inr (Sum.inr (false, ())))
 else
 some (Sum.inl (p3.1, (IntKind.i64.wrap (p3.2.1 + 1)), p3.2.2.1, p3.2.2.2.1, ()))
 else none
 else none
 else
 some (Sum.inr (Sum.inl ()))
noncomputable def g_law17_same (a0 : Bool × Int × List Int × List (List (Int × Int × Int × Int × Int × Int × Int × Int × ByteArray × List Int))) (a1 : Bool × Int × List Int × List (List (Int × Int × Int × Int × Int × Int × Int × Int × ByteArray × List Int))) : Option (Bool) :=
 (bif (!(a0.1 == a1.1)) then
 some (true, a0, a1, ())
 else
 bif (a0.2.1 != a1.2.1) then
 some (true, a0, a1, ())
 else
 (g_r03_Equal a0.2.2.1 a1.2.2.1).bind fun y1 =>
 bif (!y1) then
 some (true, a0, a1, ())
 else
 some (((a0.2.2.2.length : Int) != (a1.2.2.2.length : Int)), a0, a1, ()) : Option ((Bool × (Bool × Int × List Int × List (List (Int × Int × Int × Int × Int × Int × Int × Int × ByteArray × List Int))) × (Bool × Int × List Int × List (List (Int × Int × Int × Int × Int × Int × Int × Int × ByteArray × List Int))) × Unit))).bind fun j2 => 
 bif j2.1 then
 some false
 else
 (iter (g_law17_same_r1) ((j2.2.1.2.2.2.length : Int), 0, j2.2.1, j2.2.2.1, ())).bind fun j5 => 
 (match j5 with
 | .inl j6 =>
 (some true)
 | .inr j7 =>
 (some j7.1))
noncomputable def g_r17_settled_r1 (p1 : Int × List Int × List Int × Int × Int × (Int × Int × List Int) × (Int × Int × List Int) × Unit) : Option ((Int × List Int × List Int × Int × Int × (Int × Int × List Int) × (Int × Int × List Int) × Unit) ⊕ ((Int × List Int × (Int × Int × List Int) × (Int × Int × List Int) × Unit))) :=
 bif (decide (p1.2.2.2.2.1 < p1.2.2.2.1)) then
 (bif (within p1.2.2.2.2.1 p1.2.2.1.length) then
 bif (decide ((p1.2.2.1.getD p1.2.2.2.2.1.toNat 0) < p1.1)) then
 bif (room 8 (p1.2.1 ++ [(p1.2.2.1.getD p1.2.2.2.2.1.toNat 0)]).length) then
 some (p1.1, (p1.2.1 ++ [(p1.2.2.1.getD p1.2.2.2.2.1.toNat 0)]), p1.2.2.1, p1.2.2.2.1, p1.2.2.2.2.1, p1.2.2.2.2.2.1, p1.2.2.2.2.2.2.1, ())
 else none
 else
 some (p1.1, p1.2.1, p1.2.2.1, p1.2.2.2.1, p1.2.2.2.2.1, p1.2.2.2.2.2.1, p1.2.2.2.2.2.2.1, ())
 else none : Option ((Int × List Int × List Int × Int × Int × (Int × Int × List Int) × (Int × Int × List Int) × Unit))).bind fun j2 => 
 some (Sum.inl (j2.1, j2.2.1, j2.2.2.1, j2.2.2.2.1, (IntKind.i64.wrap (j2.2.2.2.2.1 + 1)), j2.2.2.2.2.2.1, j2.2.2.2.2.2.2.1, ()))
 else
 some (Sum.inr (p1.1, p1.2.1, p1.2.2.2.2.2.1, p1.2.2.2.2.2.2.1, ()))
noncomputable def g_r17_settled_r2 (p4 : Int × List Int × List Int × Int × Int × (Int × Int × List Int) × (Int × Int × List Int) × Unit) : Option ((Int × List Int × List Int × Int × Int × (Int × Int × List Int) × (Int × Int × List Int) × Unit) ⊕ ((List Int × (Int × Int × List Int) × (Int × Int × List Int) × Unit))) :=
 bif (decide (p4.2.2.2.2.1 < p4.2.2.2.1)) then
 (bif (within p4.2.2.2.2.1 p4.2.2.1.length) then
 bif (decide ((p4.2.2.1.getD p4.2.2.2.2.1.toNat 0) > p4.1)) then
 bif (room 8 (p4.2.1 ++ [(p4.2.2.1.getD p4.2.2.2.2.1.toNat 0)]).length) then
 some (p4.1, (p4.2.1 ++ [(p4.2.2.1.getD p4.2.2.2.2.1.toNat 0)]), p4.2.2.1, p4.2.2.2.1, p4.2.2.2.2.1, p4.2.2.2.2.2.1, p4.2.2.2.2.2.2.1, ())
 else none
 else
 some (p4.1, p4.2.1, p4.2.2.1, p4.2.2.2.1, p4.2.2.2.2.1, p4.2.2.2.2.2.1, p4.2.2.2.2.2.2.1, ())
 else none : Option ((Int × List Int × List Int × Int × Int × (Int × Int × List Int) × (Int × Int × List Int) × Unit))).bind fun j5 => 
 some (Sum.inl (j5.1, j5.2.1, j5.2.2.1, j5.2.2.2.1, (IntKind.i64.wrap (j5.2.2.2.2.1 + 1)), j5.2.2.2.2.2.1, j5.2.2.2.2.2.2.1, ()))
 else
 some (Sum.inr (p4.2.1, p4.2.2.2.2.2.1, p4.2.2.2.2.2.2.1, ()))
noncomputable def g_r17_settled_r3 (p9 : List Int × (Int × Int × List Int) × (Int × Int × List Int) × Unit) : Option ((List Int × (Int × Int × List Int) × (Int × Int × List Int) × Unit) ⊕ ((List Int × (Int × Int × List Int) × (Int × Int × List Int) × Unit))) :=
 (bif (decide ((p9.1.length : Int) > 0)) then
 bif (within 0 p9.1.length) then
 some (p9.1, ((p9.1.getD 0 0) == p9.2.1.2.1), p9.2.1, p9.2.2.1, ())
 else none
 else
 some (p9.1, false, p9.2.1, p9.2.2.1, ()) : Option ((List Int × Bool × (Int × Int × List Int) × (Int × Int × List Int) × Unit))).bind fun j10 => 
 bif j10.2.1 then
 bif (cutG 1 (j10.1.length : Int) j10.1.length) then
 some (Sum.inl (((j10.1.drop 1).take ((j10.1.length : Int).toNat - 1)), (j10.2.2.1.1, ((IntKind.i64.wrap (j10.2.2.1.2.1 + 1)), j10.2.2.1.2.2)), j10.2.2.2.1, ()))
 else none
 else
 some (Sum.inr (j10.1, j10.2.2.1, j10.2.2.2.1, ()))
noncomputable def g_r17_settled (a0 : Int × Int × List Int) (a1 : Int) : Option (Int × Int × List Int) :=
 (iter (g_r17_settled_r1) (a1, [], a0.2.2, (a0.2.2.length : Int), 0, a0, (0, (0, [])), ())).bind fun j3 => 
 bif (room 8 (j3.2.1 ++ [j3.1]).length) then
 (iter (g_r17_settled_r2) (j3.1, (j3.2.1 ++ [j3.1]), j3.2.2.1.2.2, (j3.2.2.1.2.2.length : Int), 0, j3.2.2.1, j3.2.2.2.1, ())).bind fun j6 => 
 ((bif (decide ((j6.1.length : Int) > 16)) then
 bif (within 0 j6.1.length) then
 some (j6.1, ((j6.1.getD 0 0) != j6.2.1.2.1), j6.2.1, j6.2.2.1, ())
 else none
 else
 some (j6.1, false, j6.2.1, j6.2.2.1, ()) : Option ((List Int × Bool × (Int × Int × List Int) × (Int × Int × List Int) × Unit))).bind fun j7 => 
 bif j7.2.1 then
 bif (within 0 j7.1.length) then
 some (j7.1, (j7.2.2.1.1, ((j7.1.getD 0 0), j7.2.2.1.2.2)), j7.2.2.2.1, ())
 else none
 else
 some (j7.1, j7.2.2.1, j7.2.2.2.1, ()) : Option ((List Int × (Int × Int × List Int) × (Int × Int × List Int) × Unit))).bind fun j8 => 
 (iter (g_r17_settled_r3) (j8.1, j8.2.1, j8.2.2.1, ())).bind fun j11 => 
 some (j11.2.1.1, (j11.2.1.2.1, j11.1))
 else none
end Go.Sq
set_option linter.unusedVariables false
set_option maxRecDepth 100000
namespace Go.Sq
open Go.Rx
noncomputable def g_slices_BinarySearchFunc_Sapi_Heard_api_Heard_int_retry_Hear_1_r1 (p1 : (List (Int × Int × List Int)) × Int × Int × Int × Int × Unit) : Option (((List (Int × Int × List Int)) × Int × Int × Int × Int × Unit) ⊕ (((List (Int × Int × List Int)) × Int × Int × Int × Unit))) :=
 bif (decide (p1.2.2.2.1 < p1.2.2.2.2.1)) then
 bif (within (IntKind.i64.wrap (shrI .u64 (IntKind.u64.wrap (IntKind.i64.wrap (p1.2.2.2.1 + p1.2.2.2.2.1))) 1)) p1.1.length) then
 (g_retry_Hear_1 (p1.1.getD ((IntKind.i64.wrap (shrI .u64 (IntKind.u64.wrap (IntKind.i64.wrap (p1.2.2.2.1 + p1.2.2.2.2.1))) 1)).toNat) (0, (0, []))) p1.2.1).bind fun y2 =>
 bif (decide (y2 < 0)) then
 some (Sum.inl (p1.1, p1.2.1, p1.2.2.1, (IntKind.i64.wrap ((IntKind.i64.wrap (shrI .u64 (IntKind.u64.wrap (IntKind.i64.wrap (p1.2.2.2.1 + p1.2.2.2.2.1))) 1)) + 1)), p1.2.2.2.2.1, ()))
 else
 some (Sum.inl (p1.1, p1.2.1, p1.2.2.1, p1.2.2.2.1, (IntKind.i64.wrap (shrI .u64 (IntKind.u64.wrap (IntKind.i64.wrap (p1.2.2.2.1 + p1.2.2.2.2.1))) 1)), ()))
 else none
 else
 some (Sum.inr (p1.1, p1.2.1, p1.2.2.1, p1.2.2.2.1, ()))
noncomputable def g_slices_BinarySearchFunc_Sapi_Heard_api_Heard_int_retry_Hear_1 (a0 : List (Int × Int × List Int)) (a1 : Int) : Option (Int × Bool) :=
 (iter (g_slices_BinarySearchFunc_Sapi_Heard_api_Heard_int_retry_Hear_1_r1) (a0, a1, (a0.length : Int), 0, (a0.length : Int), ())).bind fun j3 => 
 bif (decide (j3.2.2.2.1 < j3.2.2.1)) then
 bif (within j3.2.2.2.1 j3.1.length) then
 (g_retry_Hear_1 (j3.1.getD j3.2.2.2.1.toNat (0, (0, []))) j3.2.1).bind fun y4 =>
 some (j3.2.2.2.1, (y4 == 0))
 else none
 else
 some (j3.2.2.2.1, false)
noncomputable def g_slices_Insert_Sapi_Heard_api_Heard (a0 : List (Int × Int × List Int)) (a1 : Int) (a2 : List (Int × Int × List Int)) : Option (List (Int × Int × List Int)) :=
 insT 40 a0 a1 a2
noncomputable def g_slices_InsertT_Sint_int (a0 : List Int) (a1 : Int) (a2 : List Int) : Option (List Int) :=
 insT 8 a0 a1 a2
noncomputable def g_retry_HearA_r1 (p6 : Int × Int × (Int × List (Int × (Int × Int × Int × Int × Int × Int × Int × Int × ByteArray × List Int) × Int × Int) × List (Int × Int × List Int)) × (Int × List (Int × (Int × Int × Int × Int × Int × Int × Int × Int × ByteArray × List Int) × Int × Int) × List (Int × Int × List Int)) × Unit) : Option ((Int × Int × (Int × List (Int × (Int × Int × Int × Int × Int × Int × Int × Int × ByteArray × List Int) × Int × Int) × List (Int × Int × List Int)) × (Int × List (Int × (Int × Int × Int × Int × Int × Int × Int × Int × ByteArray × List Int) × Int × Int) × List (Int × Int × List Int)) × Unit) ⊕ (((Int × List (Int × (Int × Int × Int × Int × Int × Int × Int × Int × ByteArray × List Int) × Int × Int) × List (Int × Int × List Int)) × (Int × List (Int × (Int × Int × Int × Int × Int × Int × Int × Int × ByteArray × List Int) × Int × Int) × List (Int × Int × List Int)) × Unit))) :=
 bif (decide (p6.2.1 < p6.1)) then
 bif (within p6.2.1 p6.2.2.1.2.1.length) then
 (g_retry_letter ((((p6.2.2.1.2.1.getD p6.2.1.toNat (0, ((0, (0, (0, (0, (0, (0, (0, (0, (ByteArray.empty, []))))))))), (0, 0))))).2).1)).bind fun y7 =>
 bif (within p6.2.1 p6.2.2.1.2.1.length) then
 some (Sum.inl (p6.1, (IntKind.i64.wrap (p6.2.1 + 1)), (p6.2.2.1.1, ((p6.2.2.1.2.1.set p6.2.1.toNat (((p6.2.2.1.2.1.getD p6.2.1.toNat (0, ((0, (0, (0, (0, (0, (0, (0, (0, (ByteArray.empty, []))))))))), (0, 0))))).1, (y7, ((((p6.2.2.1.2.1.getD p6.2.1.toNat (0, ((0, (0, (0, (0, (0, (0, (0, (0, (ByteArray.empty, []))))))))), (0, 0))))).2).2)))), p6.2.2.1.2.2)), p6.2.2.2.1, ()))
 else none
 else none
 else
 some (Sum.inr (p6.2.2.1, p6.2.2.2.1, ()))
noncomputable def g_retry_HearA_r2 (g : Nat) (p9 : Int × Int × (Int × List (Int × (Int × Int × Int × Int × Int × Int × Int × Int × ByteArray × List Int) × Int × Int) × List (Int × Int × List Int)) × (Int × List (Int × (Int × Int × Int × Int × Int × Int × Int × Int × ByteArray × List Int) × Int × Int) × List (Int × Int × List Int)) × Unit) : Option ((Int × Int × (Int × List (Int × (Int × Int × Int × Int × Int × Int × Int × Int × ByteArray × List Int) × Int × Int) × List (Int × Int × List Int)) × (Int × List (Int × (Int × Int × Int × Int × Int × Int × Int × Int × ByteArray × List Int) × Int × Int) × List (Int × Int × List Int)) × Unit) ⊕ ((Int × Int × (Int × List (Int × (Int × Int × Int × Int × Int × Int × Int × Int × ByteArray × List Int) × Int × Int) × List (Int × Int × List Int)) × (Int × List (Int × (Int × Int × Int × Int × Int × Int × Int × Int × ByteArray × List Int) × Int × Int) × List (Int × Int × List Int)) × Unit) ⊕ (((Int × List (Int × (Int × Int × Int × Int × Int × Int × Int × Int × ByteArray × List Int) × Int × Int) × List (Int × Int × List Int)) × (Int × List (Int × (Int × Int × Int × Int × Int × Int × Int × Int × ByteArray × List Int) × Int × Int) × List (Int × Int × List Int)) × Unit)))) :=
 bif Nat.beq p9.2.1.toNat g then some (Sum.inr (Sum.inl p9)) else
 bif (decide (p9.2.1 < p9.1)) then
 bif (within p9.2.1 p9.2.2.1.2.2.length) then
 (g_slices_Clone_Sint_int ((((p9.2.2.1.2.2.getD p9.2.1.toNat (0, (0, [])))).2).2)).bind fun y10 =>
 bif (within p9.2.1 p9.2.2.1.2.2.length) then
 some (Sum.inl (p9.1, (IntKind.i64.wrap (p9.2.1 + 1)), (p9.2.2.1.1, (p9.2.2.1.2.1, (p9.2.2.1.2.2.set p9.2.1.toNat (((p9.2.2.1.2.2.getD p9.2.1.toNat (0, (0, [])))).1, ((((p9.2.2.1.2.2.getD p9.2.1.toNat (0, (0, [])))).2).1, y10))))), p9.2.2.2.1, ()))
 else none
 else none
 else
 some (Sum.inr (Sum.inr (p9.2.2.1, p9.2.2.2.1, ())))
noncomputable def g_retry_HearA_r3 (p14 : Int × Int × (Int × Unit) × List (Int × (Int × Int × Int × Int × Int × Int × Int × Int × ByteArray × List Int) × Int × Int) × (List (Int × Int × List Int) × (Nat × ((Int × Int × Unit) × List Int))) × (Int × List (Int × (Int × Int × Int × Int × Int × Int × Int × Int × ByteArray × List Int) × Int × Int) × List (Int × Int × List Int)) × Unit) : Option ((Int × Int × (Int × Unit) × List (Int × (Int × Int × Int × Int × Int × Int × Int × Int × ByteArray × List Int) × Int × Int) × (List (Int × Int × List Int) × (Nat × ((Int × Int × Unit) × List Int))) × (Int × List (Int × (Int × Int × Int × Int × Int × Int × Int × Int × ByteArray × List Int) × Int × Int) × List (Int × Int × List Int)) × Unit) ⊕ (((Int × Unit) × List (Int × (Int × Int × Int × Int × Int × Int × Int × Int × ByteArray × List Int) × Int × Int) × (List (Int × Int × List Int) × (Nat × ((Int × Int × Unit) × List Int))) × (Int × List (Int × (Int × Int × Int × Int × Int × Int × Int × Int × ByteArray × List Int) × Int × Int) × List (Int × Int × List Int)) × Unit))) :=
 bif (decide (p14.2.1 < p14.1)) then
 bif (within p14.2.1 p14.2.2.2.2.1.1.length) then
 bif (!Nat.beq p14.2.1.toNat p14.2.2.2.2.1.2.1) then
 (g_slices_Clone_Sint_int ((((p14.2.2.2.2.1.1.getD p14.2.1.toNat (0, (0, [])))).2).2)).bind fun y15 =>
 bif (within p14.2.1 p14.2.2.2.2.1.1.length) then
 bif (!Nat.beq p14.2.1.toNat p14.2.2.2.2.1.2.1) then
 some (Sum.inl (p14.1, (IntKind.i64.wrap (p14.2.1 + 1)), (p14.2.2.1.1, ()), p14.2.2.2.1, ((p14.2.2.2.2.1.1.set p14.2.1.toNat (((p14.2.2.2.2.1.1.getD p14.2.1.toNat (0, (0, [])))).1, ((((p14.2.2.2.2.1.1.getD p14.2.1.toNat (0, (0, [])))).2).1, y15))), (p14.2.2.2.2.1.2.1, ((p14.2.2.2.2.1.2.2.1.1, p14.2.2.2.2.1.2.2.1.2.1, ()), p14.2.2.2.2.1.2.2.2))), p14.2.2.2.2.2.1, ()))
 else none
 else none
 else none
 else none
 else
 some (Sum.inr ((p14.2.2.1.1, ()), p14.2.2.2.1, (p14.2.2.2.2.1.1, (p14.2.2.2.2.1.2.1, ((p14.2.2.2.2.1.2.2.1.1, p14.2.2.2.2.1.2.2.1.2.1, ()), p14.2.2.2.2.1.2.2.2))), p14.2.2.2.2.2.1, ()))
noncomputable def g_retry_HearA_r4 (p22 : Nat × (List (Int × Int × List Int) × (Nat × ((Int × Int × Unit) × List Int))) × Int × Int × Unit) : Option ((Nat × (List (Int × Int × List Int) × (Nat × ((Int × Int × Unit) × List Int))) × Int × Int × Unit) ⊕ ((Nat × (List (Int × Int × List Int) × (Nat × ((Int × Int × Unit) × List Int))) × Int × Int × Unit))) :=
 (bif Nat.beq p22.1 p22.2.1.2.1 then
 bif (decide (p22.2.2.2.1 < (p22.2.1.2.2.2.length : Int))) then
 bif Nat.beq p22.1 p22.2.1.2.1 then
 bif (within p22.2.2.2.1 p22.2.1.2.2.2.length) then
 bif Nat.beq p22.1 p22.2.1.2.1 then
 some (p22.1, (p22.2.1.1, (p22.2.1.2.1, ((p22.2.1.2.2.1.1, p22.2.1.2.2.1.2.1, ()), p22.2.1.2.2.2))), p22.2.2.1, p22.2.2.2.1, ((p22.2.1.2.2.2.getD p22.2.2.2.1.toNat 0) == p22.2.1.2.2.1.2.1), ())
 else none
 else none
 else none
 else
 some (p22.1, (p22.2.1.1, (p22.2.1.2.1, ((p22.2.1.2.2.1.1, p22.2.1.2.2.1.2.1, ()), p22.2.1.2.2.2))), p22.2.2.1, p22.2.2.2.1, false, ())
 else none : Option ((Nat × (List (Int × Int × List Int) × (Nat × ((Int × Int × Unit) × List Int))) × Int × Int × Bool × Unit))).bind fun j23 => 
 bif j23.2.2.2.2.1 then
 bif Nat.beq j23.1 j23.2.1.2.1 then
 bif Nat.beq j23.1 j23.2.1.2.1 then
 some (Sum.inl (j23.1, (j23.2.1.1, (j23.2.1.2.1, ((j23.2.1.2.2.1.1, (IntKind.i64.wrap (j23.2.1.2.2.1.2.1 + 1)), ()), j23.2.1.2.2.2))), j23.2.2.1, (IntKind.i64.wrap (j23.2.2.2.1 + 1)), ()))
 else none
 else none
 else
 some (Sum.inr (j23.1, (j23.2.1.1, (j23.2.1.2.1, ((j23.2.1.2.2.1.1, j23.2.1.2.2.1.2.1, ()), j23.2.1.2.2.2))), j23.2.2.1, j23.2.2.2.1, ()))
noncomputable def g_retry_HearA (g : Nat) (a0 : Int × List (Int × (Int × Int × Int × Int × Int × Int × Int × Int × ByteArray × List Int) × Int × Int) × List (Int × Int × List Int)) (a1 : Int) (a2 : Int) : Option ((Int × List (Int × (Int × Int × Int × Int × Int × Int × Int × Int × ByteArray × List Int) × Int × Int) × List (Int × Int × List Int)) × Bool × Int) :=
 (g_retry_Check a0).bind fun y1 =>
 bif (y1 != 0) then
 some ((0, ([], [])), (false, 1))
 else
 (g_retry_within a1 0 1073741824).bind fun y2 =>
 bif (!y2) then
 some ((0, ([], [])), (false, 1))
 else
 (g_retry_within a2 0 1073741824).bind fun y3 =>
 bif (!y3) then
 some ((0, ([], [])), (false, 1))
 else
 (g_slices_Clone_Sapi_Send_api_Send a0.2.1).bind fun y4 =>
 (g_slices_Clone_Sapi_Heard_api_Heard a0.2.2).bind fun y5 =>
 (iter (g_retry_HearA_r1) ((y4.length : Int), 0, (a0.1, (y4, y5)), (0, ([], [])), ())).bind fun j8 => 
 (iter (g_retry_HearA_r2 g) ((j8.1.2.2.length : Int), 0, j8.1, j8.2.1, ())).bind fun r11 =>
 (match r11 with
 | .inl q12 =>
 (bif (decide (q12.2.1 < q12.1)) then
 bif (Nat.blt q12.2.1.toNat q12.2.2.1.2.2.length) && true then
 bif (within q12.2.1 q12.2.2.1.2.2.length) then
 bif Nat.beq q12.2.1.toNat q12.2.1.toNat then
 (g_slices_Clone_Sint_int ((((q12.2.2.1.2.2.getD q12.2.1.toNat (0, (0, [])))).2).2)).bind fun y13 =>
 bif (within q12.2.1 q12.2.2.1.2.2.length) then
 bif Nat.beq q12.2.1.toNat q12.2.1.toNat then
 (iter (g_retry_HearA_r3) (q12.1, (IntKind.i64.wrap (q12.2.1 + 1)), (q12.2.2.1.1, ()), q12.2.2.1.2.1, (q12.2.2.1.2.2, (q12.2.1.toNat, ((((q12.2.2.1.2.2.getD q12.2.1.toNat (0, (0, [])))).1, (((q12.2.2.1.2.2.getD q12.2.1.toNat (0, (0, [])))).2).1, ()), y13))), q12.2.2.2.1, ())).bind fun j16 => 
 (g_slices_BinarySearchFunc_Sapi_Heard_api_Heard_int_retry_Hear_1 (j16.2.2.1.1.set j16.2.2.1.2.1 (j16.2.2.1.2.2.1.1, (j16.2.2.1.2.2.1.2.1, j16.2.2.1.2.2.2))) a1).bind fun y17 =>
 bif (!y17.2) then
 bif (decide ((j16.2.2.1.1.length : Int) ≥ 64)) then
 some ((0, ([], [])), (false, 2))
 else
 none
 else
 bif (within y17.1 j16.2.2.1.1.length) then
 bif Nat.beq y17.1.toNat j16.2.2.1.2.1 then
 (g_slices_BinarySearch_Sint_int j16.2.2.1.2.2.2 a2).bind fun y18 =>
 (bif y18.2 then
 some (y17.1.toNat, (j16.2.2.1.1, (j16.2.2.1.2.1, ((j16.2.2.1.2.2.1.1, j16.2.2.1.2.2.1.2.1, ()), j16.2.2.1.2.2.2))), a2, y18.1, true, ())
 else
 bif Nat.beq y17.1.toNat j16.2.2.1.2.1 then
 some (y17.1.toNat, (j16.2.2.1.1, (j16.2.2.1.2.1, ((j16.2.2.1.2.2.1.1, j16.2.2.1.2.2.1.2.1, ()), j16.2.2.1.2.2.2))), a2, y18.1, (decide (a2 < j16.2.2.1.2.2.1.2.1)), ())
 else none : Option ((Nat × (List (Int × Int × List Int) × (Nat × ((Int × Int × Unit) × List Int))) × Int × Int × Bool × Unit))).bind fun j19 => 
 bif j19.2.2.2.2.1 then
 some ((j16.1.1, (j16.2.1, (j19.2.1.1.set j19.2.1.2.1 (j19.2.1.2.2.1.1, (j19.2.1.2.2.1.2.1, j19.2.1.2.2.2))))), (false, 0))
 else
 bif Nat.beq j19.1 j19.2.1.2.1 then
 (g_slices_InsertT_Sint_int j19.2.1.2.2.2 j19.2.2.2.1 [j19.2.2.1]).bind fun y20 =>
 bif Nat.beq j19.1 j19.2.1.2.1 then
 (bif Nat.beq j19.1 j19.2.1.2.1 then
 bif (decide ((y20.length : Int) > 16)) then
 bif Nat.beq j19.1 j19.2.1.2.1 then
 bif (within 0 y20.length) then
 bif Nat.beq j19.1 j19.2.1.2.1 then
 some (j19.1, (j19.2.1.1, (j19.2.1.2.1, ((j19.2.1.2.2.1.1, (y20.getD 0 0), ()), y20))), j19.2.2.1, ())
 else none
 else none
 else none
 else
 some (j19.1, (j19.2.1.1, (j19.2.1.2.1, ((j19.2.1.2.2.1.1, j19.2.1.2.2.1.2.1, ()), y20))), j19.2.2.1, ())
 else none : Option ((Nat × (List (Int × Int × List Int) × (Nat × ((Int × Int × Unit) × List Int))) × Int × Unit))).bind fun j21 => 
 (iter (g_retry_HearA_r4) (j21.1, (j21.2.1.1, (j21.2.1.2.1, ((j21.2.1.2.2.1.1, j21.2.1.2.2.1.2.1, ()), j21.2.1.2.2.2))), j21.2.2.1, 0, ())).bind fun j24 => 
 bif Nat.beq j24.1 j24.2.1.2.1 then
 bif (cutG j24.2.2.2.1 (j24.2.1.2.2.2.length : Int) j24.2.1.2.2.2.length) then
 (g_slices_Clone_Sint_int ((j24.2.1.2.2.2.drop j24.2.2.2.1.toNat).take ((j24.2.1.2.2.2.length : Int).toNat - j24.2.2.2.1.toNat))).bind fun y25 =>
 bif Nat.beq j24.1 j24.2.1.2.1 then
 some ((j16.1.1, (j16.2.1, (j24.2.1.1.set j24.2.1.2.1 (j24.2.1.2.2.1.1, (j24.2.1.2.2.1.2.1, y25))))), (true, 0))
 else none
 else none
 else none
 else none
 else none
 else none
 else none
 else none
 else none
 else none
 else none
 else none
 else
 none)
 | .inr j26 =>
 (
 none))
noncomputable def g_retry_HearB_r1 (p9 : Nat × (List (Int × Int × List Int) × (Nat × ((Int × Int × Unit) × List Int))) × Int × Int × Unit) : Option ((Nat × (List (Int × Int × List Int) × (Nat × ((Int × Int × Unit) × List Int))) × Int × Int × Unit) ⊕ ((Nat × (List (Int × Int × List Int) × (Nat × ((Int × Int × Unit) × List Int))) × Int × Int × Unit))) :=
 (bif Nat.beq p9.1 p9.2.1.2.1 then
 bif (decide (p9.2.2.2.1 < (p9.2.1.2.2.2.length : Int))) then
 bif Nat.beq p9.1 p9.2.1.2.1 then
 bif (within p9.2.2.2.1 p9.2.1.2.2.2.length) then
 bif Nat.beq p9.1 p9.2.1.2.1 then
 some (p9.1, (p9.2.1.1, (p9.2.1.2.1, ((p9.2.1.2.2.1.1, p9.2.1.2.2.1.2.1, ()), p9.2.1.2.2.2))), p9.2.2.1, p9.2.2.2.1, ((p9.2.1.2.2.2.getD p9.2.2.2.1.toNat 0) == p9.2.1.2.2.1.2.1), ())
 else none
 else none
 else none
 else
 some (p9.1, (p9.2.1.1, (p9.2.1.2.1, ((p9.2.1.2.2.1.1, p9.2.1.2.2.1.2.1, ()), p9.2.1.2.2.2))), p9.2.2.1, p9.2.2.2.1, false, ())
 else none : Option ((Nat × (List (Int × Int × List Int) × (Nat × ((Int × Int × Unit) × List Int))) × Int × Int × Bool × Unit))).bind fun j10 => 
 bif j10.2.2.2.2.1 then
 bif Nat.beq j10.1 j10.2.1.2.1 then
 bif Nat.beq j10.1 j10.2.1.2.1 then
 some (Sum.inl (j10.1, (j10.2.1.1, (j10.2.1.2.1, ((j10.2.1.2.2.1.1, (IntKind.i64.wrap (j10.2.1.2.2.1.2.1 + 1)), ()), j10.2.1.2.2.2))), j10.2.2.1, (IntKind.i64.wrap (j10.2.2.2.1 + 1)), ()))
 else none
 else none
 else
 some (Sum.inr (j10.1, (j10.2.1.1, (j10.2.1.2.1, ((j10.2.1.2.2.1.1, j10.2.1.2.2.1.2.1, ()), j10.2.1.2.2.2))), j10.2.2.1, j10.2.2.2.1, ()))
noncomputable def g_retry_HearB (a0 : Int × List (Int × (Int × Int × Int × Int × Int × Int × Int × Int × ByteArray × List Int) × Int × Int) × List (Int × Int × List Int)) (a1 : Int) (a2 : Int) : Option ((Int × List (Int × (Int × Int × Int × Int × Int × Int × Int × Int × ByteArray × List Int) × Int × Int) × List (Int × Int × List Int)) × Bool × Int) :=
 (g_retry_Check a0).bind fun y1 =>
 bif (y1 != 0) then
 some ((0, ([], [])), (false, 1))
 else
 (g_retry_within a1 0 1073741824).bind fun y2 =>
 bif (!y2) then
 some ((0, ([], [])), (false, 1))
 else
 (g_retry_within a2 0 1073741824).bind fun y3 =>
 bif (!y3) then
 some ((0, ([], [])), (false, 1))
 else
 (g_retry_owned a0).bind fun y4 =>
 (g_slices_BinarySearchFunc_Sapi_Heard_api_Heard_int_retry_Hear_1 y4.2.2 a1).bind fun y5 =>
 bif (!y5.2) then
 bif (decide ((y4.2.2.length : Int) ≥ 64)) then
 some ((0, ([], [])), (false, 2))
 else
 bif (decide (0 ≤ y5.1) && decide (y5.1 ≤ (y4.2.2.length : Int))) && room 40 (y4.2.2.length + 1) then
 bif (within y5.1 ((y4.2.2.take y5.1.toNat ++ ((0, (0, [])) :: y4.2.2.drop y5.1.toNat)).length)) then
 bif Nat.beq y5.1.toNat y5.1.toNat then
 (g_slices_BinarySearch_Sint_int [] a2).bind fun y6 =>
 bif y6.2 then
 some ((y4.1, (y4.2.1, ((y4.2.2.take y5.1.toNat ++ ((0, (0, [])) :: y4.2.2.drop y5.1.toNat)).set y5.1.toNat (a1, (0, []))))), (false, 0))
 else
 bif Nat.beq y5.1.toNat y5.1.toNat then
 bif (decide (a2 < 0)) then
 some ((y4.1, (y4.2.1, ((y4.2.2.take y5.1.toNat ++ ((0, (0, [])) :: y4.2.2.drop y5.1.toNat)).set y5.1.toNat (a1, (0, []))))), (false, 0))
 else
 bif Nat.beq y5.1.toNat y5.1.toNat then
 (g_slices_InsertT_Sint_int [] y6.1 [a2]).bind fun y7 =>
 bif Nat.beq y5.1.toNat y5.1.toNat then
 (bif Nat.beq y5.1.toNat y5.1.toNat then
 bif (decide ((y7.length : Int) > 16)) then
 bif Nat.beq y5.1.toNat y5.1.toNat then
 bif (within 0 y7.length) then
 bif Nat.beq y5.1.toNat y5.1.toNat then
 some (y5.1.toNat, ((y4.2.2.take y5.1.toNat ++ ((0, (0, [])) :: y4.2.2.drop y5.1.toNat)), (y5.1.toNat, ((a1, (y7.getD 0 0), ()), y7))), a2, ())
 else none
 else none
 else none
 else
 some (y5.1.toNat, ((y4.2.2.take y5.1.toNat ++ ((0, (0, [])) :: y4.2.2.drop y5.1.toNat)), (y5.1.toNat, ((a1, 0, ()), y7))), a2, ())
 else none : Option ((Nat × (List (Int × Int × List Int) × (Nat × ((Int × Int × Unit) × List Int))) × Int × Unit))).bind fun j8 => 
 (iter (g_retry_HearB_r1) (j8.1, (j8.2.1.1, (j8.2.1.2.1, ((j8.2.1.2.2.1.1, j8.2.1.2.2.1.2.1, ()), j8.2.1.2.2.2))), j8.2.2.1, 0, ())).bind fun j11 => 
 bif Nat.beq j11.1 j11.2.1.2.1 then
 bif (cutG j11.2.2.2.1 (j11.2.1.2.2.2.length : Int) j11.2.1.2.2.2.length) then
 (g_slices_Clone_Sint_int ((j11.2.1.2.2.2.drop j11.2.2.2.1.toNat).take ((j11.2.1.2.2.2.length : Int).toNat - j11.2.2.2.1.toNat))).bind fun y12 =>
 bif Nat.beq j11.1 j11.2.1.2.1 then
 some ((y4.1, (y4.2.1, (j11.2.1.1.set j11.2.1.2.1 (j11.2.1.2.2.1.1, (j11.2.1.2.2.1.2.1, y12))))), (true, 0))
 else none
 else none
 else none
 else none
 else none
 else none
 else none
 else none
 else none
 else
 none
noncomputable def g_retry_Hear_at (a0 : Int × List (Int × (Int × Int × Int × Int × Int × Int × Int × Int × ByteArray × List Int) × Int × Int) × List (Int × Int × List Int)) (a1 : Int) (a2 : Int) : Option Nat :=
 match g_slices_BinarySearchFunc_Sapi_Heard_api_Heard_int_retry_Hear_1 a0.2.2 a1 with
 | some (i, true) => some i.toNat
 | _ => none
noncomputable def g_retry_Hear_of : Option Nat → (Int × List (Int × (Int × Int × Int × Int × Int × Int × Int × Int × ByteArray × List Int) × Int × Int) × List (Int × Int × List Int)) × Int × Int → Option ((Int × List (Int × (Int × Int × Int × Int × Int × Int × Int × Int × ByteArray × List Int) × Int × Int) × List (Int × Int × List Int)) × Bool × Int)
 | some g => fun x => g_retry_HearA g x.1 x.2.1 x.2.2
 | none => fun x => g_retry_HearB x.1 x.2.1 x.2.2
noncomputable def g_retry_Hear (a0 : Int × List (Int × (Int × Int × Int × Int × Int × Int × Int × Int × ByteArray × List Int) × Int × Int) × List (Int × Int × List Int)) (a1 : Int) (a2 : Int) : Option ((Int × List (Int × (Int × Int × Int × Int × Int × Int × Int × Int × ByteArray × List Int) × Int × Int) × List (Int × Int × List Int)) × Bool × Int) :=
 g_retry_Hear_of (g_retry_Hear_at a0 a1 a2) (a0, a1, a2)
noncomputable def g_law17_body (a0 : Int × List (Int × (Int × Int × Int × Int × Int × Int × Int × Int × ByteArray × List Int) × Int × Int) × List (Int × Int × List Int)) (a1 : Int × Int × Int × Int × Int × Int × Int × Int × Int × Int × Int × ByteArray × List Int) : Option ((Int × List (Int × (Int × Int × Int × Int × Int × Int × Int × Int × ByteArray × List Int) × Int × Int) × List (Int × Int × List Int)) × Bool × Int × List Int × List (List (Int × Int × Int × Int × Int × Int × Int × Int × ByteArray × List Int))) :=
 bif (a1.1 == 0) then
 (g_retry_Post a0 a1.2.2.2 a1.2.1).bind fun y1 =>
 some (y1.1, (false, (y1.2.2, ([], [[y1.2.1]]))))
 else
 bif (a1.1 == 1) then
 (g_retry_Tick a0 a1.2.1).bind fun y2 =>
 some (y2.1, (false, (y2.2.2.2, ([], [y2.2.1, y2.2.2.1]))))
 else
 bif (a1.1 == 2) then
 (g_retry_Answered a0 a1.2.1).bind fun y3 =>
 some (y3.1, (y3.2.1, (y3.2.2, ([], []))))
 else
 bif (a1.1 == 3) then
 (g_retry_Hear a0 a1.2.1 a1.2.2.1).bind fun y4 =>
 some (y4.1, (y4.2.1, (y4.2.2, ([], []))))
 else
 (g_retry_Waiting a0 []).bind fun y5 =>
 bif (room 8 (y5 ++ [(-1)]).length) then
 (g_retry_Waiting a0 [a1.2.1, a1.2.2.1]).bind fun y6 =>
 bif (room 8 ((y5 ++ [(-1)]) ++ y6).length) then
 some (a0, (false, (0, (((y5 ++ [(-1)]) ++ y6), []))))
 else none
 else none
noncomputable def g_r17_Hear_r1 (p4 : Int × Int × Int × List (Int × Int × List Int) × Int × Int × (Int × Unit) × List (Int × (Int × Int × Int × Int × Int × Int × Int × Int × ByteArray × List Int) × Int × Int) × (Int × List (Int × (Int × Int × Int × Int × Int × Int × Int × Int × ByteArray × List Int) × Int × Int) × List (Int × Int × List Int)) × (Int × Int × List Int) × Unit) : Option ((Int × Int × Int × List (Int × Int × List Int) × Int × Int × (Int × Unit) × List (Int × (Int × Int × Int × Int × Int × Int × Int × Int × ByteArray × List Int) × Int × Int) × (Int × List (Int × (Int × Int × Int × Int × Int × Int × Int × Int × ByteArray × List Int) × Int × Int) × List (Int × Int × List Int)) × (Int × Int × List Int) × Unit) ⊕ ((Int × Int × Int × (Int × List (Int × (Int × Int × Int × Int × Int × Int × Int × Int × ByteArray × List Int) × Int × Int) × List (Int × Int × List Int)) × (Int × List (Int × (Int × Int × Int × Int × Int × Int × Int × Int × ByteArray × List Int) × Int × Int) × List (Int × Int × List Int)) × (Int × Int × List Int) × Unit))) :=
 bif (decide (p4.2.2.2.2.2.1 < p4.2.2.2.2.1)) then
 (bif (within p4.2.2.2.2.2.1 p4.2.2.2.1.length) then
 bif ((((p4.2.2.2.1.getD p4.2.2.2.2.2.1.toNat (0, (0, [])))).1) == p4.1) then
 some (p4.1, p4.2.1, p4.2.2.1, p4.2.2.2.1, p4.2.2.2.2.1, p4.2.2.2.2.2.1, (p4.2.2.2.2.2.2.1.1, ()), p4.2.2.2.2.2.2.2.1, p4.2.2.2.2.2.2.2.2.1, (p4.2.2.2.1.getD p4.2.2.2.2.2.1.toNat (0, (0, []))), ())
 else
 some (p4.1, p4.2.1, (IntKind.i64.wrap (p4.2.2.1 + 1)), p4.2.2.2.1, p4.2.2.2.2.1, p4.2.2.2.2.2.1, (p4.2.2.2.2.2.2.1.1, ()), p4.2.2.2.2.2.2.2.1, p4.2.2.2.2.2.2.2.2.1, p4.2.2.2.2.2.2.2.2.2.1, ())
 else none : Option ((Int × Int × Int × List (Int × Int × List Int) × Int × Int × (Int × Unit) × List (Int × (Int × Int × Int × Int × Int × Int × Int × Int × ByteArray × List Int) × Int × Int) × (Int × List (Int × (Int × Int × Int × Int × Int × Int × Int × Int × ByteArray × List Int) × Int × Int) × List (Int × Int × List Int)) × (Int × Int × List Int) × Unit))).bind fun j5 => 
 some (Sum.inl (j5.1, j5.2.1, j5.2.2.1, j5.2.2.2.1, j5.2.2.2.2.1, (IntKind.i64.wrap (j5.2.2.2.2.2.1 + 1)), (j5.2.2.2.2.2.2.1.1, ()), j5.2.2.2.2.2.2.2.1, j5.2.2.2.2.2.2.2.2.1, j5.2.2.2.2.2.2.2.2.2.1, ()))
 else
 some (Sum.inr (p4.1, p4.2.1, p4.2.2.1, (p4.2.2.2.2.2.2.1.1, (p4.2.2.2.2.2.2.2.1, p4.2.2.2.1)), p4.2.2.2.2.2.2.2.2.1, p4.2.2.2.2.2.2.2.2.2.1, ()))
noncomputable def g_r17_Hear_r2 (p10 : Int × (List (Int × Int × List Int)) × List (Int × Int × List Int) × Int × Int × (Int × Unit) × List (Int × (Int × Int × Int × Int × Int × Int × Int × Int × ByteArray × List Int) × Int × Int) × (Int × List (Int × (Int × Int × Int × Int × Int × Int × Int × Int × ByteArray × List Int) × Int × Int) × List (Int × Int × List Int)) × (Int × Int × List Int) × Unit) : Option ((Int × (List (Int × Int × List Int)) × List (Int × Int × List Int) × Int × Int × (Int × Unit) × List (Int × (Int × Int × Int × Int × Int × Int × Int × Int × ByteArray × List Int) × Int × Int) × (Int × List (Int × (Int × Int × Int × Int × Int × Int × Int × Int × ByteArray × List Int) × Int × Int) × List (Int × Int × List Int)) × (Int × Int × List Int) × Unit) ⊕ ((Int × (List (Int × Int × List Int)) × (Int × List (Int × (Int × Int × Int × Int × Int × Int × Int × Int × ByteArray × List Int) × Int × Int) × List (Int × Int × List Int)) × (Int × List (Int × (Int × Int × Int × Int × Int × Int × Int × Int × ByteArray × List Int) × Int × Int) × List (Int × Int × List Int)) × (Int × Int × List Int) × Unit))) :=
 bif (decide (p10.2.2.2.2.1 < p10.2.2.2.1)) then
 (bif (within p10.2.2.2.2.1 p10.2.2.1.length) then
 bif (decide (((p10.2.2.1.getD p10.2.2.2.2.1.toNat (0, (0, [])))).1 < p10.1)) then
 bif (room 40 (p10.2.1 ++ [(p10.2.2.1.getD p10.2.2.2.2.1.toNat (0, (0, [])))]).length) then
 some (p10.1, (p10.2.1 ++ [(p10.2.2.1.getD p10.2.2.2.2.1.toNat (0, (0, [])))]), p10.2.2.1, p10.2.2.2.1, p10.2.2.2.2.1, (p10.2.2.2.2.2.1.1, ()), p10.2.2.2.2.2.2.1, p10.2.2.2.2.2.2.2.1, p10.2.2.2.2.2.2.2.2.1, ())
 else none
 else
 some (p10.1, p10.2.1, p10.2.2.1, p10.2.2.2.1, p10.2.2.2.2.1, (p10.2.2.2.2.2.1.1, ()), p10.2.2.2.2.2.2.1, p10.2.2.2.2.2.2.2.1, p10.2.2.2.2.2.2.2.2.1, ())
 else none : Option ((Int × (List (Int × Int × List Int)) × List (Int × Int × List Int) × Int × Int × (Int × Unit) × List (Int × (Int × Int × Int × Int × Int × Int × Int × Int × ByteArray × List Int) × Int × Int) × (Int × List (Int × (Int × Int × Int × Int × Int × Int × Int × Int × ByteArray × List Int) × Int × Int) × List (Int × Int × List Int)) × (Int × Int × List Int) × Unit))).bind fun j11 => 
 some (Sum.inl (j11.1, j11.2.1, j11.2.2.1, j11.2.2.2.1, (IntKind.i64.wrap (j11.2.2.2.2.1 + 1)), (j11.2.2.2.2.2.1.1, ()), j11.2.2.2.2.2.2.1, j11.2.2.2.2.2.2.2.1, j11.2.2.2.2.2.2.2.2.1, ()))
 else
 some (Sum.inr (p10.1, p10.2.1, (p10.2.2.2.2.2.1.1, (p10.2.2.2.2.2.2.1, p10.2.2.1)), p10.2.2.2.2.2.2.2.1, p10.2.2.2.2.2.2.2.2.1, ()))
noncomputable def g_r17_Hear_r3 (p13 : Int × (List (Int × Int × List Int)) × List (Int × Int × List Int) × Int × Int × (Int × Unit) × List (Int × (Int × Int × Int × Int × Int × Int × Int × Int × ByteArray × List Int) × Int × Int) × (Int × List (Int × (Int × Int × Int × Int × Int × Int × Int × Int × ByteArray × List Int) × Int × Int) × List (Int × Int × List Int)) × Unit) : Option ((Int × (List (Int × Int × List Int)) × List (Int × Int × List Int) × Int × Int × (Int × Unit) × List (Int × (Int × Int × Int × Int × Int × Int × Int × Int × ByteArray × List Int) × Int × Int) × (Int × List (Int × (Int × Int × Int × Int × Int × Int × Int × Int × ByteArray × List Int) × Int × Int) × List (Int × Int × List Int)) × Unit) ⊕ (((List (Int × Int × List Int)) × (Int × List (Int × (Int × Int × Int × Int × Int × Int × Int × Int × ByteArray × List Int) × Int × Int) × List (Int × Int × List Int)) × (Int × List (Int × (Int × Int × Int × Int × Int × Int × Int × Int × ByteArray × List Int) × Int × Int) × List (Int × Int × List Int)) × Unit))) :=
 bif (decide (p13.2.2.2.2.1 < p13.2.2.2.1)) then
 (bif (within p13.2.2.2.2.1 p13.2.2.1.length) then
 bif (decide (((p13.2.2.1.getD p13.2.2.2.2.1.toNat (0, (0, [])))).1 > p13.1)) then
 bif (room 40 (p13.2.1 ++ [(p13.2.2.1.getD p13.2.2.2.2.1.toNat (0, (0, [])))]).length) then
 some (p13.1, (p13.2.1 ++ [(p13.2.2.1.getD p13.2.2.2.2.1.toNat (0, (0, [])))]), p13.2.2.1, p13.2.2.2.1, p13.2.2.2.2.1, (p13.2.2.2.2.2.1.1, ()), p13.2.2.2.2.2.2.1, p13.2.2.2.2.2.2.2.1, ())
 else none
 else
 some (p13.1, p13.2.1, p13.2.2.1, p13.2.2.2.1, p13.2.2.2.2.1, (p13.2.2.2.2.2.1.1, ()), p13.2.2.2.2.2.2.1, p13.2.2.2.2.2.2.2.1, ())
 else none : Option ((Int × (List (Int × Int × List Int)) × List (Int × Int × List Int) × Int × Int × (Int × Unit) × List (Int × (Int × Int × Int × Int × Int × Int × Int × Int × ByteArray × List Int) × Int × Int) × (Int × List (Int × (Int × Int × Int × Int × Int × Int × Int × Int × ByteArray × List Int) × Int × Int) × List (Int × Int × List Int)) × Unit))).bind fun j14 => 
 some (Sum.inl (j14.1, j14.2.1, j14.2.2.1, j14.2.2.2.1, (IntKind.i64.wrap (j14.2.2.2.2.1 + 1)), (j14.2.2.2.2.2.1.1, ()), j14.2.2.2.2.2.2.1, j14.2.2.2.2.2.2.2.1, ()))
 else
 some (Sum.inr (p13.2.1, (p13.2.2.2.2.2.1.1, (p13.2.2.2.2.2.2.1, p13.2.2.1)), p13.2.2.2.2.2.2.2.1, ()))
noncomputable def g_r17_Hear (a0 : Int × List (Int × (Int × Int × Int × Int × Int × Int × Int × Int × ByteArray × List Int) × Int × Int) × List (Int × Int × List Int)) (a1 : Int) (a2 : Int) : Option ((Int × List (Int × (Int × Int × Int × Int × Int × Int × Int × Int × ByteArray × List Int) × Int × Int) × List (Int × Int × List Int)) × Bool × Int) :=
 ((g_r17_Check a0).bind fun y1 =>
 bif (y1 != 0) then
 some (a1, a2, true, a0, (0, ([], [])), ())
 else
 bif (decide (a1 < 0)) then
 some (a1, a2, true, a0, (0, ([], [])), ())
 else
 bif (decide (a1 > 1073741824)) then
 some (a1, a2, true, a0, (0, ([], [])), ())
 else
 bif (decide (a2 < 0)) then
 some (a1, a2, true, a0, (0, ([], [])), ())
 else
 some (a1, a2, (decide (a2 > 1073741824)), a0, (0, ([], [])), ()) : Option ((Int × Int × Bool × (Int × List (Int × (Int × Int × Int × Int × Int × Int × Int × Int × ByteArray × List Int) × Int × Int) × List (Int × Int × List Int)) × (Int × List (Int × (Int × Int × Int × Int × Int × Int × Int × Int × ByteArray × List Int) × Int × Int) × List (Int × Int × List Int)) × Unit))).bind fun j2 => 
 bif j2.2.2.1 then
 some ((0, ([], [])), (false, 1))
 else
 (g_r17_Copy j2.2.2.2.1).bind fun y3 =>
 (iter (g_r17_Hear_r1) (j2.1, j2.2.1, 0, y3.2.2, (y3.2.2.length : Int), 0, (y3.1, ()), y3.2.1, j2.2.2.2.2.1, (j2.1, (0, [])), ())).bind fun j6 => 
 bif (decide (j6.2.2.1 ≥ 64)) then
 some ((0, ([], [])), (false, 2))
 else
 (bif (decide (j6.2.1 < j6.2.2.2.2.2.1.2.1)) then
 some (j6.1, j6.2.1, true, j6.2.2.2.1, j6.2.2.2.2.1, j6.2.2.2.2.2.1, ())
 else
 (g_r17_in j6.2.2.2.2.2.1.2.2 j6.2.1).bind fun y7 =>
 some (j6.1, j6.2.1, y7, j6.2.2.2.1, j6.2.2.2.2.1, j6.2.2.2.2.2.1, ()) : Option ((Int × Int × Bool × (Int × List (Int × (Int × Int × Int × Int × Int × Int × Int × Int × ByteArray × List Int) × Int × Int) × List (Int × Int × List Int)) × (Int × List (Int × (Int × Int × Int × Int × Int × Int × Int × Int × ByteArray × List Int) × Int × Int) × List (Int × Int × List Int)) × (Int × Int × List Int) × Unit))).bind fun j8 => 
 bif j8.2.2.1 then
 some (j8.2.2.2.1, (false, 0))
 else
 (g_r17_settled j8.2.2.2.2.2.1 j8.2.1).bind fun y9 =>
 (iter (g_r17_Hear_r2) (j8.1, [], j8.2.2.2.1.2.2, (j8.2.2.2.1.2.2.length : Int), 0, (j8.2.2.2.1.1, ()), j8.2.2.2.1.2.1, j8.2.2.2.2.1, y9, ())).bind fun j12 => 
 bif (room 40 (j12.2.1 ++ [j12.2.2.2.2.1]).length) then
 (iter (g_r17_Hear_r3) (j12.1, (j12.2.1 ++ [j12.2.2.2.2.1]), j12.2.2.1.2.2, (j12.2.2.1.2.2.length : Int), 0, (j12.2.2.1.1, ()), j12.2.2.1.2.1, j12.2.2.2.1, ())).bind fun j15 => 
 some ((j15.2.1.1, (j15.2.1.2.1, j15.1)), (true, 0))
 else none
noncomputable def g_law17_model (a0 : Int × List (Int × (Int × Int × Int × Int × Int × Int × Int × Int × ByteArray × List Int) × Int × Int) × List (Int × Int × List Int)) (a1 : Int × Int × Int × Int × Int × Int × Int × Int × Int × Int × Int × ByteArray × List Int) : Option ((Int × List (Int × (Int × Int × Int × Int × Int × Int × Int × Int × ByteArray × List Int) × Int × Int) × List (Int × Int × List Int)) × Bool × Int × List Int × List (List (Int × Int × Int × Int × Int × Int × Int × Int × ByteArray × List Int))) :=
 bif (a1.1 == 0) then
 (g_r17_Post a0 a1.2.2.2 a1.2.1).bind fun y1 =>
 some (y1.1, (false, (y1.2.2, ([], [[y1.2.1]]))))
 else
 bif (a1.1 == 1) then
 (g_r17_Tick a0 a1.2.1).bind fun y2 =>
 some (y2.1, (false, (y2.2.2.2, ([], [y2.2.1, y2.2.2.1]))))
 else
 bif (a1.1 == 2) then
 (g_r17_Answered a0 a1.2.1).bind fun y3 =>
 some (y3.1, (y3.2.1, (y3.2.2, ([], []))))
 else
 bif (a1.1 == 3) then
 (g_r17_Hear a0 a1.2.1 a1.2.2.1).bind fun y4 =>
 some (y4.1, (y4.2.1, (y4.2.2, ([], []))))
 else
 (g_r17_Waiting a0 []).bind fun y5 =>
 bif (room 8 (y5 ++ [(-1)]).length) then
 (g_r17_Waiting a0 [a1.2.1, a1.2.2.1]).bind fun y6 =>
 bif (room 8 ((y5 ++ [(-1)]) ++ y6).length) then
 some (a0, (false, (0, (((y5 ++ [(-1)]) ++ y6), []))))
 else none
 else none
noncomputable def g_law17_RetryDoes_r1 (p12 : Bool × (List (Int × Int × Int × Int × Int × Int × Int × Int × Int × Int × Int × ByteArray × List Int)) × Int × Int × (Int × List (Int × (Int × Int × Int × Int × Int × Int × Int × Int × ByteArray × List Int) × Int × Int) × List (Int × Int × List Int)) × (Int × List (Int × (Int × Int × Int × Int × Int × Int × Int × Int × ByteArray × List Int) × Int × Int) × List (Int × Int × List Int)) × Unit) : Option ((Bool × (List (Int × Int × Int × Int × Int × Int × Int × Int × Int × Int × Int × ByteArray × List Int)) × Int × Int × (Int × List (Int × (Int × Int × Int × Int × Int × Int × Int × Int × ByteArray × List Int) × Int × Int) × List (Int × Int × List Int)) × (Int × List (Int × (Int × Int × Int × Int × Int × Int × Int × Int × ByteArray × List Int) × Int × Int) × List (Int × Int × List Int)) × Unit) ⊕ ((Bool × Unit) ⊕ (Bool × Unit))) :=
 bif (decide (p12.2.2.2.1 < p12.2.2.1)) then
 (bif (within p12.2.2.2.1 p12.2.1.length) then
 (g_r15_Big (((((p12.2.1.getD p12.2.2.2.1.toNat (0, (0, (0, (0, (0, (0, (0, (0, (0, (0, (0, (ByteArray.empty, [])))))))))))))).2).2).2)).bind fun y13 =>
 bif y13 then
 some (Sum.inr (p12.1, ()))
 else
 (g_r17_Copy p12.2.2.2.2.1).bind fun y14 =>
 (g_law17_body p12.2.2.2.2.1 (p12.2.1.getD p12.2.2.2.1.toNat (0, (0, (0, (0, (0, (0, (0, (0, (0, (0, (0, (ByteArray.empty, [])))))))))))))).bind fun y15 =>
 (g_law17_model p12.2.2.2.2.2.1 (p12.2.1.getD p12.2.2.2.1.toNat (0, (0, (0, (0, (0, (0, (0, (0, (0, (0, (0, (ByteArray.empty, [])))))))))))))).bind fun y16 =>
 ((g_r17_Equal y15.1 y16.1).bind fun y17 =>
 bif (!y17) then
 some (p12.1, p12.2.1, p12.2.2.1, p12.2.2.2.1, true, p12.2.2.2.2.1, p12.2.2.2.2.2.1, y15.1, y15.2, y16.1, ())
 else
 (g_law17_same y15.2 y16.2).bind fun y18 =>
 bif (!y18) then
 some (p12.1, p12.2.1, p12.2.2.1, p12.2.2.2.1, true, p12.2.2.2.2.1, p12.2.2.2.2.2.1, y15.1, y15.2, y16.1, ())
 else
 (g_r17_Equal p12.2.2.2.2.1 y14).bind fun y19 =>
 bif (!y19) then
 some (p12.1, p12.2.1, p12.2.2.1, p12.2.2.2.1, true, p12.2.2.2.2.1, p12.2.2.2.2.2.1, y15.1, y15.2, y16.1, ())
 else
 (g_retry_Check p12.2.2.2.2.1).bind fun y20 =>
 (g_r17_Check p12.2.2.2.2.2.1).bind fun y21 =>
 some (p12.1, p12.2.1, p12.2.2.1, p12.2.2.2.1, (y20 != y21), p12.2.2.2.2.1, p12.2.2.2.2.2.1, y15.1, y15.2, y16.1, ()) : Option ((Bool × (List (Int × Int × Int × Int × Int × Int × Int × Int × Int × Int × Int × ByteArray × List Int)) × Int × Int × Bool × (Int × List (Int × (Int × Int × Int × Int × Int × Int × Int × Int × ByteArray × List Int) × Int × Int) × List (Int × Int × List Int)) × (Int × List (Int × (Int × Int × Int × Int × Int × Int × Int × Int × ByteArray × List Int) × Int × Int) × List (Int × Int × List Int)) × (Int × List (Int × (Int × Int × Int × Int × Int × Int × Int × Int × ByteArray × List Int) × Int × Int) × List (Int × Int × List Int)) × (Bool × Int × List Int × List (List (Int × Int × Int × Int × Int × Int × Int × Int × ByteArray × List Int))) × (Int × List (Int × (Int × Int × Int × Int × Int × Int × Int × Int × ByteArray × List Int) × Int × Int) × List (Int × Int × List Int)) × Unit))).bind fun j22 => 
 bif j22.2.2.2.2.1 then
 some (Sum.inr (false, ()))
 else
 bif (j22.2.2.2.2.2.2.2.2.1.2.1 == 0) then
 some (Sum.inl (j22.1, j22.2.1, j22.2.2.1, j22.2.2.2.1, j22.2.2.2.2.2.2.2.1, j22.2.2.2.2.2.2.2.2.2.1, ()))
 else
 some (Sum.inl (j22.1, j22.2.1, j22.2.2.1, j22.2.2.2.1, j22.2.2.2.2.2.1, j22.2.2.2.2.2.2.1, ()))
 else none : Option ((Bool × (List (Int × Int × Int × Int × Int × Int × Int × Int × Int × Int × Int × ByteArray × List Int)) × Int × Int × (Int × List (Int × (Int × Int × Int × Int × Int × Int × Int × Int × ByteArray × List Int) × Int × Int) × List (Int × Int × List Int)) × (Int × List (Int × (Int × Int × Int × Int × Int × Int × Int × Int × ByteArray × List Int) × Int × Int) × List (Int × Int × List Int)) × Unit) ⊕ (Bool × Unit))).bind fun j23 => 
 (match j23 with
 | .inl j24 =>
 (some (Sum.inl (j24.1, j24.2.1, j24.2.2.1, (IntKind.i64.wrap (j24.2.2.2.1 + 1)), j24.2.2.2.2.1, j24.2.2.2.2.2.1, ())))
 | .inr j25 =>
 (some (Sum.inr (Sum.inr (j25.1, ())))))
 else
 some (Sum.inr (Sum.inl (p12.1, ())))
noncomputable def g_law17_RetryDoes (a0 : Int × List (Int × (Int × Int × Int × Int × Int × Int × Int × Int × ByteArray × List Int) × Int × Int) × List (Int × Int × List Int)) (a1 : Int × List (Int × (Int × Int × Int × Int × Int × Int × Int × Int × ByteArray × List Int) × Int × Int) × List (Int × Int × List Int)) (a2 : List (Int × Int × Int × Int × Int × Int × Int × Int × Int × Int × Int × ByteArray × List Int)) : Option (Bool) :=
 (g_law17_live).bind fun y1 =>
 ((g_law17_few a0).bind fun y2 =>
 bif (!y2) then
 some (a2, y1, true, a0, a1, ())
 else
 (g_law17_few a1).bind fun y3 =>
 bif (!y3) then
 some (a2, y1, true, a0, a1, ())
 else
 some (a2, y1, (decide ((a2.length : Int) > 60)), a0, a1, ()) : Option (((List (Int × Int × Int × Int × Int × Int × Int × Int × Int × Int × Int × ByteArray × List Int)) × Bool × Bool × (Int × List (Int × (Int × Int × Int × Int × Int × Int × Int × Int × ByteArray × List Int) × Int × Int) × List (Int × Int × List Int)) × (Int × List (Int × (Int × Int × Int × Int × Int × Int × Int × Int × ByteArray × List Int) × Int × Int) × List (Int × Int × List Int)) × Unit))).bind fun j4 => 
 bif j4.2.2.1 then
 some j4.2.1
 else
 ((g_retry_Same j4.2.2.2.1 j4.2.2.2.2.1).bind fun y5 =>
 (g_r17_Same j4.2.2.2.1 j4.2.2.2.2.1).bind fun y6 =>
 bif (!(y5 == y6)) then
 some (j4.1, j4.2.1, true, j4.2.2.2.1, ())
 else
 (g_retry_New).bind fun y7 =>
 (g_r17_New).bind fun y8 =>
 (g_r17_Equal y7 y8).bind fun y9 =>
 some (j4.1, j4.2.1, (!y9), j4.2.2.2.1, ()) : Option (((List (Int × Int × Int × Int × Int × Int × Int × Int × Int × Int × Int × ByteArray × List Int)) × Bool × Bool × (Int × List (Int × (Int × Int × Int × Int × Int × Int × Int × Int × ByteArray × List Int) × Int × Int) × List (Int × Int × List Int)) × Unit))).bind fun j10 => 
 bif j10.2.2.1 then
 some false
 else
 (g_r17_Copy j10.2.2.2.1).bind fun y11 =>
 (iter (g_law17_RetryDoes_r1) (j10.2.1, j10.1, (j10.1.length : Int), 0, j10.2.2.2.1, y11, ())).bind fun j26 => 
 (match j26 with
 | .inl j27 =>
 (some j27.1)
 | .inr j28 =>
 (some j28.1))
end Go.Sq
