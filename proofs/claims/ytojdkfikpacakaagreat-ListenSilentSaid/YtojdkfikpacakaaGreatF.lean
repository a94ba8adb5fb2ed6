/- Parts of a proof: evaluation of Go code over typed values, and what it computes. -/
import Derived.Test.YtojdkfikpacakaaGreatX1
set_option linter.unusedSimpArgs false
set_option linter.unusedVariables false
set_option linter.unusedSectionVars false
set_option linter.unusedVariables false
set_option maxRecDepth 100000
namespace Go.Sq
open Go.Rx
noncomputable def g_decoder_Start : Option (List Int × List Int × Bool × Bool × Int) :=
 some ((List.replicate 16 0), ((List.replicate 6 0), (false, (false, 1))))
noncomputable def g_fixed_within (a0 : Int) (a1 : Int) (a2 : Int) : Option (Int) :=
 some (if a1 < (if a2 < a0 then a2 else a0) then (if a2 < a0 then a2 else a0) else a1)
noncomputable def g_fixed_Sat (a0 : Int) (a1 : Int) : Option (Int) :=
 (g_fixed_within a1 1 62).bind fun y1 =>
 bif (decide (0 ≤ (IntKind.i64.wrap (y1 - 1)))) then
 (g_fixed_within a0 (bitsI .xor .i64 (-1) (IntKind.i64.wrap ((shlI .i64 1 (IntKind.i64.wrap (y1 - 1))) - 1))) (IntKind.i64.wrap ((shlI .i64 1 (IntKind.i64.wrap (y1 - 1))) - 1))).bind fun y2 =>
 some y2
 else none
noncomputable def g_lapped_Check_r1 (p1 : List Int × Int × Unit) : Option ((List Int × Int × Unit) ⊕ (Unit ⊕ (Int × Unit))) :=
 bif (decide (p1.2.1 < 16)) then
 bif (within p1.2.1 16) then
 (g_fixed_Sat (p1.1.getD p1.2.1.toNat 0) 16).bind fun y2 =>
 bif (y2 != (p1.1.getD p1.2.1.toNat 0)) then
 some (Sum.inr (Sum.inr (1, ())))
 else
 some (Sum.inl (p1.1, (IntKind.i64.wrap (p1.2.1 + 1)), ()))
 else none
 else
 some (Sum.inr (Sum.inl ()))
noncomputable def g_lapped_Check (a0 : List Int) : Option (Int) :=
 (iter (g_lapped_Check_r1) (a0, 0, ())).bind fun j3 => 
 (match j3 with
 | .inl j4 =>
 (some 0)
 | .inr j5 =>
 (some j5.1))
noncomputable def g_math_bits_Len64 (a0 : Int) : Option (Int) :=
 (bif (decide (a0 ≥ 4294967296)) then
 some ((shrI .u64 a0 32), 32, ())
 else
 some (a0, 0, ()) : Option ((Int × Int × Unit))).bind fun j1 => 
 (bif (decide (j1.1 ≥ 65536)) then
 some ((shrI .u64 j1.1 16), (IntKind.i64.wrap (j1.2.1 + 16)), ())
 else
 some (j1.1, j1.2.1, ()) : Option ((Int × Int × Unit))).bind fun j2 => 
 (bif (decide (j2.1 ≥ 256)) then
 some ((shrI .u64 j2.1 8), (IntKind.i64.wrap (j2.2.1 + 8)), ())
 else
 some (j2.1, j2.2.1, ()) : Option ((Int × Int × Unit))).bind fun j3 => 
 bif (within (IntKind.u8.wrap j3.1) ((ByteArray.mk #[0, 1, 2, 2, 3, 3, 3, 3, 4, 4, 4, 4, 4, 4, 4, 4, 5, 5, 5, 5, 5, 5, 5, 5, 5, 5, 5, 5, 5, 5, 5, 5, 6, 6, 6, 6, 6, 6, 6, 6, 6, 6, 6, 6, 6, 6, 6, 6, 6, 6, 6, 6, 6, 6, 6, 6, 6, 6, 6, 6, 6, 6, 6, 6, 7, 7, 7, 7, 7, 7, 7, 7, 7, 7, 7, 7, 7, 7, 7, 7, 7, 7, 7, 7, 7, 7, 7, 7, 7, 7, 7, 7, 7, 7, 7, 7, 7, 7, 7, 7, 7, 7, 7, 7, 7, 7, 7, 7, 7, 7, 7, 7, 7, 7, 7, 7, 7, 7, 7, 7, 7, 7, 7, 7, 7, 7, 7, 7, 8, 8, 8, 8, 8, 8, 8, 8, 8, 8, 8, 8, 8, 8, 8, 8, 8, 8, 8, 8, 8, 8, 8, 8, 8, 8, 8, 8, 8, 8, 8, 8, 8, 8, 8, 8, 8, 8, 8, 8, 8, 8, 8, 8, 8, 8, 8, 8, 8, 8, 8, 8, 8, 8, 8, 8, 8, 8, 8, 8, 8, 8, 8, 8, 8, 8, 8, 8, 8, 8, 8, 8, 8, 8, 8, 8, 8, 8, 8, 8, 8, 8, 8, 8, 8, 8, 8, 8, 8, 8, 8, 8, 8, 8, 8, 8, 8, 8, 8, 8, 8, 8, 8, 8, 8, 8, 8, 8, 8, 8, 8, 8, 8, 8, 8, 8, 8, 8, 8, 8, 8, 8, 8, 8, 8, 8, 8, 8]).size)) then
 some (IntKind.i64.wrap (j3.2.1 + (IntKind.i64.wrap (((ByteArray.mk #[0, 1, 2, 2, 3, 3, 3, 3, 4, 4, 4, 4, 4, 4, 4, 4, 5, 5, 5, 5, 5, 5, 5, 5, 5, 5, 5, 5, 5, 5, 5, 5, 6, 6, 6, 6, 6, 6, 6, 6, 6, 6, 6, 6, 6, 6, 6, 6, 6, 6, 6, 6, 6, 6, 6, 6, 6, 6, 6, 6, 6, 6, 6, 6, 7, 7, 7, 7, 7, 7, 7, 7, 7, 7, 7, 7, 7, 7, 7, 7, 7, 7, 7, 7, 7, 7, 7, 7, 7, 7, 7, 7, 7, 7, 7, 7, 7, 7, 7, 7, 7, 7, 7, 7, 7, 7, 7, 7, 7, 7, 7, 7, 7, 7, 7, 7, 7, 7, 7, 7, 7, 7, 7, 7, 7, 7, 7, 7, 8, 8, 8, 8, 8, 8, 8, 8, 8, 8, 8, 8, 8, 8, 8, 8, 8, 8, 8, 8, 8, 8, 8, 8, 8, 8, 8, 8, 8, 8, 8, 8, 8, 8, 8, 8, 8, 8, 8, 8, 8, 8, 8, 8, 8, 8, 8, 8, 8, 8, 8, 8, 8, 8, 8, 8, 8, 8, 8, 8, 8, 8, 8, 8, 8, 8, 8, 8, 8, 8, 8, 8, 8, 8, 8, 8, 8, 8, 8, 8, 8, 8, 8, 8, 8, 8, 8, 8, 8, 8, 8, 8, 8, 8, 8, 8, 8, 8, 8, 8, 8, 8, 8, 8, 8, 8, 8, 8, 8, 8, 8, 8, 8, 8, 8, 8, 8, 8, 8, 8, 8, 8, 8, 8, 8, 8, 8, 8]).data.getD (IntKind.u8.wrap j3.1).toNat 0).toNat : Int))))
 else none
noncomputable def g_fixed_Sqrt_r1 (p2 : Int × Int × Unit) : Option ((Int × Int × Unit) ⊕ ((Int × Unit))) :=
 bif (p2.2.1 != 0) then
 bif (decide ((IntKind.u64.wrap ((IntKind.u64.wrap (p2.2.1 + (IntKind.u64.wrap (p2.1.tdiv p2.2.1)))).tdiv 2)) ≥ p2.2.1)) then
 some (Sum.inr (p2.2.1, ()))
 else
 some (Sum.inl (p2.1, (IntKind.u64.wrap ((IntKind.u64.wrap (p2.2.1 + (IntKind.u64.wrap (p2.1.tdiv p2.2.1)))).tdiv 2)), ()))
 else none
noncomputable def g_fixed_Sqrt (a0 : Int) : Option (Int) :=
 bif (a0 == 0) then
 some 0
 else
 (g_math_bits_Len64 a0).bind fun y1 =>
 bif (decide (0 ≤ (IntKind.i64.wrap ((IntKind.i64.wrap (y1 + 1)).tdiv 2)))) then
 (iter (g_fixed_Sqrt_r1) (a0, (shlI .u64 1 (IntKind.i64.wrap ((IntKind.i64.wrap (y1 + 1)).tdiv 2))), ())).bind fun j3 => 
 some j3.1
 else none
noncomputable def g_table_halves_r1 (p1 : Int × (List (Int × Int)) × Unit) : Option ((Int × (List (Int × Int)) × Unit) ⊕ (((List (Int × Int)) × Unit))) :=
 bif (decide (p1.1 ≤ 7)) then
 bif (within (IntKind.i64.wrap (p1.1 - 1)) 8) then
 (g_fixed_Sqrt (shlI .u64 (IntKind.u64.wrap (IntKind.i64.wrap (1073741824 + (((p1.2.1.getD ((IntKind.i64.wrap (p1.1 - 1)).toNat) (0, 0))).1)))) 29)).bind fun y2 =>
 (g_fixed_Sqrt (shlI .u64 (IntKind.u64.wrap (IntKind.i64.wrap (1073741824 - (((p1.2.1.getD ((IntKind.i64.wrap (p1.1 - 1)).toNat) (0, 0))).1)))) 29)).bind fun y3 =>
 bif (within p1.1 8) then
 some (Sum.inl ((IntKind.i64.wrap (p1.1 + 1)), (p1.2.1.set p1.1.toNat ((IntKind.i64.wrap y2), (IntKind.i64.wrap y3))), ()))
 else none
 else none
 else
 some (Sum.inr (p1.2.1, ()))
noncomputable def g_table_halves : Option (List (Int × Int)) :=
 bif (within 1 8) then
 bif (within 2 8) then
 (iter (g_table_halves_r1) (3, (((List.replicate 8 (0, 0)).set 1 ((-1073741824), 0)).set 2 (0, 1073741824)), ())).bind fun j4 => 
 some j4.1
 else none
 else none
noncomputable def g_fixed_Round (a0 : Int) (a1 : Int) : Option (Int) :=
 bif (decide (a1 < 1)) then
 some a0
 else
 bif (decide (a1 > 62)) then
 some 0
 else
 bif (decide (0 ≤ a1)) then
 bif (decide (0 ≤ (IntKind.i64.wrap (a1 - 1)))) then
 some (IntKind.i64.wrap ((shrI .i64 a0 a1) + (bitsI .and .i64 (shrI .i64 a0 (IntKind.i64.wrap (a1 - 1))) 1)))
 else none
 else none
noncomputable def g_table_point_turned (a0 : Int × Int) (a1 : Int × Int) : Option (Int × Int) :=
 (g_fixed_Round (IntKind.i64.wrap ((IntKind.i64.wrap (a0.1 * a1.1)) - (IntKind.i64.wrap (a0.2 * a1.2)))) 30).bind fun y1 =>
 (g_fixed_Round (IntKind.i64.wrap ((IntKind.i64.wrap (a0.1 * a1.2)) + (IntKind.i64.wrap (a0.2 * a1.1)))) 30).bind fun y2 =>
 some (y1, y2)
noncomputable def g_table_at_r1 (p3 : Int × Int × Int × (List (Int × Int)) × (List (Int × Int)) × (Int × Int) × Unit) : Option ((Int × Int × Int × (List (Int × Int)) × (List (Int × Int)) × (Int × Int) × Unit) ⊕ ((Int × Int × (List (Int × Int)) × (List (Int × Int)) × (Int × Int) × Unit))) :=
 bif (decide (p3.2.1 ≤ 7)) then
 (bif (decide (0 ≤ (IntKind.i64.wrap (7 - p3.2.1)))) then
 bif ((bitsI .and .i64 (shrI .i64 p3.1 (IntKind.i64.wrap (7 - p3.2.1))) 1) == 1) then
 bif (within p3.2.1 8) then
 (g_table_point_turned p3.2.2.2.2.2.1 ((p3.2.2.2.2.1.getD p3.2.1.toNat (0, 0)))).bind fun y4 =>
 some (p3.1, p3.2.1, p3.2.2.1, p3.2.2.2.1, p3.2.2.2.2.1, y4, ())
 else none
 else
 some (p3.1, p3.2.1, p3.2.2.1, p3.2.2.2.1, p3.2.2.2.2.1, p3.2.2.2.2.2.1, ())
 else none : Option ((Int × Int × Int × (List (Int × Int)) × (List (Int × Int)) × (Int × Int) × Unit))).bind fun j5 => 
 some (Sum.inl (j5.1, (IntKind.i64.wrap (j5.2.1 + 1)), j5.2.2.1, j5.2.2.2.1, j5.2.2.2.2.1, j5.2.2.2.2.2.1, ()))
 else
 some (Sum.inr (p3.1, p3.2.2.1, p3.2.2.2.1, p3.2.2.2.2.1, p3.2.2.2.2.2.1, ()))
noncomputable def g_table_at_r2 (p2 : Int × (List (Int × Int)) × (List (Int × Int)) × Unit) : Option ((Int × (List (Int × Int)) × (List (Int × Int)) × Unit) ⊕ (((List (Int × Int)) × Unit))) :=
 bif (decide (p2.1 < 128)) then
 (iter (g_table_at_r1) (p2.1, 1, p2.1, p2.2.1, p2.2.2.1, (1073741824, 0), ())).bind fun j6 => 
 bif (within j6.1 128) then
 some (Sum.inl ((IntKind.i64.wrap (j6.2.1 + 1)), (j6.2.2.1.set j6.1.toNat j6.2.2.2.2.1), j6.2.2.2.1, ()))
 else none
 else
 some (Sum.inr (p2.2.1, ()))
noncomputable def g_table_at (a0 : Int) : Option (Int × Int) :=
 (g_table_halves).bind fun y1 =>
 (iter (g_table_at_r2) (0, (List.replicate 128 (0, 0)), y1, ())).bind fun j7 => 
 bif (within (bitsI .and .i64 a0 127) 128) then
 some ((j7.1.getD ((bitsI .and .i64 a0 127).toNat) (0, 0)))
 else none
noncomputable def g_table_Sin (a0 : Int) : Option (Int) :=
 (g_table_at a0).bind fun y1 =>
 (g_fixed_Round y1.2 6).bind fun y2 =>
 some y2
noncomputable def g_table_Window (a0 : Int) : Option (Int × Int) :=
 (bif (decide (a0 < 0)) then
 some (a0, true, ())
 else
 some (a0, (decide (a0 ≥ 32)), ()) : Option ((Int × Bool × Unit))).bind fun j1 => 
 bif j1.2.1 then
 some (0, 1)
 else
 (g_table_Sin (IntKind.i64.wrap ((IntKind.i64.wrap (2 * j1.1)) + 1))).bind fun y2 =>
 some (y2, 0)
noncomputable def g_table_kernel (a0 : Int) (a1 : Int) : Option (Int) :=
 some (IntKind.i64.wrap ((IntKind.i64.wrap ((IntKind.i64.wrap ((IntKind.i64.wrap (2 * a0)) + 16)) + 1)) * (IntKind.i64.wrap ((IntKind.i64.wrap (2 * a1)) + 1))))
noncomputable def g_table_Row_r1 (p4 : Int × Int × Int × (List (Int × Int)) × (List (Int × Int)) × (Int × Int) × Unit) : Option ((Int × Int × Int × (List (Int × Int)) × (List (Int × Int)) × (Int × Int) × Unit) ⊕ ((Int × Int × (List (Int × Int)) × (List (Int × Int)) × (Int × Int) × Unit))) :=
 bif (decide (p4.2.1 ≤ 7)) then
 (bif (decide (0 ≤ (IntKind.i64.wrap (7 - p4.2.1)))) then
 bif ((bitsI .and .i64 (shrI .i64 p4.1 (IntKind.i64.wrap (7 - p4.2.1))) 1) == 1) then
 bif (within p4.2.1 8) then
 (g_table_point_turned p4.2.2.2.2.2.1 ((p4.2.2.2.2.1.getD p4.2.1.toNat (0, 0)))).bind fun y5 =>
 some (p4.1, p4.2.1, p4.2.2.1, p4.2.2.2.1, p4.2.2.2.2.1, y5, ())
 else none
 else
 some (p4.1, p4.2.1, p4.2.2.1, p4.2.2.2.1, p4.2.2.2.2.1, p4.2.2.2.2.2.1, ())
 else none : Option ((Int × Int × Int × (List (Int × Int)) × (List (Int × Int)) × (Int × Int) × Unit))).bind fun j6 => 
 some (Sum.inl (j6.1, (IntKind.i64.wrap (j6.2.1 + 1)), j6.2.2.1, j6.2.2.2.1, j6.2.2.2.2.1, j6.2.2.2.2.2.1, ()))
 else
 some (Sum.inr (p4.1, p4.2.2.1, p4.2.2.2.1, p4.2.2.2.2.1, p4.2.2.2.2.2.1, ()))
noncomputable def g_table_Row_r2 (p3 : Int × (List (Int × Int)) × (List (Int × Int)) × Unit) : Option ((Int × (List (Int × Int)) × (List (Int × Int)) × Unit) ⊕ (((List (Int × Int)) × Unit))) :=
 bif (decide (p3.1 < 128)) then
 (iter (g_table_Row_r1) (p3.1, 1, p3.1, p3.2.1, p3.2.2.1, (1073741824, 0), ())).bind fun j7 => 
 bif (within j7.1 128) then
 some (Sum.inl ((IntKind.i64.wrap (j7.2.1 + 1)), (j7.2.2.1.set j7.1.toNat j7.2.2.2.2.1), j7.2.2.2.1, ()))
 else none
 else
 some (Sum.inr (p3.2.1, ()))
noncomputable def g_table_Row_r3 (p9 : Int × List Int × Int × Int × (List (Int × Int)) × Unit) : Option ((Int × List Int × Int × Int × (List (Int × Int)) × Unit) ⊕ ((List Int × Unit))) :=
 bif (decide (p9.2.2.2.1 < p9.2.2.1)) then
 (g_table_kernel p9.2.2.2.1 p9.1).bind fun y10 =>
 bif (within (y10.tmod 128) 128) then
 (g_fixed_Round (((p9.2.2.2.2.1.getD ((y10.tmod 128).toNat) (0, 0))).1) 6).bind fun y11 =>
 bif (within p9.2.2.2.1 p9.2.1.length) then
 some (Sum.inl (p9.1, (p9.2.1.set p9.2.2.2.1.toNat y11), p9.2.2.1, (IntKind.i64.wrap (p9.2.2.2.1 + 1)), p9.2.2.2.2.1, ()))
 else none
 else none
 else
 some (Sum.inr (p9.2.1, ()))
noncomputable def g_table_Row (a0 : Int) : Option (List Int × Int) :=
 (bif (decide (a0 < 0)) then
 some (a0, true, ())
 else
 some (a0, (decide (a0 ≥ 16)), ()) : Option ((Int × Bool × Unit))).bind fun j1 => 
 bif j1.2.1 then
 some ([], 1)
 else
 (g_table_halves).bind fun y2 =>
 (iter (g_table_Row_r2) (0, (List.replicate 128 (0, 0)), y2, ())).bind fun j8 => 
 bif (decide (0 ≤ 32) && decide (32 ≤ 32) && room 8 32) then
 (iter (g_table_Row_r3) (j1.1, (List.replicate 32 (0 : Int)), ((List.replicate 32 (0 : Int)).length : Int), 0, j8.1, ())).bind fun j12 => 
 some (j12.1, 0)
 else none
noncomputable def g_lapped_shaped_r1 (p1 : Int × (List Int × List (List Int)) × Unit) : Option ((Int × (List Int × List (List Int)) × Unit) ⊕ (((List Int × List (List Int)) × Unit) ⊕ (Int × (List Int × List (List Int)) × Unit))) :=
 bif (decide (p1.1 < 32)) then
 (g_table_Window p1.1).bind fun y2 =>
 bif (within p1.1 32) then
 bif (y2.2 != 0) then
 some (Sum.inr (Sum.inr (y2.2, ((p1.2.1.1.set p1.1.toNat y2.1), p1.2.1.2), ())))
 else
 some (Sum.inl ((IntKind.i64.wrap (p1.1 + 1)), ((p1.2.1.1.set p1.1.toNat y2.1), p1.2.1.2), ()))
 else none
 else
 some (Sum.inr (Sum.inl (p1.2.1, ())))
noncomputable def g_lapped_shaped_r2 (p6 : Int × (List Int × List (List Int)) × Unit) : Option ((Int × (List Int × List (List Int)) × Unit) ⊕ (((List Int × List (List Int)) × Unit) ⊕ (Int × (List Int × List (List Int)) × Unit))) :=
 bif (decide (p6.1 < 16)) then
 (g_table_Row p6.1).bind fun y7 =>
 bif (within p6.1 16) then
 bif (y7.2 != 0) then
 some (Sum.inr (Sum.inr (y7.2, (p6.2.1.1, (p6.2.1.2.set p6.1.toNat y7.1)), ())))
 else
 some (Sum.inl ((IntKind.i64.wrap (p6.1 + 1)), (p6.2.1.1, (p6.2.1.2.set p6.1.toNat y7.1)), ()))
 else none
 else
 some (Sum.inr (Sum.inl (p6.2.1, ())))
noncomputable def g_lapped_shaped : Option ((List Int × List (List Int)) × Int) :=
 (iter (g_lapped_shaped_r1) (0, ((List.replicate 32 0), (List.replicate 16 [])), ())).bind fun j3 => 
 (match j3 with
 | .inl j4 =>
 ((iter (g_lapped_shaped_r2) (0, j4.1, ())).bind fun j8 => 
 (match j8 with
 | .inl j9 =>
 (some (j9.1, 0))
 | .inr j10 =>
 (some (j10.2.1, j10.1))))
 | .inr j5 =>
 (some (j5.2.1, j5.1)))
noncomputable def g_lapped_bounded_r1 (p1 : Int × List Int × Int × Int × Unit) : Option ((Int × List Int × Int × Int × Unit) ⊕ (Unit ⊕ (Bool × Unit))) :=
 bif (decide (p1.2.2.2.1 < p1.2.2.1)) then
 bif (within p1.2.2.2.1 p1.2.1.length) then
 (bif (decide ((p1.2.1.getD p1.2.2.2.1.toNat 0) < (IntKind.i64.wrap (0 - p1.1)))) then
 some (p1.1, p1.2.1, p1.2.2.1, p1.2.2.2.1, true, ())
 else
 some (p1.1, p1.2.1, p1.2.2.1, p1.2.2.2.1, (decide ((p1.2.1.getD p1.2.2.2.1.toNat 0) > p1.1)), ()) : Option ((Int × List Int × Int × Int × Bool × Unit))).bind fun j2 => 
 bif j2.2.2.2.2.1 then
 some (Sum.inr (Sum.inr (false, ())))
 else
 some (Sum.inl (j2.1, j2.2.1, j2.2.2.1, (IntKind.i64.wrap (j2.2.2.2.1 + 1)), ()))
 else none
 else
 some (Sum.inr (Sum.inl ()))
noncomputable def g_lapped_bounded (a0 : List Int) (a1 : Int) : Option (Bool) :=
 (iter (g_lapped_bounded_r1) (a1, a0, (a0.length : Int), 0, ())).bind fun j3 => 
 (match j3 with
 | .inl j4 =>
 (some true)
 | .inr j5 =>
 (some j5.1))
noncomputable def g_bands_edges : Option (List Int) :=
 some [0, 1, 2, 4, 6, 10, 16]
noncomputable def g_math_bits_Mul64 (a0 : Int) (a1 : Int) : Option (Int × Int) :=
 some ((IntKind.u64.wrap ((IntKind.u64.wrap ((IntKind.u64.wrap ((shrI .u64 a0 32) * (shrI .u64 a1 32))) + (shrI .u64 (IntKind.u64.wrap ((IntKind.u64.wrap ((shrI .u64 a0 32) * (bitsI .and .u64 a1 4294967295))) + (shrI .u64 (IntKind.u64.wrap ((bitsI .and .u64 a0 4294967295) * (bitsI .and .u64 a1 4294967295))) 32))) 32))) + (shrI .u64 (IntKind.u64.wrap ((bitsI .and .u64 (IntKind.u64.wrap ((IntKind.u64.wrap ((shrI .u64 a0 32) * (bitsI .and .u64 a1 4294967295))) + (shrI .u64 (IntKind.u64.wrap ((bitsI .and .u64 a0 4294967295) * (bitsI .and .u64 a1 4294967295))) 32))) 4294967295) + (IntKind.u64.wrap ((bitsI .and .u64 a0 4294967295) * (shrI .u64 a1 32))))) 32))), (IntKind.u64.wrap (a0 * a1)))
noncomputable def g_lapped_Lap_r1 (p4 : Int × List Int × List Int × List Int × List Int × Unit) : Option ((Int × List Int × List Int × List Int × List Int × Unit) ⊕ ((List Int × List Int × List Int × Unit))) :=
 bif (decide (p4.1 < 16)) then
 bif (within p4.1 16) then
 bif (within p4.1 32) then
 (g_fixed_Round (IntKind.i64.wrap ((p4.2.1.getD p4.1.toNat 0) + (p4.2.2.1.getD p4.1.toNat 0))) 8).bind fun y5 =>
 (g_fixed_Sat y5 16).bind fun y6 =>
 bif (within p4.1 16) then
 some (Sum.inl ((IntKind.i64.wrap (p4.1 + 1)), p4.2.1, p4.2.2.1, (p4.2.2.2.1.set p4.1.toNat y6), p4.2.2.2.2.1, ()))
 else none
 else none
 else none
 else
 some (Sum.inr (p4.2.2.1, p4.2.2.2.1, p4.2.2.2.2.1, ()))
noncomputable def g_lapped_Lap (a0 : List Int) (a1 : List Int) : Option (List Int × List Int × Int) :=
 ((g_lapped_bounded ((a0.drop 0).take 16) 1099511627776).bind fun y1 =>
 bif (!y1) then
 some (true, a0, a1, (List.replicate 16 0), (List.replicate 16 0), ())
 else
 (g_lapped_bounded ((a1.drop 0).take 32) 1099511627776).bind fun y2 =>
 some ((!y2), a0, a1, (List.replicate 16 0), (List.replicate 16 0), ()) : Option ((Bool × List Int × List Int × List Int × List Int × Unit))).bind fun j3 => 
 bif j3.1 then
 some (j3.2.2.2.1, (j3.2.2.2.2.1, 1))
 else
 (iter (g_lapped_Lap_r1) (0, j3.2.1, j3.2.2.1, j3.2.2.2.1, j3.2.2.2.2.1, ())).bind fun j7 => 
 some (j7.2.1, ((copyL j7.2.2.1 0 (((j7.1.drop 16).take 16).take 16)), 0))
noncomputable def g_bands_Check_r1 (p1 : List Int × Int × List Int × List Int × Unit) : Option ((List Int × Int × List Int × List Int × Unit) ⊕ ((List Int × List Int × Unit))) :=
 bif (decide (p1.2.1 < 6)) then
 bif (within p1.2.1 6) then
 bif (within p1.2.1 6) then
 some (Sum.inl (p1.1, (IntKind.i64.wrap (p1.2.1 + 1)), p1.2.2.1, (p1.2.2.2.1.set p1.2.1.toNat (if 0 < (if 255 < (p1.1.getD p1.2.1.toNat 0) then 255 else (p1.1.getD p1.2.1.toNat 0)) then (if 255 < (p1.1.getD p1.2.1.toNat 0) then 255 else (p1.1.getD p1.2.1.toNat 0)) else 0)), ()))
 else none
 else none
 else
 some (Sum.inr (p1.2.2.1, p1.2.2.2.1, ()))
noncomputable def g_bands_Check (a0 : List Int) : Option (Int) :=
 (iter (g_bands_Check_r1) (a0, 0, a0, a0, ())).bind fun j2 => 
 bif (!(j2.2.1 == j2.1)) then
 some 1
 else
 some 0
noncomputable def g_decoder_Check (a0 : List Int × List Int × Bool × Bool × Int) : Option (Int) :=
 (g_lapped_Lap a0.1 [0, 0, 0, 0, 0, 0, 0, 0, 0, 0, 0, 0, 0, 0, 0, 0, 0, 0, 0, 0, 0, 0, 0, 0, 0, 0, 0, 0, 0, 0, 0, 0]).bind fun y1 =>
 (bif (y1.2.2 != 0) then
 some (true, a0, ())
 else
 bif a0.2.2.1 then
 some (a0.2.2.2.1, a0, ())
 else
 some (false, a0, ()) : Option ((Bool × (List Int × List Int × Bool × Bool × Int) × Unit))).bind fun j2 => 
 bif j2.1 then
 some 1
 else
 (g_bands_Check j2.2.1.2.1).bind fun y3 =>
 some y3
noncomputable def g_frame_Near_r1 (p4 : Int × List Int × List Int × Unit) : Option ((Int × List Int × List Int × Unit) ⊕ (Unit ⊕ (Bool × Unit))) :=
 bif (decide (p4.1 < 6)) then
 bif (within p4.1 6) then
 bif (within p4.1 6) then
 (bif (decide ((IntKind.i64.wrap ((p4.2.1.getD p4.1.toNat 0) - (p4.2.2.1.getD p4.1.toNat 0))) < (-8))) then
 some (p4.1, true, p4.2.1, p4.2.2.1, ())
 else
 some (p4.1, (decide ((IntKind.i64.wrap ((p4.2.1.getD p4.1.toNat 0) - (p4.2.2.1.getD p4.1.toNat 0))) > 7)), p4.2.1, p4.2.2.1, ()) : Option ((Int × Bool × List Int × List Int × Unit))).bind fun j5 => 
 bif j5.2.1 then
 some (Sum.inr (Sum.inr (false, ())))
 else
 some (Sum.inl ((IntKind.i64.wrap (j5.1 + 1)), j5.2.2.1, j5.2.2.2.1, ()))
 else none
 else none
 else
 some (Sum.inr (Sum.inl ()))
noncomputable def g_frame_Near (a0 : List Int) (a1 : List Int) : Option (Bool) :=
 ((g_bands_Check a0).bind fun y1 =>
 bif (y1 != 0) then
 some (true, a0, a1, ())
 else
 (g_bands_Check a1).bind fun y2 =>
 some ((y2 != 0), a0, a1, ()) : Option ((Bool × List Int × List Int × Unit))).bind fun j3 => 
 bif j3.1 then
 some false
 else
 (iter (g_frame_Near_r1) (0, j3.2.1, j3.2.2.1, ())).bind fun j6 => 
 (match j6 with
 | .inl j7 =>
 (some true)
 | .inr j8 =>
 (some j8.1))
noncomputable def g_bands_Mask_r1 (p2 : Int × Int × List Int × List Int × Int × Unit) : Option ((Int × Int × List Int × List Int × Int × Unit) ⊕ ((Int × List Int × List Int × Int × Unit))) :=
 bif (decide (p2.2.1 < 6)) then
 bif (within p2.2.1 6) then
 bif (within p2.2.1 6) then
 bif (within p2.2.1 6) then
 some (Sum.inl (p2.1, (IntKind.i64.wrap (p2.2.1 + 1)), p2.2.2.1, (p2.2.2.2.1.set p2.2.1.toNat (if (p2.2.2.2.1.getD p2.2.1.toNat 0) < (IntKind.i64.wrap (p2.2.2.2.2.1 - 8)) then (IntKind.i64.wrap (p2.2.2.2.2.1 - 8)) else (p2.2.2.2.1.getD p2.2.1.toNat 0))), (IntKind.i64.wrap ((if p2.2.2.2.2.1 < (p2.2.2.1.getD p2.2.1.toNat 0) then (p2.2.2.1.getD p2.2.1.toNat 0) else p2.2.2.2.2.1) - 12)), ()))
 else none
 else none
 else none
 else
 some (Sum.inr (p2.1, p2.2.2.1, p2.2.2.2.1, p2.2.2.2.2.1, ()))
noncomputable def g_bands_Mask_r2 (i5 : Nat) (p4 : List Int × List Int × Int × Unit) : Option ((List Int × List Int × Int × Unit) ⊕ (Empty)) :=
 bif (within (i5 : Int) 6) then
 bif (within (i5 : Int) 6) then
 some (Sum.inl (p4.1, (p4.2.1.set ((i5 : Int).toNat) (if (p4.2.1.getD ((i5 : Int).toNat) 0) < (IntKind.i64.wrap (p4.2.2.1 - 8)) then (IntKind.i64.wrap (p4.2.2.1 - 8)) else (p4.2.1.getD ((i5 : Int).toNat) 0))), (IntKind.i64.wrap ((if p4.2.2.1 < (p4.1.getD i5 0) then (p4.1.getD i5 0) else p4.2.2.1) - 12)), ()))
 else none
 else none
noncomputable def g_bands_Mask (a0 : List Int) : Option (List Int × Int) :=
 (g_bands_Check a0).bind fun y1 =>
 bif (y1 != 0) then
 some ((List.replicate 6 0), y1)
 else
 (iter (g_bands_Mask_r1) (0, 0, a0, (List.replicate 6 0), 0, ())).bind fun j3 => 
 (backN (g_bands_Mask_r2) 6 (j3.2.1, j3.2.2.1, 0, ())).bind fun r6 =>
 (match r6 with
 | .inl q7 =>
 (some (q7.2.1, 0))
 | .inr j8 => nomatch j8)
noncomputable def g_bands_Cost_r1 (p2 : Int × Int × List Int × List Int × Unit) : Option ((Int × Int × List Int × List Int × Unit) ⊕ ((Int × Unit))) :=
 bif (decide (p2.2.1 < 6)) then
 bif (within p2.2.1 6) then
 bif (within (IntKind.i64.wrap (p2.2.1 + 1)) 7) then
 bif (within p2.2.1 7) then
 some (Sum.inl ((IntKind.i64.wrap (p2.1 + (IntKind.i64.wrap ((p2.2.2.1.getD p2.2.1.toNat 0) * (IntKind.i64.wrap ((p2.2.2.2.1.getD ((IntKind.i64.wrap (p2.2.1 + 1)).toNat) 0) - (p2.2.2.2.1.getD p2.2.1.toNat 0))))))), (IntKind.i64.wrap (p2.2.1 + 1)), p2.2.2.1, p2.2.2.2.1, ()))
 else none
 else none
 else none
 else
 some (Sum.inr (p2.1, ()))
noncomputable def g_bands_Cost (a0 : List Int) : Option (Int) :=
 (g_bands_edges).bind fun y1 =>
 (iter (g_bands_Cost_r1) (0, 0, a0, y1, ())).bind fun j3 => 
 some j3.1
noncomputable def g_bands_Share_r1 (p3 : Int × Int × List Int × Int × List Int × List Int × Unit) : Option ((Int × Int × List Int × Int × List Int × List Int × Unit) ⊕ ((Int × Int × List Int × Unit))) :=
 bif (decide (p3.2.1 < 6)) then
 (bif (within p3.2.1 6) then
 bif (within p3.2.1 6) then
 bif (within p3.2.1 6) then
 bif (within p3.2.1 6) then
 bif (within p3.2.1 6) then
 bif (decide ((p3.2.2.1.getD p3.2.1.toNat 0) ≤ (p3.2.2.2.2.2.1.getD p3.2.1.toNat 0))) then
 bif (within p3.2.1 6) then
 some (p3.1, p3.2.1, p3.2.2.1, p3.2.2.2.1, ((p3.2.2.2.2.1.set p3.2.1.toNat (if 0 < (if 7 < (IntKind.i64.wrap ((IntKind.i64.wrap ((IntKind.i64.wrap ((IntKind.i64.wrap ((p3.2.2.1.getD p3.2.1.toNat 0) - (p3.2.2.2.2.2.1.getD p3.2.1.toNat 0))) + 8)) - 1)).tdiv 8)) then 7 else (IntKind.i64.wrap ((IntKind.i64.wrap ((IntKind.i64.wrap ((IntKind.i64.wrap ((p3.2.2.1.getD p3.2.1.toNat 0) - (p3.2.2.2.2.2.1.getD p3.2.1.toNat 0))) + 8)) - 1)).tdiv 8))) then (if 7 < (IntKind.i64.wrap ((IntKind.i64.wrap ((IntKind.i64.wrap ((IntKind.i64.wrap ((p3.2.2.1.getD p3.2.1.toNat 0) - (p3.2.2.2.2.2.1.getD p3.2.1.toNat 0))) + 8)) - 1)).tdiv 8)) then 7 else (IntKind.i64.wrap ((IntKind.i64.wrap ((IntKind.i64.wrap ((IntKind.i64.wrap ((p3.2.2.1.getD p3.2.1.toNat 0) - (p3.2.2.2.2.2.1.getD p3.2.1.toNat 0))) + 8)) - 1)).tdiv 8))) else 0)).set p3.2.1.toNat 0), p3.2.2.2.2.2.1, ())
 else none
 else
 some (p3.1, p3.2.1, p3.2.2.1, p3.2.2.2.1, (p3.2.2.2.2.1.set p3.2.1.toNat (if 0 < (if 7 < (IntKind.i64.wrap ((IntKind.i64.wrap ((IntKind.i64.wrap ((IntKind.i64.wrap ((p3.2.2.1.getD p3.2.1.toNat 0) - (p3.2.2.2.2.2.1.getD p3.2.1.toNat 0))) + 8)) - 1)).tdiv 8)) then 7 else (IntKind.i64.wrap ((IntKind.i64.wrap ((IntKind.i64.wrap ((IntKind.i64.wrap ((p3.2.2.1.getD p3.2.1.toNat 0) - (p3.2.2.2.2.2.1.getD p3.2.1.toNat 0))) + 8)) - 1)).tdiv 8))) then (if 7 < (IntKind.i64.wrap ((IntKind.i64.wrap ((IntKind.i64.wrap ((IntKind.i64.wrap ((p3.2.2.1.getD p3.2.1.toNat 0) - (p3.2.2.2.2.2.1.getD p3.2.1.toNat 0))) + 8)) - 1)).tdiv 8)) then 7 else (IntKind.i64.wrap ((IntKind.i64.wrap ((IntKind.i64.wrap ((IntKind.i64.wrap ((p3.2.2.1.getD p3.2.1.toNat 0) - (p3.2.2.2.2.2.1.getD p3.2.1.toNat 0))) + 8)) - 1)).tdiv 8))) else 0)), p3.2.2.2.2.2.1, ())
 else none
 else none
 else none
 else none
 else none : Option ((Int × Int × List Int × Int × List Int × List Int × Unit))).bind fun j4 => 
 some (Sum.inl (j4.1, (IntKind.i64.wrap (j4.2.1 + 1)), j4.2.2.1, j4.2.2.2.1, j4.2.2.2.2.1, j4.2.2.2.2.2.1, ()))
 else
 some (Sum.inr (p3.1, p3.2.2.2.1, p3.2.2.2.2.1, ()))
noncomputable def g_bands_Share_r2 (i8 : Nat) (p7 : Int × List Int × Int × Unit) : Option ((Int × List Int × Int × Unit) ⊕ ((Int × List Int × Int × Unit))) :=
 (g_bands_Cost p7.2.1).bind fun y9 =>
 bif (decide (y9 ≤ p7.1)) then
 some (Sum.inr (p7.1, p7.2.1, p7.2.2.1, ()))
 else
 bif ((p7.2.1.getD i8 0) == p7.2.2.1) then
 bif (within (i8 : Int) 6) then
 bif (within (i8 : Int) 6) then
 some (Sum.inl (p7.1, (p7.2.1.set ((i8 : Int).toNat) (IntKind.i64.wrap ((p7.2.1.getD ((i8 : Int).toNat) 0) - 1))), p7.2.2.1, ()))
 else none
 else none
 else
 some (Sum.inl (p7.1, p7.2.1, p7.2.2.1, ()))
noncomputable def g_bands_Share_r3 (p6 : Int × Int × List Int × Int × Unit) : Option ((Int × Int × List Int × Int × Unit) ⊕ ((List Int × Unit))) :=
 bif (decide (p6.2.2.2.1 > 0)) then
 (backN (g_bands_Share_r2) 6 (p6.2.1, p6.2.2.1, p6.2.2.2.1, ())).bind fun r10 =>
 (match r10 with
 | .inl q11 =>
 (some (Sum.inl (p6.1, q11.1, q11.2.1, (IntKind.i64.wrap (q11.2.2.1 - 1)), ())))
 | .inr j13 => 
 some (Sum.inr (j13.2.1, ())))
 else
 some (Sum.inr (p6.2.2.1, ()))
noncomputable def g_bands_Share (a0 : List Int) (a1 : Int) : Option (List Int × Int) :=
 (g_bands_Mask a0).bind fun y1 =>
 (bif (y1.2 != 0) then
 some (y1.2, true, a0, a1, (List.replicate 6 0), y1.1, ())
 else
 some (y1.2, (decide (a1 < 0)), a0, a1, (List.replicate 6 0), y1.1, ()) : Option ((Int × Bool × List Int × Int × List Int × List Int × Unit))).bind fun j2 => 
 bif j2.2.1 then
 some (j2.2.2.2.2.1, 1)
 else
 (iter (g_bands_Share_r1) (j2.1, 0, j2.2.2.1, j2.2.2.2.1, j2.2.2.2.2.1, j2.2.2.2.2.2.1, ())).bind fun j5 => 
 (iter (g_bands_Share_r3) (j5.1, j5.2.1, j5.2.2.1, 7, ())).bind fun j14 => 
 some (j14.1, 0)
noncomputable def g_bands_Edge (a0 : Int) : Option (Int × Int × Int) :=
 (bif (decide (a0 < 0)) then
 some (a0, true, ())
 else
 some (a0, (decide (a0 ≥ 6)), ()) : Option ((Int × Bool × Unit))).bind fun j1 => 
 bif j1.2.1 then
 some (0, (0, 1))
 else
 (g_bands_edges).bind fun y2 =>
 bif (within j1.1 7) then
 bif (within (IntKind.i64.wrap (j1.1 + 1)) 7) then
 some ((y2.getD j1.1.toNat 0), ((y2.getD ((IntKind.i64.wrap (j1.1 + 1)).toNat) 0), 0))
 else none
 else none
noncomputable def g_quant_Peak (a0 : Int) : Option (Int × Int) :=
 (bif (decide (a0 < 0)) then
 some (a0, true, ())
 else
 some (a0, (decide (a0 > 255)), ()) : Option ((Int × Bool × Unit))).bind fun j1 => 
 bif j1.2.1 then
 some (0, 1)
 else
 bif (decide (0 ≤ (IntKind.i64.wrap (j1.1.tdiv 8)))) then
 some ((IntKind.i64.wrap ((IntKind.i64.wrap ((shlI .i64 (IntKind.i64.wrap (8 + (j1.1.tmod 8))) (IntKind.i64.wrap (j1.1.tdiv 8))).tdiv 8)) + 1)), 0)
 else none
noncomputable def g_quant_Most (a0 : Int) : Option (Int) :=
 bif (decide (0 ≤ (if 0 < (if 7 < a0 then 7 else a0) then (if 7 < a0 then 7 else a0) else 0))) then
 some (IntKind.i64.wrap ((shlI .i64 1 (if 0 < (if 7 < a0 then 7 else a0) then (if 7 < a0 then 7 else a0) else 0)) - 1))
 else none
noncomputable def g_quant_Step (a0 : Int) (a1 : Int) : Option (Int × Int) :=
 (g_quant_Peak a0).bind fun y1 =>
 (bif (y1.2 != 0) then
 some (a1, y1.1, true, ())
 else
 bif (decide (a1 < 1)) then
 some (a1, y1.1, true, ())
 else
 some (a1, y1.1, (decide (a1 > 7)), ()) : Option ((Int × Int × Bool × Unit))).bind fun j2 => 
 bif j2.2.2.1 then
 some (0, 1)
 else
 (g_quant_Most j2.1).bind fun y3 =>
 bif (y3 != 0) then
 some ((IntKind.i64.wrap ((IntKind.i64.wrap ((IntKind.i64.wrap (j2.2.1 - 1)).tdiv y3)) + 1)), 0)
 else none
noncomputable def g_quant_scales_r1 (p6 : Int × Int × Int × Int × Int × List Int × Int × List Int × (List (Int × Int)) × List Int × Unit) : Option ((Int × Int × Int × Int × Int × List Int × Int × List Int × (List (Int × Int)) × List Int × Unit) ⊕ ((Int × List Int × Int × List Int × (List (Int × Int)) × List Int × Unit))) :=
 bif (decide (p6.2.2.2.2.1 < p6.2.2.1)) then
 (g_quant_Most p6.2.1).bind fun y7 =>
 bif (within p6.2.2.2.2.1 16) then
 some (Sum.inl (p6.1, p6.2.1, p6.2.2.1, p6.2.2.2.1, (IntKind.i64.wrap (p6.2.2.2.2.1 + 1)), p6.2.2.2.2.2.1, p6.2.2.2.2.2.2.1, p6.2.2.2.2.2.2.2.1, (p6.2.2.2.2.2.2.2.2.1.set p6.2.2.2.2.1.toNat (p6.2.2.2.1, y7)), p6.2.2.2.2.2.2.2.2.2.1, ()))
 else none
 else
 some (Sum.inr (p6.1, p6.2.2.2.2.2.1, p6.2.2.2.2.2.2.1, p6.2.2.2.2.2.2.2.1, p6.2.2.2.2.2.2.2.2.1, p6.2.2.2.2.2.2.2.2.2.1, ()))
noncomputable def g_quant_scales_r2 (p2 : Int × List Int × Int × List Int × (List (Int × Int)) × List Int × Unit) : Option ((Int × List Int × Int × List Int × (List (Int × Int)) × List Int × Unit) ⊕ ((Int × (List (Int × Int)) × List Int × Unit))) :=
 bif (decide (p2.2.2.1 < 6)) then
 (bif (within p2.2.2.1 6) then
 (bif (p2.1 != 0) then
 some (p2.1, p2.2.2.1, (p2.2.1.getD p2.2.2.1.toNat 0), p2.2.1, p2.2.2.1, true, p2.2.2.2.1, p2.2.2.2.2.1, p2.2.2.2.2.2.1, ())
 else
 some (p2.1, p2.2.2.1, (p2.2.1.getD p2.2.2.1.toNat 0), p2.2.1, p2.2.2.1, ((p2.2.1.getD p2.2.2.1.toNat 0) == 0), p2.2.2.2.1, p2.2.2.2.2.1, p2.2.2.2.2.2.1, ()) : Option ((Int × Int × Int × List Int × Int × Bool × List Int × (List (Int × Int)) × List Int × Unit))).bind fun j3 => 
 bif j3.2.2.2.2.2.1 then
 some (j3.1, j3.2.2.2.1, j3.2.2.2.2.1, j3.2.2.2.2.2.2.1, j3.2.2.2.2.2.2.2.1, j3.2.2.2.2.2.2.2.2.1, ())
 else
 (g_bands_Edge j3.2.1).bind fun y4 =>
 bif (within j3.2.1 6) then
 (g_quant_Step (j3.2.2.2.2.2.2.1.getD j3.2.1.toNat 0) j3.2.2.1).bind fun y5 =>
 (iter (g_quant_scales_r1) (j3.1, j3.2.2.1, y4.2.1, y5.1, y4.1, j3.2.2.2.1, j3.2.2.2.2.1, j3.2.2.2.2.2.2.1, j3.2.2.2.2.2.2.2.1, j3.2.2.2.2.2.2.2.2.1, ())).bind fun j8 => 
 some (j8.1, j8.2.1, j8.2.2.1, j8.2.2.2.1, j8.2.2.2.2.1, j8.2.2.2.2.2.1, ())
 else none
 else none : Option ((Int × List Int × Int × List Int × (List (Int × Int)) × List Int × Unit))).bind fun j9 => 
 some (Sum.inl (j9.1, j9.2.1, (IntKind.i64.wrap (j9.2.2.1 + 1)), j9.2.2.2.1, j9.2.2.2.2.1, j9.2.2.2.2.2.1, ()))
 else
 some (Sum.inr (p2.1, p2.2.2.2.2.1, p2.2.2.2.2.2.1, ()))
noncomputable def g_quant_scales (a0 : List Int) : Option ((List (Int × Int)) × List Int × Int) :=
 (g_bands_Share a0 120).bind fun y1 =>
 (iter (g_quant_scales_r2) (y1.2, y1.1, 0, a0, (List.replicate 16 (0, 0)), y1.1, ())).bind fun j10 => 
 some (j10.2.1, (j10.2.2.1, j10.1))
noncomputable def g_quant_May_r1 (p2 : Int × List Int × Int × List Int × (List (Int × Int)) × List Int × Unit) : Option ((Int × List Int × Int × List Int × (List (Int × Int)) × List Int × Unit) ⊕ ((Int × List Int × List Int × Unit))) :=
 bif (decide (p2.2.2.1 < 16)) then
 bif (within p2.2.2.1 16) then
 bif (within p2.2.2.1 16) then
 bif (within p2.2.2.1 16) then
 bif (within p2.2.2.1 16) then
 some (Sum.inl (p2.1, p2.2.1, (IntKind.i64.wrap (p2.2.2.1 + 1)), p2.2.2.2.1, p2.2.2.2.2.1, (p2.2.2.2.2.2.1.set p2.2.2.1.toNat (if (IntKind.i64.wrap (0 - (((p2.2.2.2.2.1.getD p2.2.2.1.toNat (0, 0))).2))) < (if ((p2.2.2.2.2.1.getD p2.2.2.1.toNat (0, 0))).2 < (p2.2.1.getD p2.2.2.1.toNat 0) then ((p2.2.2.2.2.1.getD p2.2.2.1.toNat (0, 0))).2 else (p2.2.1.getD p2.2.2.1.toNat 0)) then (if ((p2.2.2.2.2.1.getD p2.2.2.1.toNat (0, 0))).2 < (p2.2.1.getD p2.2.2.1.toNat 0) then ((p2.2.2.2.2.1.getD p2.2.2.1.toNat (0, 0))).2 else (p2.2.1.getD p2.2.2.1.toNat 0)) else (IntKind.i64.wrap (0 - (((p2.2.2.2.2.1.getD p2.2.2.1.toNat (0, 0))).2))))), ()))
 else none
 else none
 else none
 else none
 else
 some (Sum.inr (p2.1, p2.2.2.2.1, p2.2.2.2.2.2.1, ()))
noncomputable def g_quant_May (a0 : List Int) (a1 : List Int) : Option (Bool) :=
 (g_quant_scales a1).bind fun y1 =>
 (iter (g_quant_May_r1) (y1.2.2, a0, 0, a0, y1.1, a0, ())).bind fun j3 => 
 bif (j3.1 == 0) then
 some (j3.2.2.1 == j3.2.1)
 else
 some false
noncomputable def g_frame_Check (a0 : Int × List Int × List Int) (a1 : List Int) : Option (Int) :=
 ((g_bands_Check a1).bind fun y1 =>
 bif (y1 == 0) then
 (g_quant_May a0.2.2 a0.2.1).bind fun y2 =>
 some (y2, (a0.1, (a0.2.1, a0.2.2)), a1, (List.replicate 16 0), ())
 else
 some (false, (a0.1, (a0.2.1, a0.2.2)), a1, (List.replicate 16 0), ()) : Option ((Bool × (Int × List Int × List Int) × List Int × List Int × Unit))).bind fun j3 => 
 (bif (j3.2.1.1 == 0) then
 some (j3.1, ())
 else
 bif (j3.2.1.1 == 1) then
 bif j3.1 then
 (g_frame_Near j3.2.1.2.1 j3.2.2.1).bind fun y4 =>
 some (y4, ())
 else
 some (false, ())
 else
 bif (j3.2.1.1 == 2) then
 bif j3.1 then
 some ((j3.2.1.2.2 == j3.2.2.2.1), ())
 else
 some (false, ())
 else
 some (false, ()) : Option ((Bool × Unit))).bind fun j5 => 
 bif (!j5.1) then
 some 1
 else
 some 0
noncomputable def g_freq_last (a0 : List Int) : Option (Int) :=
 bif (within (IntKind.i64.wrap ((a0.length : Int) - 1)) a0.length) then
 some (a0.getD ((IntKind.i64.wrap ((a0.length : Int) - 1)).toNat) 0)
 else none
noncomputable def g_freq_New_r1 (p1 : List Int × List Int × Int × Int × List Int × List Int × Unit) : Option ((List Int × List Int × Int × Int × List Int × List Int × Unit) ⊕ ((List Int × List Int × List Int × Unit) ⊕ (Int × List Int × Unit))) :=
 bif (decide (p1.2.2.2.1 < p1.2.2.1)) then
 bif (within p1.2.2.2.1 p1.2.1.length) then
 (bif (decide ((p1.2.1.getD p1.2.2.2.1.toNat 0) < 1)) then
 some (p1.1, (p1.2.1.getD p1.2.2.2.1.toNat 0), p1.2.1, p1.2.2.1, p1.2.2.2.1, true, p1.2.2.2.2.1, p1.2.2.2.2.2.1, ())
 else
 (g_freq_last p1.2.2.2.2.2.1).bind fun y2 =>
 some (p1.1, (p1.2.1.getD p1.2.2.2.1.toNat 0), p1.2.1, p1.2.2.1, p1.2.2.2.1, (decide ((p1.2.1.getD p1.2.2.2.1.toNat 0) > (IntKind.i64.wrap (16384 - y2)))), p1.2.2.2.2.1, p1.2.2.2.2.2.1, ()) : Option ((List Int × Int × List Int × Int × Int × Bool × List Int × List Int × Unit))).bind fun j3 => 
 bif j3.2.2.2.2.2.1 then
 some (Sum.inr (Sum.inr (1, [], ())))
 else
 (g_freq_last j3.2.2.2.2.2.2.2.1).bind fun y4 =>
 bif (room 8 (j3.2.2.2.2.2.2.2.1 ++ [(IntKind.i64.wrap (y4 + j3.2.1))]).length) then
 some (Sum.inl (j3.1, j3.2.2.1, j3.2.2.2.1, (IntKind.i64.wrap (j3.2.2.2.2.1 + 1)), j3.2.2.2.2.2.2.1, (j3.2.2.2.2.2.2.2.1 ++ [(IntKind.i64.wrap (y4 + j3.2.1))]), ()))
 else none
 else none
 else
 some (Sum.inr (Sum.inl (p1.1, p1.2.2.2.2.1, p1.2.2.2.2.2.1, ())))
noncomputable def g_freq_New (a0 : List Int) : Option (List Int × Int) :=
 bif (decide ((a0.length : Int) > 256)) then
 some ([], 1)
 else
 bif (decide (0 ≤ 1) && decide (1 ≤ (IntKind.i64.wrap ((a0.length : Int) + 1))) && room 8 (IntKind.i64.wrap ((a0.length : Int) + 1)).toNat) then
 (iter (g_freq_New_r1) (a0, a0, (a0.length : Int), 0, [], (List.replicate 1 (0 : Int)), ())).bind fun j5 => 
 (match j5 with
 | .inl j6 =>
 (bif ((j6.1.length : Int) == 0) then
 some ([], 1)
 else
 some (j6.2.2.1, 0))
 | .inr j7 =>
 (some (j7.2.1, j7.1)))
 else none
noncomputable def g_frame_kinds : Option (List Int) :=
 (g_freq_New [6, 9, 1]).bind fun y1 =>
 some y1.1
noncomputable def g_math_bits_Mul (a0 : Int) (a1 : Int) : Option (Int × Int) :=
 (g_math_bits_Mul64 a0 a1).bind fun y1 =>
 some (y1.1, y1.2)
noncomputable def g_slices_Repeat_Sint_int_r1 (p3 : List Int × Int × Unit) : Option ((List Int × Int × Unit) ⊕ ((List Int × Unit))) :=
 bif (decide (p3.2.1 < (p3.1.length : Int))) then
 bif (cutG p3.2.1 (p3.1.length : Int) p3.1.length) then
 bif (cutG 0 p3.2.1 p3.1.length) then
 some (Sum.inl ((copyL p3.1 p3.2.1.toNat (((p3.1.drop 0).take (p3.2.1.toNat - 0)).take ((p3.1.length : Int).toNat - p3.2.1.toNat))), (IntKind.i64.wrap (p3.2.1 + (((((p3.1.drop 0).take (p3.2.1.toNat - 0)).take ((p3.1.length : Int).toNat - p3.2.1.toNat)).length : Nat) : Int))), ()))
 else none
 else none
 else
 some (Sum.inr (p3.1, ()))
noncomputable def g_slices_Repeat_Sint_int (a0 : List Int) (a1 : Int) : Option (List Int) :=
 bif (decide (a1 < 0)) then
 none
 else
 (g_math_bits_Mul (IntKind.u64.wrap (a0.length : Int)) (IntKind.u64.wrap a1)).bind fun y1 =>
 (bif (decide (y1.1 > 0)) then
 some (a0, y1.2, true, ())
 else
 some (a0, y1.2, (decide (y1.2 > 9223372036854775807)), ()) : Option ((List Int × Int × Bool × Unit))).bind fun j2 => 
 bif j2.2.2.1 then
 none
 else
 bif (decide (0 ≤ (IntKind.i64.wrap j2.2.1)) && decide ((IntKind.i64.wrap j2.2.1) ≤ (IntKind.i64.wrap j2.2.1)) && room 8 (IntKind.i64.wrap j2.2.1).toNat) then
 (iter (g_slices_Repeat_Sint_int_r1) ((copyL (List.replicate (IntKind.i64.wrap j2.2.1).toNat (0 : Int)) 0 (j2.1.take ((List.replicate (IntKind.i64.wrap j2.2.1).toNat (0 : Int)).length))), (((j2.1.take ((List.replicate (IntKind.i64.wrap j2.2.1).toNat (0 : Int)).length)).length : Nat) : Int), ())).bind fun j4 => 
 some j4.1
 else none
noncomputable def g_freq_Even (a0 : Int) : Option (List Int × Int) :=
 (bif (decide (a0 < 1)) then
 some (a0, true, [], ())
 else
 some (a0, (decide (a0 > 256)), [], ()) : Option ((Int × Bool × List Int × Unit))).bind fun j1 => 
 bif j1.2.1 then
 some ([], 1)
 else
 (g_slices_Repeat_Sint_int [1] j1.1).bind fun y2 =>
 (g_freq_New y2).bind fun y3 =>
 some (y3.1, y3.2)
noncomputable def g_frame_levels : Option (List Int) :=
 (g_freq_Even 256).bind fun y1 =>
 some y1.1
noncomputable def g_frame_changes : Option (List Int) :=
 (g_freq_New [1, 1, 2, 3, 5, 9, 16, 30, 60, 30, 16, 9, 5, 3, 2, 1]).bind fun y1 =>
 some y1.1
noncomputable def g_bands_Of_r1 (p3 : Int × Int × List Int × Unit) : Option ((Int × Int × List Int × Unit) ⊕ ((Int × Unit))) :=
 bif (within p3.2.1 7) then
 bif (decide ((p3.2.2.1.getD p3.2.1.toNat 0) > p3.1)) then
 some (Sum.inl (p3.1, (IntKind.i64.wrap (p3.2.1 - 1)), p3.2.2.1, ()))
 else
 some (Sum.inr (p3.2.1, ()))
 else none
noncomputable def g_bands_Of (a0 : Int) : Option (Int × Int) :=
 (bif (decide (a0 < 0)) then
 some (a0, true, ())
 else
 some (a0, (decide (a0 ≥ 16)), ()) : Option ((Int × Bool × Unit))).bind fun j1 => 
 bif j1.2.1 then
 some (0, 1)
 else
 (g_bands_edges).bind fun y2 =>
 (iter (g_bands_Of_r1) (j1.1, 5, y2, ())).bind fun j4 => 
 some (j4.1, 0)
noncomputable def g_frame_smalls_r1 (p1 : Int × List Int × Int × Int × List Int × Unit) : Option ((Int × List Int × Int × Int × List Int × Unit) ⊕ ((List Int × List Int × Unit))) :=
 bif (decide (p1.2.2.2.1 < p1.2.2.1)) then
 bif (within p1.2.2.2.1 p1.2.1.length) then
 some (Sum.inl (p1.1, (p1.2.1.set p1.2.2.2.1.toNat (IntKind.i64.wrap ((if (IntKind.i64.wrap ((IntKind.i64.wrap (2 * p1.1)) - p1.2.2.2.1)) < p1.2.2.2.1 then (IntKind.i64.wrap ((IntKind.i64.wrap (2 * p1.1)) - p1.2.2.2.1)) else p1.2.2.2.1) + 1))), p1.2.2.1, (IntKind.i64.wrap (p1.2.2.2.1 + 1)), p1.2.2.2.2.1, ()))
 else none
 else
 some (Sum.inr (p1.2.1, p1.2.2.2.2.1, ()))
noncomputable def g_frame_smalls (a0 : Int) : Option (List Int) :=
 bif (decide (0 ≤ (IntKind.i64.wrap ((IntKind.i64.wrap (2 * a0)) + 1))) && decide ((IntKind.i64.wrap ((IntKind.i64.wrap (2 * a0)) + 1)) ≤ (IntKind.i64.wrap ((IntKind.i64.wrap (2 * a0)) + 1))) && room 8 (IntKind.i64.wrap ((IntKind.i64.wrap (2 * a0)) + 1)).toNat) then
 (iter (g_frame_smalls_r1) (a0, (List.replicate (IntKind.i64.wrap ((IntKind.i64.wrap (2 * a0)) + 1)).toNat (0 : Int)), ((List.replicate (IntKind.i64.wrap ((IntKind.i64.wrap (2 * a0)) + 1)).toNat (0 : Int)).length : Int), 0, [], ())).bind fun j2 => 
 (g_freq_New j2.1).bind fun y3 =>
 some y3.1
 else none
noncomputable def g_frame_symbols_r1 (p4 : List Int × Int × (Int × List Int × List Int) × List Int × List Int × List Int × List (List Int) × Unit) : Option ((List Int × Int × (Int × List Int × List Int) × List Int × List Int × List Int × List (List Int) × Unit) ⊕ ((List Int × (Int × List Int × List Int) × List Int × List Int × List Int × List (List Int) × Unit))) :=
 bif (decide (p4.2.1 < 6)) then
 bif (within p4.2.1 6) then
 bif (within p4.2.1 6) then
 some (Sum.inl (p4.1, (IntKind.i64.wrap (p4.2.1 + 1)), (p4.2.2.1.1, (p4.2.2.1.2.1, p4.2.2.1.2.2)), p4.2.2.2.1, (p4.2.2.2.2.1.set p4.2.1.toNat (IntKind.i64.wrap ((p4.2.2.2.2.1.getD p4.2.1.toNat 0) - 8))), p4.2.2.2.2.2.1, p4.2.2.2.2.2.2.1, ()))
 else none
 else none
 else
 some (Sum.inr (p4.1, (p4.2.2.1.1, (p4.2.2.1.2.1, p4.2.2.1.2.2)), p4.2.2.2.1, p4.2.2.2.2.1, p4.2.2.2.2.2.1, p4.2.2.2.2.2.2.1, ()))
noncomputable def g_frame_symbols_r2 (p7 : List Int × Int × (Int × List Int × List Int) × List Int × List Int × List Int × List (List Int) × Unit) : Option ((List Int × Int × (Int × List Int × List Int) × List Int × List Int × List Int × List (List Int) × Unit) ⊕ ((List Int × (Int × List Int × List Int) × List Int × List (List Int) × Unit))) :=
 bif (decide (p7.2.1 < 6)) then
 bif (within p7.2.1 6) then
 bif (within p7.2.1 6) then
 bif (room 8 (p7.2.2.2.2.2.1 ++ [(IntKind.i64.wrap ((p7.2.2.1.2.1.getD p7.2.1.toNat 0) - (p7.2.2.2.2.1.getD p7.2.1.toNat 0)))]).length) then
 bif (room 24 (p7.2.2.2.2.2.2.1 ++ [p7.2.2.2.1]).length) then
 bif (within p7.2.1 6) then
 bif (within p7.2.1 6) then
 some (Sum.inl (p7.1, (IntKind.i64.wrap (p7.2.1 + 1)), (p7.2.2.1.1, ((p7.2.2.1.2.1.set p7.2.1.toNat (IntKind.i64.wrap ((IntKind.i64.wrap ((p7.2.2.1.2.1.getD p7.2.1.toNat 0) - (p7.2.2.2.2.1.getD p7.2.1.toNat 0))) + (p7.2.2.2.2.1.getD p7.2.1.toNat 0)))), p7.2.2.1.2.2)), p7.2.2.2.1, p7.2.2.2.2.1, (p7.2.2.2.2.2.1 ++ [(IntKind.i64.wrap ((p7.2.2.1.2.1.getD p7.2.1.toNat 0) - (p7.2.2.2.2.1.getD p7.2.1.toNat 0)))]), (p7.2.2.2.2.2.2.1 ++ [p7.2.2.2.1]), ()))
 else none
 else none
 else none
 else none
 else none
 else none
 else
 some (Sum.inr (p7.1, (p7.2.2.1.1, (p7.2.2.1.2.1, p7.2.2.1.2.2)), p7.2.2.2.2.2.1, p7.2.2.2.2.2.2.1, ()))
noncomputable def g_frame_symbols_r3 (p10 : List Int × Int × (Int × List Int × List Int) × List Int × List Int × List (List Int) × Unit) : Option ((List Int × Int × (Int × List Int × List Int) × List Int × List Int × List (List Int) × Unit) ⊕ ((List Int × (Int × List Int × List Int) × List Int × List (List Int) × Unit))) :=
 bif (decide (p10.2.1 < 16)) then
 ((g_bands_Of p10.2.1).bind fun y11 =>
 bif (within y11.1 6) then
 bif ((p10.2.2.2.1.getD y11.1.toNat 0) == 0) then
 some (p10.1, p10.2.1, (p10.2.2.1.1, (p10.2.2.1.2.1, p10.2.2.1.2.2)), p10.2.2.2.1, p10.2.2.2.2.1, p10.2.2.2.2.2.1, ())
 else
 bif (within y11.1 6) then
 (g_quant_Most (p10.2.2.2.1.getD y11.1.toNat 0)).bind fun y12 =>
 bif (within p10.2.1 16) then
 (g_frame_smalls y12).bind fun y13 =>
 bif (room 8 (p10.2.2.2.2.1 ++ [(IntKind.i64.wrap ((p10.2.2.1.2.2.getD p10.2.1.toNat 0) + y12))]).length) then
 bif (room 24 (p10.2.2.2.2.2.1 ++ [y13]).length) then
 bif (within p10.2.1 16) then
 some (p10.1, p10.2.1, (p10.2.2.1.1, (p10.2.2.1.2.1, (p10.2.2.1.2.2.set p10.2.1.toNat (IntKind.i64.wrap ((IntKind.i64.wrap ((p10.2.2.1.2.2.getD p10.2.1.toNat 0) + y12)) - y12))))), p10.2.2.2.1, (p10.2.2.2.2.1 ++ [(IntKind.i64.wrap ((p10.2.2.1.2.2.getD p10.2.1.toNat 0) + y12))]), (p10.2.2.2.2.2.1 ++ [y13]), ())
 else none
 else none
 else none
 else none
 else none
 else none : Option ((List Int × Int × (Int × List Int × List Int) × List Int × List Int × List (List Int) × Unit))).bind fun j14 => 
 some (Sum.inl (j14.1, (IntKind.i64.wrap (j14.2.1 + 1)), (j14.2.2.1.1, (j14.2.2.1.2.1, j14.2.2.1.2.2)), j14.2.2.2.1, j14.2.2.2.2.1, j14.2.2.2.2.2.1, ()))
 else
 some (Sum.inr (p10.1, (p10.2.2.1.1, (p10.2.2.1.2.1, p10.2.2.1.2.2)), p10.2.2.2.2.1, p10.2.2.2.2.2.1, ()))
noncomputable def g_frame_symbols (a0 : Int × List Int × List Int) (a1 : List Int) : Option (List Int × List (List Int)) :=
 ((g_frame_kinds).bind fun y1 =>
 bif (room 8 [a0.1].length) then
 bif (room 24 [y1].length) then
 (g_frame_levels).bind fun y2 =>
 (bif (a0.1 == 1) then
 (g_frame_changes).bind fun y3 =>
 (iter (g_frame_symbols_r1) (a1, 0, (a0.1, (a0.2.1, a0.2.2)), y3, a1, [a0.1], [y1], ())).bind fun j5 => 
 some (j5.1, (j5.2.1.1, (j5.2.1.2.1, j5.2.1.2.2)), j5.2.2.1, j5.2.2.2.1, j5.2.2.2.2.1, j5.2.2.2.2.2.1, ())
 else
 some (a1, (a0.1, (a0.2.1, a0.2.2)), y2, (List.replicate 6 0), [a0.1], [y1], ()) : Option ((List Int × (Int × List Int × List Int) × List Int × List Int × List Int × List (List Int) × Unit))).bind fun j6 => 
 (iter (g_frame_symbols_r2) (j6.1, 0, (j6.2.1.1, (j6.2.1.2.1, j6.2.1.2.2)), j6.2.2.1, j6.2.2.2.1, j6.2.2.2.2.1, j6.2.2.2.2.2.1, ())).bind fun j8 => 
 bif (j8.2.1.1 == 2) then
 some (j8.2.2.1, j8.2.2.2.1, ())
 else
 (g_bands_Share j8.2.1.2.1 120).bind fun y9 =>
 bif (y9.2 != 0) then
 some (j8.2.2.1, j8.2.2.2.1, ())
 else
 (iter (g_frame_symbols_r3) (j8.1, 0, (j8.2.1.1, (j8.2.1.2.1, j8.2.1.2.2)), y9.1, j8.2.2.1, j8.2.2.2.1, ())).bind fun j15 => 
 some (j15.2.2.1, j15.2.2.2.1, ())
 else none
 else none : Option ((List Int × List (List Int) × Unit))).bind fun j16 => 
 some (j16.1, j16.2.1)
noncomputable def g_coder_Begin : Option (Int × Int × Int × List Int × Int) :=
 some (0, (4294967295, (0, ([], 0))))
noncomputable def g_coder_interval_move (a0 : Int × Int) : Option (Int × Int) :=
 bif (decide (a0.2 < 2147483648)) then
 some (0, 0)
 else
 bif (decide (a0.1 ≥ 2147483648)) then
 some (2147483648, 1)
 else
 (bif (decide (a0.1 ≥ 1073741824)) then
 some ((decide (a0.2 < 3221225472)), ())
 else
 some (false, ()) : Option ((Bool × Unit))).bind fun j1 => 
 bif j1.1 then
 some (1073741824, 2)
 else
 some (0, 3)
noncomputable def g_coder_interval_good (a0 : Int × Int) : Option (Bool) :=
 (g_coder_interval_move (a0.1, a0.2)).bind fun y1 =>
 bif (decide (a0.1 < a0.2)) then
 some (y1.2 == 3)
 else
 some false
noncomputable def g_bits_Check (a0 : List Int × Int) : Option (Int) :=
 (bif (decide (a0.2 < 0)) then
 some (true, (a0.1, a0.2), ())
 else
 bif (decide (a0.2 > 65536)) then
 some (true, (a0.1, a0.2), ())
 else
 some (((a0.1.length : Int) != (IntKind.i64.wrap ((IntKind.i64.wrap (a0.2 + 7)).tdiv 8))), (a0.1, a0.2), ()) : Option ((Bool × (List Int × Int) × Unit))).bind fun j1 => 
 bif j1.1 then
 some 1
 else
 (bif (decide ((j1.2.1.2.tmod 8) > 0)) then
 bif (within (IntKind.i64.wrap ((j1.2.1.1.length : Int) - 1)) j1.2.1.1.length) then
 bif (decide (0 ≤ (j1.2.1.2.tmod 8))) then
 some (((shlI .u8 (j1.2.1.1.getD ((IntKind.i64.wrap ((j1.2.1.1.length : Int) - 1)).toNat) 0) (j1.2.1.2.tmod 8)) != 0), ())
 else none
 else none
 else
 some (false, ()) : Option ((Bool × Unit))).bind fun j2 => 
 bif j2.1 then
 some 1
 else
 some 0
noncomputable def g_freq_Check_r1 (p3 : List Int × Int × Int × List Int × Unit) : Option ((List Int × Int × Int × List Int × Unit) ⊕ (Unit ⊕ (Int × Unit))) :=
 bif (decide (p3.2.2.1 < p3.2.1)) then
 bif (within p3.2.2.1 p3.1.length) then
 bif (within p3.2.2.1 p3.2.2.2.1.length) then
 bif (decide ((p3.1.getD p3.2.2.1.toNat 0) ≤ (p3.2.2.2.1.getD p3.2.2.1.toNat 0))) then
 some (Sum.inr (Sum.inr (1, ())))
 else
 some (Sum.inl (p3.1, p3.2.1, (IntKind.i64.wrap (p3.2.2.1 + 1)), p3.2.2.2.1, ()))
 else none
 else none
 else
 some (Sum.inr (Sum.inl ()))
noncomputable def g_freq_Check (a0 : List Int) : Option (Int) :=
 (bif (decide ((a0.length : Int) < 2)) then
 some (true, a0, ())
 else
 bif (decide ((a0.length : Int) > 257)) then
 some (true, a0, ())
 else
 bif (within 0 a0.length) then
 bif ((a0.getD 0 0) != 0) then
 some (true, a0, ())
 else
 (g_freq_last a0).bind fun y1 =>
 some ((decide (y1 > 16384)), a0, ())
 else none : Option ((Bool × List Int × Unit))).bind fun j2 => 
 bif j2.1 then
 some 1
 else
 bif (cutG 1 (j2.2.1.length : Int) j2.2.1.length) then
 (iter (g_freq_Check_r1) (((j2.2.1.take (j2.2.1.length : Int).toNat).drop 1), (((j2.2.1.take (j2.2.1.length : Int).toNat).drop 1).length : Int), 0, j2.2.1, ())).bind fun j4 => 
 (match j4 with
 | .inl j5 =>
 (some 0)
 | .inr j6 =>
 (some j6.1))
 else none
noncomputable def g_freq_Span (a0 : List Int) (a1 : Int) : Option (Int × Int × Int) :=
 ((g_freq_Check a0).bind fun y1 =>
 bif (y1 != 0) then
 some (a1, true, a0, ())
 else
 bif (decide (a1 < 0)) then
 some (a1, true, a0, ())
 else
 some (a1, (decide (a1 > (IntKind.i64.wrap ((a0.length : Int) - 2)))), a0, ()) : Option ((Int × Bool × List Int × Unit))).bind fun j2 => 
 bif j2.2.1 then
 some (0, (0, 1))
 else
 bif (within j2.1 j2.2.2.1.length) then
 bif (within (IntKind.i64.wrap (j2.1 + 1)) j2.2.2.1.length) then
 some ((j2.2.2.1.getD j2.1.toNat 0), ((j2.2.2.1.getD ((IntKind.i64.wrap (j2.1 + 1)).toNat) 0), 0))
 else none
 else none
noncomputable def g_freq_Total (a0 : List Int) : Option (Int) :=
 (g_freq_Check a0).bind fun y1 =>
 bif (y1 != 0) then
 some 0
 else
 (g_freq_last a0).bind fun y2 =>
 some y2
noncomputable def g_bits_fits (a0 : Int) (a1 : Int) : Option (Bool) :=
 bif (decide (a1 ≥ 0)) then
 bif (decide (a1 ≤ 64)) then
 (g_math_bits_Len64 a0).bind fun y1 =>
 some (decide (y1 ≤ a1))
 else
 some false
 else
 some false
noncomputable def g_slices_Clone_Sbyte_byte (a0 : List Int) : Option (List Int) :=
 bif room 1 ([] ++ a0).length then some ([] ++ a0) else none
noncomputable def g_bits_add_r1 (p1 : Int × Int × (List Int × Int) × (List Int × Int) × Unit) : Option ((Int × Int × (List Int × Int) × (List Int × Int) × Unit) ⊕ (((List Int × Int) × (List Int × Int) × Unit))) :=
 bif (decide (p1.2.1 > 0)) then
 (bif ((bitsI .and .i64 (IntKind.i64.wrap (0 - p1.2.2.1.2)) 7) == 0) then
 bif (room 1 (p1.2.2.1.1 ++ [0]).length) then
 some (p1.1, p1.2.1, 8, ((p1.2.2.1.1 ++ [0]), p1.2.2.1.2), (p1.2.2.2.1.1, p1.2.2.2.1.2), ())
 else none
 else
 some (p1.1, p1.2.1, (bitsI .and .i64 (IntKind.i64.wrap (0 - p1.2.2.1.2)) 7), (p1.2.2.1.1, p1.2.2.1.2), (p1.2.2.2.1.1, p1.2.2.2.1.2), ()) : Option ((Int × Int × Int × (List Int × Int) × (List Int × Int) × Unit))).bind fun j2 => 
 bif (decide (0 ≤ (IntKind.i64.wrap (j2.2.1 - (if j2.2.1 < j2.2.2.1 then j2.2.1 else j2.2.2.1))))) then
 bif (decide (0 ≤ (if j2.2.1 < j2.2.2.1 then j2.2.1 else j2.2.2.1))) then
 bif (within (IntKind.i64.wrap ((j2.2.2.2.1.1.length : Int) - 1)) j2.2.2.2.1.1.length) then
 bif (decide (0 ≤ (IntKind.i64.wrap (j2.2.2.1 - (if j2.2.1 < j2.2.2.1 then j2.2.1 else j2.2.2.1))))) then
 bif (within (IntKind.i64.wrap ((j2.2.2.2.1.1.length : Int) - 1)) j2.2.2.2.1.1.length) then
 some (Sum.inl (j2.1, (IntKind.i64.wrap (j2.2.1 - (if j2.2.1 < j2.2.2.1 then j2.2.1 else j2.2.2.1))), ((j2.2.2.2.1.1.set ((IntKind.i64.wrap ((j2.2.2.2.1.1.length : Int) - 1)).toNat) (bitsI .or .u8 (j2.2.2.2.1.1.getD ((IntKind.i64.wrap ((j2.2.2.2.1.1.length : Int) - 1)).toNat) 0) (shlI .u8 (IntKind.u8.wrap (bitsI .and .u64 (shrI .u64 j2.1 (IntKind.i64.wrap (j2.2.1 - (if j2.2.1 < j2.2.2.1 then j2.2.1 else j2.2.2.1)))) (IntKind.u64.wrap ((shlI .u64 1 (if j2.2.1 < j2.2.2.1 then j2.2.1 else j2.2.2.1)) - 1)))) (IntKind.i64.wrap (j2.2.2.1 - (if j2.2.1 < j2.2.2.1 then j2.2.1 else j2.2.2.1)))))), (IntKind.i64.wrap (j2.2.2.2.1.2 + (if j2.2.1 < j2.2.2.1 then j2.2.1 else j2.2.2.1)))), (j2.2.2.2.2.1.1, j2.2.2.2.2.1.2), ()))
 else none
 else none
 else none
 else none
 else none
 else
 some (Sum.inr ((p1.2.2.1.1, p1.2.2.1.2), (p1.2.2.2.1.1, p1.2.2.2.1.2), ()))
noncomputable def g_bits_add (a0 : List Int × Int) (a1 : Int) (a2 : Int) : Option (List Int × Int) :=
 (iter (g_bits_add_r1) (a1, a2, (a0.1, a0.2), ([], 0), ())).bind fun j3 => 
 some (j3.1.1, j3.1.2)
noncomputable def g_bits_Put (a0 : List Int × Int) (a1 : Int) (a2 : Int) : Option ((List Int × Int) × Int) :=
 ((g_bits_Check (a0.1, a0.2)).bind fun y1 =>
 bif (y1 != 0) then
 some (a1, a2, true, (a0.1, a0.2), ([], 0), ())
 else
 (g_bits_fits a1 a2).bind fun y2 =>
 some (a1, a2, (!y2), (a0.1, a0.2), ([], 0), ()) : Option ((Int × Int × Bool × (List Int × Int) × (List Int × Int) × Unit))).bind fun j3 => 
 bif j3.2.2.1 then
 some (([], 0), 1)
 else
 bif (decide (j3.2.1 > (IntKind.i64.wrap (65536 - j3.2.2.2.1.2)))) then
 some (([], 0), 2)
 else
 (g_slices_Clone_Sbyte_byte j3.2.2.2.1.1).bind fun y4 =>
 (g_bits_add (y4, j3.2.2.2.1.2) j3.1 j3.2.1).bind fun y5 =>
 some ((y5.1, y5.2), 0)
noncomputable def g_coder_owned (a0 : List Int × Int) : Option (List Int × Int) :=
 (g_slices_Clone_Sbyte_byte a0.1).bind fun y1 =>
 some (y1, a0.2)
noncomputable def g_coder_Put_r1 (p10 : Int × Int × ((Int × Int) × Int × (List Int × Int) × Int) × Unit) : Option ((Int × Int × ((Int × Int) × Int × (List Int × Int) × Int) × Unit) ⊕ ((Int × ((Int × Int) × Int × (List Int × Int) × Int) × Unit))) :=
 (bif (decide (p10.2.1 > 0)) then
 some (p10.1, p10.2.1, (p10.2.2.1.2.2.2 == 0), ((p10.2.2.1.1.1, p10.2.2.1.1.2), (p10.2.2.1.2.1, ((p10.2.2.1.2.2.1.1, p10.2.2.1.2.2.1.2), p10.2.2.1.2.2.2))), ())
 else
 some (p10.1, p10.2.1, false, ((p10.2.2.1.1.1, p10.2.2.1.1.2), (p10.2.2.1.2.1, ((p10.2.2.1.2.2.1.1, p10.2.2.1.2.2.1.2), p10.2.2.1.2.2.2))), ()) : Option ((Int × Int × Bool × ((Int × Int) × Int × (List Int × Int) × Int) × Unit))).bind fun j11 => 
 bif j11.2.2.1 then
 bif (decide (0 ≤ (if 32 < j11.2.1 then 32 else j11.2.1))) then
 (g_bits_Put (j11.2.2.2.1.2.2.1.1, j11.2.2.2.1.2.2.1.2) (IntKind.u64.wrap ((IntKind.u64.wrap (1 - j11.1)) * (IntKind.u64.wrap ((shlI .u64 1 (if 32 < j11.2.1 then 32 else j11.2.1)) - 1)))) (if 32 < j11.2.1 then 32 else j11.2.1)).bind fun y12 =>
 some (Sum.inl (j11.1, (IntKind.i64.wrap (j11.2.1 - 32)), ((j11.2.2.2.1.1.1, j11.2.2.2.1.1.2), (j11.2.2.2.1.2.1, ((y12.1.1, y12.1.2), y12.2))), ()))
 else none
 else
 some (Sum.inr (j11.1, ((j11.2.2.2.1.1.1, j11.2.2.2.1.1.2), (j11.2.2.2.1.2.1, ((j11.2.2.2.1.2.2.1.1, j11.2.2.2.1.2.2.1.2), j11.2.2.2.1.2.2.2))), ()))
noncomputable def g_coder_Put_r2 (p7 : ((Int × Int) × Int × (List Int × Int) × Int) × Unit) : Option ((((Int × Int) × Int × (List Int × Int) × Int) × Unit) ⊕ ((((Int × Int) × Int × (List Int × Int) × Int) × Unit) ⊕ (((Int × Int) × Int × (List Int × Int) × Int) × Unit))) :=
 bif (p7.1.2.2.2 == 0) then
 (g_coder_interval_move (p7.1.1.1, p7.1.1.2)).bind fun y8 =>
 (bif (y8.2 == 3) then
 some (Sum.inr (((p7.1.1.1, p7.1.1.2), (p7.1.2.1, ((p7.1.2.2.1.1, p7.1.2.2.1.2), p7.1.2.2.2))), ()))
 else
 bif (y8.2 == 2) then
 some (Sum.inl (y8.1, ((p7.1.1.1, p7.1.1.2), ((IntKind.i64.wrap (p7.1.2.1 + 1)), ((p7.1.2.2.1.1, p7.1.2.2.1.2), p7.1.2.2.2))), ()))
 else
 bif (decide ((IntKind.i64.wrap (p7.1.2.1 + 1)) > (IntKind.i64.wrap (65536 - p7.1.2.2.1.2)))) then
 some (Sum.inl (y8.1, ((p7.1.1.1, p7.1.1.2), (p7.1.2.1, ((p7.1.2.2.1.1, p7.1.2.2.1.2), 2))), ()))
 else
 (g_bits_Put (p7.1.2.2.1.1, p7.1.2.2.1.2) (IntKind.u64.wrap y8.2) 1).bind fun y9 =>
 (iter (g_coder_Put_r1) ((IntKind.u64.wrap y8.2), p7.1.2.1, ((p7.1.1.1, p7.1.1.2), (p7.1.2.1, ((y9.1.1, y9.1.2), y9.2))), ())).bind fun j13 => 
 some (Sum.inl (y8.1, ((j13.2.1.1.1, j13.2.1.1.2), (0, ((j13.2.1.2.2.1.1, j13.2.1.2.2.1.2), j13.2.1.2.2.2))), ())) : Option ((Int × ((Int × Int) × Int × (List Int × Int) × Int) × Unit) ⊕ (((Int × Int) × Int × (List Int × Int) × Int) × Unit))).bind fun j14 => 
 (match j14 with
 | .inl j15 =>
 (some (Sum.inl ((((shlI .u64 (IntKind.u64.wrap (j15.2.1.1.1 - j15.1)) 1), (bitsI .or .u64 (shlI .u64 (IntKind.u64.wrap (j15.2.1.1.2 - j15.1)) 1) 1)), (j15.2.1.2.1, ((j15.2.1.2.2.1.1, j15.2.1.2.2.1.2), j15.2.1.2.2.2))), ())))
 | .inr j16 =>
 (some (Sum.inr (Sum.inr (((j16.1.1.1, j16.1.1.2), (j16.1.2.1, ((j16.1.2.2.1.1, j16.1.2.2.1.2), j16.1.2.2.2))), ())))))
 else
 some (Sum.inr (Sum.inl (((p7.1.1.1, p7.1.1.2), (p7.1.2.1, ((p7.1.2.2.1.1, p7.1.2.2.1.2), p7.1.2.2.2))), ())))
noncomputable def g_coder_Put (a0 : Int × Int × Int × List Int × Int) (a1 : List Int) (a2 : Int) : Option ((Int × Int × Int × List Int × Int) × Int) :=
 ((g_coder_interval_good ((IntKind.u64.wrap a0.1), (IntKind.u64.wrap a0.2.1))).bind fun y1 =>
 bif y1 then
 bif (decide (a0.2.2.1 ≥ 0)) then
 bif (decide (a0.2.2.1 ≤ 65536)) then
 (g_bits_Check (a0.2.2.2.1, a0.2.2.2.2)).bind fun y2 =>
 some ((a0.1, (a0.2.1, (a0.2.2.1, (a0.2.2.2.1, a0.2.2.2.2)))), (y2 == 0), (((IntKind.u64.wrap a0.1), (IntKind.u64.wrap a0.2.1)), (a0.2.2.1, ((a0.2.2.2.1, a0.2.2.2.2), 0))), ())
 else
 some ((a0.1, (a0.2.1, (a0.2.2.1, (a0.2.2.2.1, a0.2.2.2.2)))), false, (((IntKind.u64.wrap a0.1), (IntKind.u64.wrap a0.2.1)), (a0.2.2.1, ((a0.2.2.2.1, a0.2.2.2.2), 0))), ())
 else
 some ((a0.1, (a0.2.1, (a0.2.2.1, (a0.2.2.2.1, a0.2.2.2.2)))), false, (((IntKind.u64.wrap a0.1), (IntKind.u64.wrap a0.2.1)), (a0.2.2.1, ((a0.2.2.2.1, a0.2.2.2.2), 0))), ())
 else
 some ((a0.1, (a0.2.1, (a0.2.2.1, (a0.2.2.2.1, a0.2.2.2.2)))), false, (((IntKind.u64.wrap a0.1), (IntKind.u64.wrap a0.2.1)), (a0.2.2.1, ((a0.2.2.2.1, a0.2.2.2.2), 0))), ()) : Option (((Int × Int × Int × List Int × Int) × Bool × ((Int × Int) × Int × (List Int × Int) × Int) × Unit))).bind fun j3 => 
 (g_freq_Span a1 a2).bind fun y4 =>
 (bif (!j3.2.1) then
 some (y4.1, y4.2.1, true, a1, (0, (0, (0, ([], 0)))), ((j3.2.2.1.1.1, j3.2.2.1.1.2), (j3.2.2.1.2.1, ((j3.2.2.1.2.2.1.1, j3.2.2.1.2.2.1.2), j3.2.2.1.2.2.2))), ())
 else
 some (y4.1, y4.2.1, (y4.2.2 != 0), a1, (0, (0, (0, ([], 0)))), ((j3.2.2.1.1.1, j3.2.2.1.1.2), (j3.2.2.1.2.1, ((j3.2.2.1.2.2.1.1, j3.2.2.1.2.2.1.2), j3.2.2.1.2.2.2))), ()) : Option ((Int × Int × Bool × List Int × (Int × Int × Int × List Int × Int) × ((Int × Int) × Int × (List Int × Int) × Int) × Unit))).bind fun j5 => 
 bif j5.2.2.1 then
 some ((0, (0, (0, ([], 0)))), 1)
 else
 (g_freq_Total j5.2.2.2.1).bind fun y6 =>
 bif ((IntKind.u64.wrap y6) != 0) then
 bif ((IntKind.u64.wrap y6) != 0) then
 ((iter (g_coder_Put_r2) ((((IntKind.u64.wrap (j5.2.2.2.2.2.1.1.1 + (IntKind.u64.wrap ((IntKind.u64.wrap ((IntKind.u64.wrap ((IntKind.u64.wrap (j5.2.2.2.2.2.1.1.2 - j5.2.2.2.2.2.1.1.1)) + 1)) * (IntKind.u64.wrap j5.1))).tdiv (IntKind.u64.wrap y6))))), (IntKind.u64.wrap ((IntKind.u64.wrap (j5.2.2.2.2.2.1.1.1 + (IntKind.u64.wrap ((IntKind.u64.wrap ((IntKind.u64.wrap ((IntKind.u64.wrap (j5.2.2.2.2.2.1.1.2 - j5.2.2.2.2.2.1.1.1)) + 1)) * (IntKind.u64.wrap j5.2.1))).tdiv (IntKind.u64.wrap y6))))) - 1))), (j5.2.2.2.2.2.1.2.1, ((j5.2.2.2.2.2.1.2.2.1.1, j5.2.2.2.2.2.1.2.2.1.2), j5.2.2.2.2.2.1.2.2.2))), ())).bind fun j17 => 
 (match j17 with
 | .inl j18 =>
 (some ((j5.2.2.2.2.1.1, (j5.2.2.2.2.1.2.1, (j5.2.2.2.2.1.2.2.1, (j5.2.2.2.2.1.2.2.2.1, j5.2.2.2.2.1.2.2.2.2)))), ((j18.1.1.1, j18.1.1.2), (j18.1.2.1, ((j18.1.2.2.1.1, j18.1.2.2.1.2), j18.1.2.2.2))), ()))
 | .inr j19 =>
 (some ((j5.2.2.2.2.1.1, (j5.2.2.2.2.1.2.1, (j5.2.2.2.2.1.2.2.1, (j5.2.2.2.2.1.2.2.2.1, j5.2.2.2.2.1.2.2.2.2)))), ((j19.1.1.1, j19.1.1.2), (j19.1.2.1, ((j19.1.2.2.1.1, j19.1.2.2.1.2), j19.1.2.2.2))), ()))) : Option (((Int × Int × Int × List Int × Int) × ((Int × Int) × Int × (List Int × Int) × Int) × Unit))).bind fun j20 => 
 ((bif (j20.2.1.2.2.2 == 0) then
 some ((decide (j20.2.1.2.1 > 65536)), (j20.1.1, (j20.1.2.1, (j20.1.2.2.1, (j20.1.2.2.2.1, j20.1.2.2.2.2)))), ((j20.2.1.1.1, j20.2.1.1.2), (j20.2.1.2.1, ((j20.2.1.2.2.1.1, j20.2.1.2.2.1.2), j20.2.1.2.2.2))), ())
 else
 some (false, (j20.1.1, (j20.1.2.1, (j20.1.2.2.1, (j20.1.2.2.2.1, j20.1.2.2.2.2)))), ((j20.2.1.1.1, j20.2.1.1.2), (j20.2.1.2.1, ((j20.2.1.2.2.1.1, j20.2.1.2.2.1.2), j20.2.1.2.2.2))), ()) : Option ((Bool × (Int × Int × Int × List Int × Int) × ((Int × Int) × Int × (List Int × Int) × Int) × Unit))).bind fun j21 => 
 bif j21.1 then
 some ((j21.2.1.1, (j21.2.1.2.1, (j21.2.1.2.2.1, (j21.2.1.2.2.2.1, j21.2.1.2.2.2.2)))), ((j21.2.2.1.1.1, j21.2.2.1.1.2), (j21.2.2.1.2.1, ((j21.2.2.1.2.2.1.1, j21.2.2.1.2.2.1.2), 2))), ())
 else
 some ((j21.2.1.1, (j21.2.1.2.1, (j21.2.1.2.2.1, (j21.2.1.2.2.2.1, j21.2.1.2.2.2.2)))), ((j21.2.2.1.1.1, j21.2.2.1.1.2), (j21.2.2.1.2.1, ((j21.2.2.1.2.2.1.1, j21.2.2.1.2.2.1.2), j21.2.2.1.2.2.2))), ()) : Option (((Int × Int × Int × List Int × Int) × ((Int × Int) × Int × (List Int × Int) × Int) × Unit))).bind fun j22 => 
 bif (j22.2.1.2.2.2 != 0) then
 some ((0, (0, (0, ([], 0)))), j22.2.1.2.2.2)
 else
 (g_coder_owned (j22.2.1.2.2.1.1, j22.2.1.2.2.1.2)).bind fun y23 =>
 some (((IntKind.u32.wrap j22.2.1.1.1), ((IntKind.u32.wrap j22.2.1.1.2), (j22.2.1.2.1, (y23.1, y23.2)))), 0)
 else none
 else none
noncomputable def g_coder_End_r1 (p5 : Int × Int × ((Int × Int) × Int × (List Int × Int) × Int) × Unit) : Option ((Int × Int × ((Int × Int) × Int × (List Int × Int) × Int) × Unit) ⊕ ((Int × ((Int × Int) × Int × (List Int × Int) × Int) × Unit))) :=
 (bif (decide (p5.2.1 > 0)) then
 some (p5.1, p5.2.1, (p5.2.2.1.2.2.2 == 0), ((p5.2.2.1.1.1, p5.2.2.1.1.2), (p5.2.2.1.2.1, ((p5.2.2.1.2.2.1.1, p5.2.2.1.2.2.1.2), p5.2.2.1.2.2.2))), ())
 else
 some (p5.1, p5.2.1, false, ((p5.2.2.1.1.1, p5.2.2.1.1.2), (p5.2.2.1.2.1, ((p5.2.2.1.2.2.1.1, p5.2.2.1.2.2.1.2), p5.2.2.1.2.2.2))), ()) : Option ((Int × Int × Bool × ((Int × Int) × Int × (List Int × Int) × Int) × Unit))).bind fun j6 => 
 bif j6.2.2.1 then
 bif (decide (0 ≤ (if 32 < j6.2.1 then 32 else j6.2.1))) then
 (g_bits_Put (j6.2.2.2.1.2.2.1.1, j6.2.2.2.1.2.2.1.2) (IntKind.u64.wrap ((IntKind.u64.wrap (1 - j6.1)) * (IntKind.u64.wrap ((shlI .u64 1 (if 32 < j6.2.1 then 32 else j6.2.1)) - 1)))) (if 32 < j6.2.1 then 32 else j6.2.1)).bind fun y7 =>
 some (Sum.inl (j6.1, (IntKind.i64.wrap (j6.2.1 - 32)), ((j6.2.2.2.1.1.1, j6.2.2.2.1.1.2), (j6.2.2.2.1.2.1, ((y7.1.1, y7.1.2), y7.2))), ()))
 else none
 else
 some (Sum.inr (j6.1, ((j6.2.2.2.1.1.1, j6.2.2.2.1.1.2), (j6.2.2.2.1.2.1, ((j6.2.2.2.1.2.2.1.1, j6.2.2.2.1.2.2.1.2), j6.2.2.2.1.2.2.2))), ()))
noncomputable def g_coder_End_r2 (p10 : Int × Int × ((Int × Int) × Int × (List Int × Int) × Int) × Unit) : Option ((Int × Int × ((Int × Int) × Int × (List Int × Int) × Int) × Unit) ⊕ ((Int × ((Int × Int) × Int × (List Int × Int) × Int) × Unit))) :=
 (bif (decide (p10.2.1 > 0)) then
 some (p10.1, p10.2.1, (p10.2.2.1.2.2.2 == 0), ((p10.2.2.1.1.1, p10.2.2.1.1.2), (p10.2.2.1.2.1, ((p10.2.2.1.2.2.1.1, p10.2.2.1.2.2.1.2), p10.2.2.1.2.2.2))), ())
 else
 some (p10.1, p10.2.1, false, ((p10.2.2.1.1.1, p10.2.2.1.1.2), (p10.2.2.1.2.1, ((p10.2.2.1.2.2.1.1, p10.2.2.1.2.2.1.2), p10.2.2.1.2.2.2))), ()) : Option ((Int × Int × Bool × ((Int × Int) × Int × (List Int × Int) × Int) × Unit))).bind fun j11 => 
 bif j11.2.2.1 then
 bif (decide (0 ≤ (if 32 < j11.2.1 then 32 else j11.2.1))) then
 (g_bits_Put (j11.2.2.2.1.2.2.1.1, j11.2.2.2.1.2.2.1.2) (IntKind.u64.wrap ((IntKind.u64.wrap (1 - j11.1)) * (IntKind.u64.wrap ((shlI .u64 1 (if 32 < j11.2.1 then 32 else j11.2.1)) - 1)))) (if 32 < j11.2.1 then 32 else j11.2.1)).bind fun y12 =>
 some (Sum.inl (j11.1, (IntKind.i64.wrap (j11.2.1 - 32)), ((j11.2.2.2.1.1.1, j11.2.2.2.1.1.2), (j11.2.2.2.1.2.1, ((y12.1.1, y12.1.2), y12.2))), ()))
 else none
 else
 some (Sum.inr (j11.1, ((j11.2.2.2.1.1.1, j11.2.2.2.1.1.2), (j11.2.2.2.1.2.1, ((j11.2.2.2.1.2.2.1.1, j11.2.2.2.1.2.2.1.2), j11.2.2.2.1.2.2.2))), ()))
noncomputable def g_coder_End (a0 : Int × Int × Int × List Int × Int) : Option ((List Int × Int) × Int) :=
 ((g_coder_interval_good ((IntKind.u64.wrap a0.1), (IntKind.u64.wrap a0.2.1))).bind fun y1 =>
 bif y1 then
 bif (decide (a0.2.2.1 ≥ 0)) then
 bif (decide (a0.2.2.1 ≤ 65536)) then
 (g_bits_Check (a0.2.2.2.1, a0.2.2.2.2)).bind fun y2 =>
 some ((a0.1, (a0.2.1, (a0.2.2.1, (a0.2.2.2.1, a0.2.2.2.2)))), (y2 == 0), (((IntKind.u64.wrap a0.1), (IntKind.u64.wrap a0.2.1)), (a0.2.2.1, ((a0.2.2.2.1, a0.2.2.2.2), 0))), ())
 else
 some ((a0.1, (a0.2.1, (a0.2.2.1, (a0.2.2.2.1, a0.2.2.2.2)))), false, (((IntKind.u64.wrap a0.1), (IntKind.u64.wrap a0.2.1)), (a0.2.2.1, ((a0.2.2.2.1, a0.2.2.2.2), 0))), ())
 else
 some ((a0.1, (a0.2.1, (a0.2.2.1, (a0.2.2.2.1, a0.2.2.2.2)))), false, (((IntKind.u64.wrap a0.1), (IntKind.u64.wrap a0.2.1)), (a0.2.2.1, ((a0.2.2.2.1, a0.2.2.2.2), 0))), ())
 else
 some ((a0.1, (a0.2.1, (a0.2.2.1, (a0.2.2.2.1, a0.2.2.2.2)))), false, (((IntKind.u64.wrap a0.1), (IntKind.u64.wrap a0.2.1)), (a0.2.2.1, ((a0.2.2.2.1, a0.2.2.2.2), 0))), ()) : Option (((Int × Int × Int × List Int × Int) × Bool × ((Int × Int) × Int × (List Int × Int) × Int) × Unit))).bind fun j3 => 
 bif (!j3.2.1) then
 some (([], 0), 1)
 else
 bif (decide (j3.2.2.1.1.1 < 1073741824)) then
 bif (decide ((IntKind.i64.wrap ((IntKind.i64.wrap (j3.2.2.1.2.1 + 1)) + 1)) > (IntKind.i64.wrap (65536 - j3.2.2.1.2.2.1.2)))) then
 some (([], 0), 2)
 else
 (g_bits_Put (j3.2.2.1.2.2.1.1, j3.2.2.1.2.2.1.2) 0 1).bind fun y4 =>
 (iter (g_coder_End_r1) (0, (IntKind.i64.wrap (j3.2.2.1.2.1 + 1)), ((j3.2.2.1.1.1, j3.2.2.1.1.2), ((IntKind.i64.wrap (j3.2.2.1.2.1 + 1)), ((y4.1.1, y4.1.2), y4.2))), ())).bind fun j8 => 
 bif (j8.2.1.2.2.2 != 0) then
 some (([], 0), j8.2.1.2.2.2)
 else
 some ((j8.2.1.2.2.1.1, j8.2.1.2.2.1.2), 0)
 else
 bif (decide ((IntKind.i64.wrap ((IntKind.i64.wrap (j3.2.2.1.2.1 + 1)) + 1)) > (IntKind.i64.wrap (65536 - j3.2.2.1.2.2.1.2)))) then
 some (([], 0), 2)
 else
 (g_bits_Put (j3.2.2.1.2.2.1.1, j3.2.2.1.2.2.1.2) 1 1).bind fun y9 =>
 (iter (g_coder_End_r2) (1, (IntKind.i64.wrap (j3.2.2.1.2.1 + 1)), ((j3.2.2.1.1.1, j3.2.2.1.1.2), ((IntKind.i64.wrap (j3.2.2.1.2.1 + 1)), ((y9.1.1, y9.1.2), y9.2))), ())).bind fun j13 => 
 bif (j13.2.1.2.2.2 != 0) then
 some (([], 0), j13.2.1.2.2.2)
 else
 some ((j13.2.1.2.2.1.1, j13.2.1.2.2.1.2), 0)
noncomputable def g_coder_All_r1 (p2 : List (List Int) × List Int × Int × Int × (List Int × Int) × (Int × Int × Int × List Int × Int) × Unit) : Option ((List (List Int) × List Int × Int × Int × (List Int × Int) × (Int × Int × Int × List Int × Int) × Unit) ⊕ (((List Int × Int) × (Int × Int × Int × List Int × Int) × Unit) ⊕ (Int × (List Int × Int) × Unit))) :=
 bif (decide (p2.2.2.2.1 < p2.2.2.1)) then
 bif (within p2.2.2.2.1 p2.2.1.length) then
 bif (within p2.2.2.2.1 p2.1.length) then
 (g_coder_Put (p2.2.2.2.2.2.1.1, (p2.2.2.2.2.2.1.2.1, (p2.2.2.2.2.2.1.2.2.1, (p2.2.2.2.2.2.1.2.2.2.1, p2.2.2.2.2.2.1.2.2.2.2)))) (p2.1.getD p2.2.2.2.1.toNat []) (p2.2.1.getD p2.2.2.2.1.toNat 0)).bind fun y3 =>
 bif (y3.2 != 0) then
 some (Sum.inr (Sum.inr (y3.2, ([], 0), ())))
 else
 some (Sum.inl (p2.1, p2.2.1, p2.2.2.1, (IntKind.i64.wrap (p2.2.2.2.1 + 1)), (p2.2.2.2.2.1.1, p2.2.2.2.2.1.2), (y3.1.1, (y3.1.2.1, (y3.1.2.2.1, (y3.1.2.2.2.1, y3.1.2.2.2.2)))), ()))
 else none
 else none
 else
 some (Sum.inr (Sum.inl ((p2.2.2.2.2.1.1, p2.2.2.2.2.1.2), (p2.2.2.2.2.2.1.1, (p2.2.2.2.2.2.1.2.1, (p2.2.2.2.2.2.1.2.2.1, (p2.2.2.2.2.2.1.2.2.2.1, p2.2.2.2.2.2.1.2.2.2.2)))), ())))
noncomputable def g_coder_All (a0 : List Int) (a1 : List (List Int)) : Option ((List Int × Int) × Int) :=
 bif ((a0.length : Int) != (a1.length : Int)) then
 some (([], 0), 1)
 else
 (g_coder_Begin).bind fun y1 =>
 (iter (g_coder_All_r1) (a1, a0, (a0.length : Int), 0, ([], 0), (y1.1, (y1.2.1, (y1.2.2.1, (y1.2.2.2.1, y1.2.2.2.2)))), ())).bind fun j4 => 
 (match j4 with
 | .inl j5 =>
 ((g_coder_End (j5.2.1.1, (j5.2.1.2.1, (j5.2.1.2.2.1, (j5.2.1.2.2.2.1, j5.2.1.2.2.2.2))))).bind fun y7 =>
 some ((y7.1.1, y7.1.2), y7.2))
 | .inr j6 =>
 (some ((j6.2.1.1, j6.2.1.2), j6.1)))
noncomputable def g_frame_Write (a0 : Int × List Int × List Int) (a1 : List Int) : Option (List Int × Int) :=
 (g_frame_Check (a0.1, (a0.2.1, a0.2.2)) a1).bind fun y1 =>
 bif (y1 != 0) then
 some ([], y1)
 else
 (g_frame_symbols (a0.1, (a0.2.1, a0.2.2)) a1).bind fun y2 =>
 (g_coder_All y2.1 y2.2).bind fun y3 =>
 bif (y3.2 != 0) then
 some ([], y3.2)
 else
 some (y3.1.1, 0)
noncomputable def g_bits_Of (a0 : List Int) : Option (List Int × Int) :=
 bif (decide ((a0.length : Int) > 8192)) then
 some ([], 0)
 else
 (g_slices_Clone_Sbyte_byte a0).bind fun y1 =>
 some (y1, (IntKind.i64.wrap (8 * (a0.length : Int))))
noncomputable def g_coder_bit (a0 : List Int × Int) (a1 : Int) : Option (Int) :=
 bif (decide (a1 ≥ a0.2)) then
 some 0
 else
 bif (within (IntKind.i64.wrap (a1.tdiv 8)) a0.1.length) then
 bif (decide (0 ≤ (IntKind.i64.wrap (7 - (a1.tmod 8))))) then
 some (bitsI .and .u64 (IntKind.u64.wrap (shrI .u8 (a0.1.getD ((IntKind.i64.wrap (a1.tdiv 8)).toNat) 0) (IntKind.i64.wrap (7 - (a1.tmod 8))))) 1)
 else none
 else none
noncomputable def g_coder_Start_r1 (p2 : Int × Int × (List Int × Int) × (Int × Int × Int × (List Int × Int) × Int) × Unit) : Option ((Int × Int × (List Int × Int) × (Int × Int × Int × (List Int × Int) × Int) × Unit) ⊕ ((Int × (List Int × Int) × (Int × Int × Int × (List Int × Int) × Int) × Unit))) :=
 bif (decide (p2.2.1 < 32)) then
 (g_coder_bit (p2.2.2.1.1, p2.2.2.1.2) p2.2.1).bind fun y3 =>
 some (Sum.inl ((bitsI .or .u64 (shlI .u64 p2.1 1) y3), (IntKind.i64.wrap (p2.2.1 + 1)), (p2.2.2.1.1, p2.2.2.1.2), (p2.2.2.2.1.1, (p2.2.2.2.1.2.1, (p2.2.2.2.1.2.2.1, ((p2.2.2.2.1.2.2.2.1.1, p2.2.2.2.1.2.2.2.1.2), p2.2.2.2.1.2.2.2.2)))), ()))
 else
 some (Sum.inr (p2.1, (p2.2.2.1.1, p2.2.2.1.2), (p2.2.2.2.1.1, (p2.2.2.2.1.2.1, (p2.2.2.2.1.2.2.1, ((p2.2.2.2.1.2.2.2.1.1, p2.2.2.2.1.2.2.2.1.2), p2.2.2.2.1.2.2.2.2)))), ()))
noncomputable def g_coder_Start (a0 : List Int × Int) : Option ((Int × Int × Int × (List Int × Int) × Int) × Int) :=
 (g_bits_Check (a0.1, a0.2)).bind fun y1 =>
 bif (y1 != 0) then
 some ((0, (0, (0, (([], 0), 0)))), y1)
 else
 (iter (g_coder_Start_r1) (0, 0, (a0.1, a0.2), (0, (0, (0, (([], 0), 0)))), ())).bind fun j4 => 
 (g_coder_owned (j4.2.1.1, j4.2.1.2)).bind fun y5 =>
 some ((0, (4294967295, ((IntKind.u32.wrap j4.1), ((y5.1, y5.2), 32)))), 0)
noncomputable def g_cmp_isNaN_int (a0 : Int) : Option (Bool) :=
 some (a0 != a0)
noncomputable def g_cmp_Less_int (a0 : Int) (a1 : Int) : Option (Bool) :=
 (g_cmp_isNaN_int a0).bind fun y1 =>
 bif y1 then
 (g_cmp_isNaN_int a1).bind fun y2 =>
 bif (!y2) then
 some true
 else
 some (decide (a0 < a1))
 else
 some (decide (a0 < a1))
noncomputable def g_slices_isNaN_int (a0 : Int) : Option (Bool) :=
 some (a0 != a0)
noncomputable def g_slices_BinarySearch_Sint_int_r1 (p1 : List Int × Int × Int × Int × Int × Unit) : Option ((List Int × Int × Int × Int × Int × Unit) ⊕ ((List Int × Int × Int × Int × Unit))) :=
 bif (decide (p1.2.2.2.1 < p1.2.2.2.2.1)) then
 bif (within (IntKind.i64.wrap (shrI .u64 (IntKind.u64.wrap (IntKind.i64.wrap (p1.2.2.2.1 + p1.2.2.2.2.1))) 1)) p1.1.length) then
 (g_cmp_Less_int (p1.1.getD ((IntKind.i64.wrap (shrI .u64 (IntKind.u64.wrap (IntKind.i64.wrap (p1.2.2.2.1 + p1.2.2.2.2.1))) 1)).toNat) 0) p1.2.1).bind fun y2 =>
 bif y2 then
 some (Sum.inl (p1.1, p1.2.1, p1.2.2.1, (IntKind.i64.wrap ((IntKind.i64.wrap (shrI .u64 (IntKind.u64.wrap (IntKind.i64.wrap (p1.2.2.2.1 + p1.2.2.2.2.1))) 1)) + 1)), p1.2.2.2.2.1, ()))
 else
 some (Sum.inl (p1.1, p1.2.1, p1.2.2.1, p1.2.2.2.1, (IntKind.i64.wrap (shrI .u64 (IntKind.u64.wrap (IntKind.i64.wrap (p1.2.2.2.1 + p1.2.2.2.2.1))) 1)), ()))
 else none
 else
 some (Sum.inr (p1.1, p1.2.1, p1.2.2.1, p1.2.2.2.1, ()))
noncomputable def g_slices_BinarySearch_Sint_int (a0 : List Int) (a1 : Int) : Option (Int × Bool) :=
 (iter (g_slices_BinarySearch_Sint_int_r1) (a0, a1, (a0.length : Int), 0, (a0.length : Int), ())).bind fun j3 => 
 bif (decide (j3.2.2.2.1 < j3.2.2.1)) then
 bif (within j3.2.2.2.1 j3.1.length) then
 bif ((j3.1.getD j3.2.2.2.1.toNat 0) == j3.2.1) then
 some (j3.2.2.2.1, true)
 else
 bif (within j3.2.2.2.1 j3.1.length) then
 (g_slices_isNaN_int (j3.1.getD j3.2.2.2.1.toNat 0)).bind fun y4 =>
 bif y4 then
 (g_slices_isNaN_int j3.2.1).bind fun y5 =>
 some (j3.2.2.2.1, y5)
 else
 some (j3.2.2.2.1, false)
 else none
 else none
 else
 some (j3.2.2.2.1, false)
noncomputable def g_freq_Find (a0 : List Int) (a1 : Int) : Option (Int × Int) :=
 ((g_freq_Check a0).bind fun y1 =>
 bif (y1 != 0) then
 some (a1, true, a0, ())
 else
 bif (decide (a1 < 0)) then
 some (a1, true, a0, ())
 else
 (g_freq_last a0).bind fun y2 =>
 some (a1, (decide (a1 ≥ y2)), a0, ()) : Option ((Int × Bool × List Int × Unit))).bind fun j3 => 
 bif j3.2.1 then
 some (0, 1)
 else
 (g_slices_BinarySearch_Sint_int j3.2.2.1 j3.1).bind fun y4 =>
 (bif (!y4.2) then
 some ((IntKind.i64.wrap (y4.1 - 1)), ())
 else
 some (y4.1, ()) : Option ((Int × Unit))).bind fun j5 => 
 some (j5.1, 0)
noncomputable def g_coder_Next_r1 (p7 : Int × Int × Int × (Int × Int × Int × (List Int × Int) × Int) × (Int × Int × Int × (List Int × Int) × Int) × (Int × Int) × Unit) : Option ((Int × Int × Int × (Int × Int × Int × (List Int × Int) × Int) × (Int × Int × Int × (List Int × Int) × Int) × (Int × Int) × Unit) ⊕ ((Int × Int × Int × (Int × Int × Int × (List Int × Int) × Int) × (Int × Int × Int × (List Int × Int) × Int) × (Int × Int) × Unit))) :=
 (g_coder_interval_move (p7.2.2.2.2.2.1.1, p7.2.2.2.2.2.1.2)).bind fun y8 =>
 bif (y8.2 == 3) then
 some (Sum.inr (p7.1, p7.2.1, p7.2.2.1, (p7.2.2.2.1.1, (p7.2.2.2.1.2.1, (p7.2.2.2.1.2.2.1, ((p7.2.2.2.1.2.2.2.1.1, p7.2.2.2.1.2.2.2.1.2), p7.2.2.2.1.2.2.2.2)))), (p7.2.2.2.2.1.1, (p7.2.2.2.2.1.2.1, (p7.2.2.2.2.1.2.2.1, ((p7.2.2.2.2.1.2.2.2.1.1, p7.2.2.2.2.1.2.2.2.1.2), p7.2.2.2.2.1.2.2.2.2)))), (p7.2.2.2.2.2.1.1, p7.2.2.2.2.2.1.2), ()))
 else
 (g_coder_bit (p7.2.2.2.1.2.2.2.1.1, p7.2.2.2.1.2.2.2.1.2) p7.2.1).bind fun y9 =>
 some (Sum.inl ((bitsI .or .u64 (shlI .u64 (IntKind.u64.wrap (p7.1 - y8.1)) 1) y9), (IntKind.i64.wrap (p7.2.1 + 1)), p7.2.2.1, (p7.2.2.2.1.1, (p7.2.2.2.1.2.1, (p7.2.2.2.1.2.2.1, ((p7.2.2.2.1.2.2.2.1.1, p7.2.2.2.1.2.2.2.1.2), p7.2.2.2.1.2.2.2.2)))), (p7.2.2.2.2.1.1, (p7.2.2.2.2.1.2.1, (p7.2.2.2.2.1.2.2.1, ((p7.2.2.2.2.1.2.2.2.1.1, p7.2.2.2.2.1.2.2.2.1.2), p7.2.2.2.2.1.2.2.2.2)))), ((shlI .u64 (IntKind.u64.wrap (p7.2.2.2.2.2.1.1 - y8.1)) 1), (bitsI .or .u64 (shlI .u64 (IntKind.u64.wrap (p7.2.2.2.2.2.1.2 - y8.1)) 1) 1)), ()))
noncomputable def g_coder_Next (a0 : Int × Int × Int × (List Int × Int) × Int) (a1 : List Int) : Option ((Int × Int × Int × (List Int × Int) × Int) × Int × Int) :=
 ((g_coder_interval_good ((IntKind.u64.wrap a0.1), (IntKind.u64.wrap a0.2.1))).bind fun y1 =>
 bif (!y1) then
 some ((IntKind.u64.wrap a0.2.2.1), a0.2.2.2.2, true, (a0.1, (a0.2.1, (a0.2.2.1, ((a0.2.2.2.1.1, a0.2.2.2.1.2), a0.2.2.2.2)))), a1, (0, (0, (0, (([], 0), 0)))), ((IntKind.u64.wrap a0.1), (IntKind.u64.wrap a0.2.1)), ())
 else
 bif (decide ((IntKind.u64.wrap a0.2.2.1) < (IntKind.u64.wrap a0.1))) then
 some ((IntKind.u64.wrap a0.2.2.1), a0.2.2.2.2, true, (a0.1, (a0.2.1, (a0.2.2.1, ((a0.2.2.2.1.1, a0.2.2.2.1.2), a0.2.2.2.2)))), a1, (0, (0, (0, (([], 0), 0)))), ((IntKind.u64.wrap a0.1), (IntKind.u64.wrap a0.2.1)), ())
 else
 bif (decide ((IntKind.u64.wrap a0.2.2.1) > (IntKind.u64.wrap a0.2.1))) then
 some ((IntKind.u64.wrap a0.2.2.1), a0.2.2.2.2, true, (a0.1, (a0.2.1, (a0.2.2.1, ((a0.2.2.2.1.1, a0.2.2.2.1.2), a0.2.2.2.2)))), a1, (0, (0, (0, (([], 0), 0)))), ((IntKind.u64.wrap a0.1), (IntKind.u64.wrap a0.2.1)), ())
 else
 (g_bits_Check (a0.2.2.2.1.1, a0.2.2.2.1.2)).bind fun y2 =>
 bif (y2 != 0) then
 some ((IntKind.u64.wrap a0.2.2.1), a0.2.2.2.2, true, (a0.1, (a0.2.1, (a0.2.2.1, ((a0.2.2.2.1.1, a0.2.2.2.1.2), a0.2.2.2.2)))), a1, (0, (0, (0, (([], 0), 0)))), ((IntKind.u64.wrap a0.1), (IntKind.u64.wrap a0.2.1)), ())
 else
 bif (decide (a0.2.2.2.2 < 32)) then
 some ((IntKind.u64.wrap a0.2.2.1), a0.2.2.2.2, true, (a0.1, (a0.2.1, (a0.2.2.1, ((a0.2.2.2.1.1, a0.2.2.2.1.2), a0.2.2.2.2)))), a1, (0, (0, (0, (([], 0), 0)))), ((IntKind.u64.wrap a0.1), (IntKind.u64.wrap a0.2.1)), ())
 else
 bif (decide (a0.2.2.2.2 > 65600)) then
 some ((IntKind.u64.wrap a0.2.2.1), a0.2.2.2.2, true, (a0.1, (a0.2.1, (a0.2.2.1, ((a0.2.2.2.1.1, a0.2.2.2.1.2), a0.2.2.2.2)))), a1, (0, (0, (0, (([], 0), 0)))), ((IntKind.u64.wrap a0.1), (IntKind.u64.wrap a0.2.1)), ())
 else
 (g_freq_Check a1).bind fun y3 =>
 some ((IntKind.u64.wrap a0.2.2.1), a0.2.2.2.2, (y3 != 0), (a0.1, (a0.2.1, (a0.2.2.1, ((a0.2.2.2.1.1, a0.2.2.2.1.2), a0.2.2.2.2)))), a1, (0, (0, (0, (([], 0), 0)))), ((IntKind.u64.wrap a0.1), (IntKind.u64.wrap a0.2.1)), ()) : Option ((Int × Int × Bool × (Int × Int × Int × (List Int × Int) × Int) × List Int × (Int × Int × Int × (List Int × Int) × Int) × (Int × Int) × Unit))).bind fun j4 => 
 bif j4.2.2.1 then
 some ((0, (0, (0, (([], 0), 0)))), (0, 1))
 else
 bif (decide (j4.2.1 > (IntKind.i64.wrap (j4.2.2.2.1.2.2.2.1.2 + 32)))) then
 some ((0, (0, (0, (([], 0), 0)))), (0, 20))
 else
 (g_freq_Total j4.2.2.2.2.1).bind fun y5 =>
 bif ((IntKind.u64.wrap ((IntKind.u64.wrap (j4.2.2.2.2.2.2.1.2 - j4.2.2.2.2.2.2.1.1)) + 1)) != 0) then
 (g_freq_Find j4.2.2.2.2.1 (IntKind.i64.wrap (IntKind.u64.wrap ((IntKind.u64.wrap ((IntKind.u64.wrap ((IntKind.u64.wrap ((IntKind.u64.wrap (j4.1 - j4.2.2.2.2.2.2.1.1)) + 1)) * (IntKind.u64.wrap y5))) - 1)).tdiv (IntKind.u64.wrap ((IntKind.u64.wrap (j4.2.2.2.2.2.2.1.2 - j4.2.2.2.2.2.2.1.1)) + 1)))))).bind fun y6 =>
 bif (y6.2 != 0) then
 some ((0, (0, (0, (([], 0), 0)))), (0, y6.2))
 else
 bif (within y6.1 j4.2.2.2.2.1.length) then
 bif (within (IntKind.i64.wrap (y6.1 + 1)) j4.2.2.2.2.1.length) then
 bif ((IntKind.u64.wrap y5) != 0) then
 bif ((IntKind.u64.wrap y5) != 0) then
 (iter (g_coder_Next_r1) (j4.1, j4.2.1, y6.1, (j4.2.2.2.1.1, (j4.2.2.2.1.2.1, (j4.2.2.2.1.2.2.1, ((j4.2.2.2.1.2.2.2.1.1, j4.2.2.2.1.2.2.2.1.2), j4.2.2.2.1.2.2.2.2)))), (j4.2.2.2.2.2.1.1, (j4.2.2.2.2.2.1.2.1, (j4.2.2.2.2.2.1.2.2.1, ((j4.2.2.2.2.2.1.2.2.2.1.1, j4.2.2.2.2.2.1.2.2.2.1.2), j4.2.2.2.2.2.1.2.2.2.2)))), ((IntKind.u64.wrap (j4.2.2.2.2.2.2.1.1 + (IntKind.u64.wrap ((IntKind.u64.wrap ((IntKind.u64.wrap ((IntKind.u64.wrap (j4.2.2.2.2.2.2.1.2 - j4.2.2.2.2.2.2.1.1)) + 1)) * (IntKind.u64.wrap (j4.2.2.2.2.1.getD y6.1.toNat 0)))).tdiv (IntKind.u64.wrap y5))))), (IntKind.u64.wrap ((IntKind.u64.wrap (j4.2.2.2.2.2.2.1.1 + (IntKind.u64.wrap ((IntKind.u64.wrap ((IntKind.u64.wrap ((IntKind.u64.wrap (j4.2.2.2.2.2.2.1.2 - j4.2.2.2.2.2.2.1.1)) + 1)) * (IntKind.u64.wrap (j4.2.2.2.2.1.getD ((IntKind.i64.wrap (y6.1 + 1)).toNat) 0)))).tdiv (IntKind.u64.wrap y5))))) - 1))), ())).bind fun j10 => 
 (g_coder_owned (j10.2.2.2.1.2.2.2.1.1, j10.2.2.2.1.2.2.2.1.2)).bind fun y11 =>
 some (((IntKind.u32.wrap j10.2.2.2.2.2.1.1), ((IntKind.u32.wrap j10.2.2.2.2.2.1.2), ((IntKind.u32.wrap j10.1), ((y11.1, y11.2), j10.2.1)))), (j10.2.2.1, 0))
 else none
 else none
 else none
 else none
 else none
noncomputable def g_slices_Equal_Sbyte_byte_r1 (p1 : List Int × List Int × Int × Int × Unit) : Option ((List Int × List Int × Int × Int × Unit) ⊕ (Unit ⊕ (Bool × Unit))) :=
 bif (decide (p1.2.2.2.1 < p1.2.2.1)) then
 bif (within p1.2.2.2.1 p1.1.length) then
 bif (within p1.2.2.2.1 p1.2.1.length) then
 bif ((p1.1.getD p1.2.2.2.1.toNat 0) != (p1.2.1.getD p1.2.2.2.1.toNat 0)) then
 some (Sum.inr (Sum.inr (false, ())))
 else
 some (Sum.inl (p1.1, p1.2.1, p1.2.2.1, (IntKind.i64.wrap (p1.2.2.2.1 + 1)), ()))
 else none
 else none
 else
 some (Sum.inr (Sum.inl ()))
noncomputable def g_slices_Equal_Sbyte_byte (a0 : List Int) (a1 : List Int) : Option (Bool) :=
 bif ((a0.length : Int) != (a1.length : Int)) then
 some false
 else
 (iter (g_slices_Equal_Sbyte_byte_r1) (a0, a1, (a0.length : Int), 0, ())).bind fun j2 => 
 (match j2 with
 | .inl j3 =>
 (some true)
 | .inr j4 =>
 (some j4.1))
noncomputable def g_frame_Read_r1 (p10 : List Int × Int × (Int × List Int × List Int) × List Int × List Int × ((Int × Int × Int × (List Int × Int) × Int) × Int) × Unit) : Option ((List Int × Int × (Int × List Int × List Int) × List Int × List Int × ((Int × Int × Int × (List Int × Int) × Int) × Int) × Unit) ⊕ ((List Int × (Int × List Int × List Int) × List Int × List Int × ((Int × Int × Int × (List Int × Int) × Int) × Int) × Unit))) :=
 bif (decide (p10.2.1 < 6)) then
 bif (within p10.2.1 6) then
 bif (within p10.2.1 6) then
 some (Sum.inl (p10.1, (IntKind.i64.wrap (p10.2.1 + 1)), (p10.2.2.1.1, (p10.2.2.1.2.1, p10.2.2.1.2.2)), p10.2.2.2.1, (p10.2.2.2.2.1.set p10.2.1.toNat (IntKind.i64.wrap ((p10.2.2.2.2.1.getD p10.2.1.toNat 0) - 8))), ((p10.2.2.2.2.2.1.1.1, (p10.2.2.2.2.2.1.1.2.1, (p10.2.2.2.2.2.1.1.2.2.1, ((p10.2.2.2.2.2.1.1.2.2.2.1.1, p10.2.2.2.2.2.1.1.2.2.2.1.2), p10.2.2.2.2.2.1.1.2.2.2.2)))), p10.2.2.2.2.2.1.2), ()))
 else none
 else none
 else
 some (Sum.inr (p10.1, (p10.2.2.1.1, (p10.2.2.1.2.1, p10.2.2.1.2.2)), p10.2.2.2.1, p10.2.2.2.2.1, ((p10.2.2.2.2.2.1.1.1, (p10.2.2.2.2.2.1.1.2.1, (p10.2.2.2.2.2.1.1.2.2.1, ((p10.2.2.2.2.2.1.1.2.2.2.1.1, p10.2.2.2.2.2.1.1.2.2.2.1.2), p10.2.2.2.2.2.1.1.2.2.2.2)))), p10.2.2.2.2.2.1.2), ()))
noncomputable def g_frame_Read_r2 (p13 : List Int × Int × (Int × List Int × List Int) × List Int × List Int × ((Int × Int × Int × (List Int × Int) × Int) × Int) × Unit) : Option ((List Int × Int × (Int × List Int × List Int) × List Int × List Int × ((Int × Int × Int × (List Int × Int) × Int) × Int) × Unit) ⊕ ((List Int × (Int × List Int × List Int) × ((Int × Int × Int × (List Int × Int) × Int) × Int) × Unit) ⊕ (List Int × Bool × (Int × List Int × List Int) × ((Int × Int × Int × (List Int × Int) × Int) × Int) × Unit))) :=
 bif (decide (p13.2.1 < 6)) then
 bif (within p13.2.1 6) then
 bif (within p13.2.1 6) then
 (bif (p13.2.2.2.2.2.1.2 == 0) then
 (g_coder_Next (p13.2.2.2.2.2.1.1.1, (p13.2.2.2.2.2.1.1.2.1, (p13.2.2.2.2.2.1.1.2.2.1, ((p13.2.2.2.2.2.1.1.2.2.2.1.1, p13.2.2.2.2.2.1.1.2.2.2.1.2), p13.2.2.2.2.2.1.1.2.2.2.2)))) p13.2.2.2.1).bind fun y14 =>
 some (p13.1, p13.2.1, p13.2.1, (!(y14.2.2 == 0)), (p13.2.2.1.1, (p13.2.2.1.2.1, p13.2.2.1.2.2)), p13.2.2.2.1, p13.2.2.2.2.1, y14.2.1, ((y14.1.1, (y14.1.2.1, (y14.1.2.2.1, ((y14.1.2.2.2.1.1, y14.1.2.2.2.1.2), y14.1.2.2.2.2)))), y14.2.2), ())
 else
 some (p13.1, p13.2.1, p13.2.1, (!(p13.2.2.2.2.2.1.2 == 0)), (p13.2.2.1.1, (p13.2.2.1.2.1, p13.2.2.1.2.2)), p13.2.2.2.1, p13.2.2.2.2.1, (IntKind.i64.wrap ((p13.2.2.1.2.1.getD p13.2.1.toNat 0) - (p13.2.2.2.2.1.getD p13.2.1.toNat 0))), ((p13.2.2.2.2.2.1.1.1, (p13.2.2.2.2.2.1.1.2.1, (p13.2.2.2.2.2.1.1.2.2.1, ((p13.2.2.2.2.2.1.1.2.2.2.1.1, p13.2.2.2.2.2.1.1.2.2.2.1.2), p13.2.2.2.2.2.1.1.2.2.2.2)))), p13.2.2.2.2.2.1.2), ()) : Option ((List Int × Int × Int × Bool × (Int × List Int × List Int) × List Int × List Int × Int × ((Int × Int × Int × (List Int × Int) × Int) × Int) × Unit))).bind fun j15 => 
 bif j15.2.2.2.1 then
 some (Sum.inr (Sum.inr (j15.1, false, (j15.2.2.2.2.1.1, (j15.2.2.2.2.1.2.1, j15.2.2.2.2.1.2.2)), ((j15.2.2.2.2.2.2.2.2.1.1.1, (j15.2.2.2.2.2.2.2.2.1.1.2.1, (j15.2.2.2.2.2.2.2.2.1.1.2.2.1, ((j15.2.2.2.2.2.2.2.2.1.1.2.2.2.1.1, j15.2.2.2.2.2.2.2.2.1.1.2.2.2.1.2), j15.2.2.2.2.2.2.2.2.1.1.2.2.2.2)))), j15.2.2.2.2.2.2.2.2.1.2), ())))
 else
 bif (within j15.2.1 6) then
 bif (within j15.2.1 6) then
 some (Sum.inl (j15.1, (IntKind.i64.wrap (j15.2.2.1 + 1)), (j15.2.2.2.2.1.1, ((j15.2.2.2.2.1.2.1.set j15.2.1.toNat (IntKind.i64.wrap (j15.2.2.2.2.2.2.2.1 + (j15.2.2.2.2.2.2.1.getD j15.2.1.toNat 0)))), j15.2.2.2.2.1.2.2)), j15.2.2.2.2.2.1, j15.2.2.2.2.2.2.1, ((j15.2.2.2.2.2.2.2.2.1.1.1, (j15.2.2.2.2.2.2.2.2.1.1.2.1, (j15.2.2.2.2.2.2.2.2.1.1.2.2.1, ((j15.2.2.2.2.2.2.2.2.1.1.2.2.2.1.1, j15.2.2.2.2.2.2.2.2.1.1.2.2.2.1.2), j15.2.2.2.2.2.2.2.2.1.1.2.2.2.2)))), j15.2.2.2.2.2.2.2.2.1.2), ()))
 else none
 else none
 else none
 else none
 else
 some (Sum.inr (Sum.inl (p13.1, (p13.2.2.1.1, (p13.2.2.1.2.1, p13.2.2.1.2.2)), ((p13.2.2.2.2.2.1.1.1, (p13.2.2.2.2.2.1.1.2.1, (p13.2.2.2.2.2.1.1.2.2.1, ((p13.2.2.2.2.2.1.1.2.2.2.1.1, p13.2.2.2.2.2.1.1.2.2.2.1.2), p13.2.2.2.2.2.1.1.2.2.2.2)))), p13.2.2.2.2.2.1.2), ())))
noncomputable def g_frame_Read_r3 (p20 : List Int × Int × (Int × List Int × List Int) × List Int × ((Int × Int × Int × (List Int × Int) × Int) × Int) × Unit) : Option ((List Int × Int × (Int × List Int × List Int) × List Int × ((Int × Int × Int × (List Int × Int) × Int) × Int) × Unit) ⊕ ((List Int × (Int × List Int × List Int) × ((Int × Int × Int × (List Int × Int) × Int) × Int) × Unit) ⊕ (List Int × Bool × (Int × List Int × List Int) × ((Int × Int × Int × (List Int × Int) × Int) × Int) × Unit))) :=
 bif (decide (p20.2.1 < 16)) then
 ((g_bands_Of p20.2.1).bind fun y21 =>
 bif (within y21.1 6) then
 bif ((p20.2.2.2.1.getD y21.1.toNat 0) == 0) then
 some (Sum.inl (p20.1, p20.2.1, (p20.2.2.1.1, (p20.2.2.1.2.1, p20.2.2.1.2.2)), p20.2.2.2.1, ((p20.2.2.2.2.1.1.1, (p20.2.2.2.2.1.1.2.1, (p20.2.2.2.2.1.1.2.2.1, ((p20.2.2.2.2.1.1.2.2.2.1.1, p20.2.2.2.2.1.1.2.2.2.1.2), p20.2.2.2.2.1.1.2.2.2.2)))), p20.2.2.2.2.1.2), ()))
 else
 bif (within y21.1 6) then
 (g_quant_Most (p20.2.2.2.1.getD y21.1.toNat 0)).bind fun y22 =>
 bif (within p20.2.1 16) then
 ((g_frame_smalls y22).bind fun y23 =>
 bif (p20.2.2.2.2.1.2 == 0) then
 (g_coder_Next (p20.2.2.2.2.1.1.1, (p20.2.2.2.2.1.1.2.1, (p20.2.2.2.2.1.1.2.2.1, ((p20.2.2.2.2.1.1.2.2.2.1.1, p20.2.2.2.2.1.1.2.2.2.1.2), p20.2.2.2.2.1.1.2.2.2.2)))) y23).bind fun y24 =>
 some (p20.1, p20.2.1, y22, p20.2.1, (!(y24.2.2 == 0)), (p20.2.2.1.1, (p20.2.2.1.2.1, p20.2.2.1.2.2)), p20.2.2.2.1, y24.2.1, ((y24.1.1, (y24.1.2.1, (y24.1.2.2.1, ((y24.1.2.2.2.1.1, y24.1.2.2.2.1.2), y24.1.2.2.2.2)))), y24.2.2), ())
 else
 some (p20.1, p20.2.1, y22, p20.2.1, (!(p20.2.2.2.2.1.2 == 0)), (p20.2.2.1.1, (p20.2.2.1.2.1, p20.2.2.1.2.2)), p20.2.2.2.1, (IntKind.i64.wrap ((p20.2.2.1.2.2.getD p20.2.1.toNat 0) + y22)), ((p20.2.2.2.2.1.1.1, (p20.2.2.2.2.1.1.2.1, (p20.2.2.2.2.1.1.2.2.1, ((p20.2.2.2.2.1.1.2.2.2.1.1, p20.2.2.2.2.1.1.2.2.2.1.2), p20.2.2.2.2.1.1.2.2.2.2)))), p20.2.2.2.2.1.2), ()) : Option ((List Int × Int × Int × Int × Bool × (Int × List Int × List Int) × List Int × Int × ((Int × Int × Int × (List Int × Int) × Int) × Int) × Unit))).bind fun j25 => 
 bif j25.2.2.2.2.1 then
 some (Sum.inr (j25.1, false, (j25.2.2.2.2.2.1.1, (j25.2.2.2.2.2.1.2.1, j25.2.2.2.2.2.1.2.2)), ((j25.2.2.2.2.2.2.2.2.1.1.1, (j25.2.2.2.2.2.2.2.2.1.1.2.1, (j25.2.2.2.2.2.2.2.2.1.1.2.2.1, ((j25.2.2.2.2.2.2.2.2.1.1.2.2.2.1.1, j25.2.2.2.2.2.2.2.2.1.1.2.2.2.1.2), j25.2.2.2.2.2.2.2.2.1.1.2.2.2.2)))), j25.2.2.2.2.2.2.2.2.1.2), ()))
 else
 bif (within j25.2.1 16) then
 some (Sum.inl (j25.1, j25.2.2.2.1, (j25.2.2.2.2.2.1.1, (j25.2.2.2.2.2.1.2.1, (j25.2.2.2.2.2.1.2.2.set j25.2.1.toNat (IntKind.i64.wrap (j25.2.2.2.2.2.2.2.1 - j25.2.2.1))))), j25.2.2.2.2.2.2.1, ((j25.2.2.2.2.2.2.2.2.1.1.1, (j25.2.2.2.2.2.2.2.2.1.1.2.1, (j25.2.2.2.2.2.2.2.2.1.1.2.2.1, ((j25.2.2.2.2.2.2.2.2.1.1.2.2.2.1.1, j25.2.2.2.2.2.2.2.2.1.1.2.2.2.1.2), j25.2.2.2.2.2.2.2.2.1.1.2.2.2.2)))), j25.2.2.2.2.2.2.2.2.1.2), ()))
 else none
 else none
 else none
 else none : Option ((List Int × Int × (Int × List Int × List Int) × List Int × ((Int × Int × Int × (List Int × Int) × Int) × Int) × Unit) ⊕ (List Int × Bool × (Int × List Int × List Int) × ((Int × Int × Int × (List Int × Int) × Int) × Int) × Unit))).bind fun j26 => 
 (match j26 with
 | .inl j27 =>
 (some (Sum.inl (j27.1, (IntKind.i64.wrap (j27.2.1 + 1)), (j27.2.2.1.1, (j27.2.2.1.2.1, j27.2.2.1.2.2)), j27.2.2.2.1, ((j27.2.2.2.2.1.1.1, (j27.2.2.2.2.1.1.2.1, (j27.2.2.2.2.1.1.2.2.1, ((j27.2.2.2.2.1.1.2.2.2.1.1, j27.2.2.2.2.1.1.2.2.2.1.2), j27.2.2.2.2.1.1.2.2.2.2)))), j27.2.2.2.2.1.2), ())))
 | .inr j28 =>
 (some (Sum.inr (Sum.inr (j28.1, j28.2.1, (j28.2.2.1.1, (j28.2.2.1.2.1, j28.2.2.1.2.2)), ((j28.2.2.2.1.1.1, (j28.2.2.2.1.1.2.1, (j28.2.2.2.1.1.2.2.1, ((j28.2.2.2.1.1.2.2.2.1.1, j28.2.2.2.1.1.2.2.2.1.2), j28.2.2.2.1.1.2.2.2.2)))), j28.2.2.2.1.2), ())))))
 else
 some (Sum.inr (Sum.inl (p20.1, (p20.2.2.1.1, (p20.2.2.1.2.1, p20.2.2.1.2.2)), ((p20.2.2.2.2.1.1.1, (p20.2.2.2.2.1.1.2.1, (p20.2.2.2.2.1.1.2.2.1, ((p20.2.2.2.2.1.1.2.2.2.1.1, p20.2.2.2.2.1.1.2.2.2.1.2), p20.2.2.2.2.1.1.2.2.2.2)))), p20.2.2.2.2.1.2), ())))
noncomputable def g_frame_Read (a0 : List Int) (a1 : List Int) : Option ((Int × List Int × List Int) × Int) :=
 (g_bands_Check a1).bind fun y1 =>
 bif (y1 != 0) then
 some ((0, ((List.replicate 6 0), (List.replicate 16 0))), y1)
 else
 ((bif (decide ((a0.length : Int) > 40)) then
 some (a0, ((0, (0, (0, (([], 0), 0)))), 21), ())
 else
 (g_bits_Of a0).bind fun y2 =>
 (g_coder_Start (y2.1, y2.2)).bind fun y3 =>
 some (a0, ((y3.1.1, (y3.1.2.1, (y3.1.2.2.1, ((y3.1.2.2.2.1.1, y3.1.2.2.2.1.2), y3.1.2.2.2.2)))), y3.2), ()) : Option ((List Int × ((Int × Int × Int × (List Int × Int) × Int) × Int) × Unit))).bind fun j4 => 
 ((g_frame_kinds).bind fun y5 =>
 bif (j4.2.1.2 == 0) then
 (g_coder_Next (j4.2.1.1.1, (j4.2.1.1.2.1, (j4.2.1.1.2.2.1, ((j4.2.1.1.2.2.2.1.1, j4.2.1.1.2.2.2.1.2), j4.2.1.1.2.2.2.2)))) y5).bind fun y6 =>
 some (a1, (!(y6.2.2 == 0)), (y6.2.1, ((List.replicate 6 0), (List.replicate 16 0))), a1, ((y6.1.1, (y6.1.2.1, (y6.1.2.2.1, ((y6.1.2.2.2.1.1, y6.1.2.2.2.1.2), y6.1.2.2.2.2)))), y6.2.2), ())
 else
 some (a1, (!(j4.2.1.2 == 0)), (0, ((List.replicate 6 0), (List.replicate 16 0))), a1, ((j4.2.1.1.1, (j4.2.1.1.2.1, (j4.2.1.1.2.2.1, ((j4.2.1.1.2.2.2.1.1, j4.2.1.1.2.2.2.1.2), j4.2.1.1.2.2.2.2)))), j4.2.1.2), ()) : Option ((List Int × Bool × (Int × List Int × List Int) × List Int × ((Int × Int × Int × (List Int × Int) × Int) × Int) × Unit))).bind fun j7 => 
 bif j7.2.1 then
 some (a0, true, a1, (j7.2.2.1.1, (j7.2.2.1.2.1, j7.2.2.1.2.2)), ())
 else
 (g_frame_levels).bind fun y8 =>
 (bif (j7.2.2.1.1 == 1) then
 (g_frame_changes).bind fun y9 =>
 (iter (g_frame_Read_r1) (j7.1, 0, (j7.2.2.1.1, (j7.2.2.1.2.1, j7.2.2.1.2.2)), y9, j7.2.2.2.1, ((j7.2.2.2.2.1.1.1, (j7.2.2.2.2.1.1.2.1, (j7.2.2.2.2.1.1.2.2.1, ((j7.2.2.2.2.1.1.2.2.2.1.1, j7.2.2.2.2.1.1.2.2.2.1.2), j7.2.2.2.2.1.1.2.2.2.2)))), j7.2.2.2.2.1.2), ())).bind fun j11 => 
 some (j11.1, (j11.2.1.1, (j11.2.1.2.1, j11.2.1.2.2)), j11.2.2.1, j11.2.2.2.1, ((j11.2.2.2.2.1.1.1, (j11.2.2.2.2.1.1.2.1, (j11.2.2.2.2.1.1.2.2.1, ((j11.2.2.2.2.1.1.2.2.2.1.1, j11.2.2.2.2.1.1.2.2.2.1.2), j11.2.2.2.2.1.1.2.2.2.2)))), j11.2.2.2.2.1.2), ())
 else
 some (j7.1, (j7.2.2.1.1, (j7.2.2.1.2.1, j7.2.2.1.2.2)), y8, (List.replicate 6 0), ((j7.2.2.2.2.1.1.1, (j7.2.2.2.2.1.1.2.1, (j7.2.2.2.2.1.1.2.2.1, ((j7.2.2.2.2.1.1.2.2.2.1.1, j7.2.2.2.2.1.1.2.2.2.1.2), j7.2.2.2.2.1.1.2.2.2.2)))), j7.2.2.2.2.1.2), ()) : Option ((List Int × (Int × List Int × List Int) × List Int × List Int × ((Int × Int × Int × (List Int × Int) × Int) × Int) × Unit))).bind fun j12 => 
 (iter (g_frame_Read_r2) (j12.1, 0, (j12.2.1.1, (j12.2.1.2.1, j12.2.1.2.2)), j12.2.2.1, j12.2.2.2.1, ((j12.2.2.2.2.1.1.1, (j12.2.2.2.2.1.1.2.1, (j12.2.2.2.2.1.1.2.2.1, ((j12.2.2.2.2.1.1.2.2.2.1.1, j12.2.2.2.2.1.1.2.2.2.1.2), j12.2.2.2.2.1.1.2.2.2.2)))), j12.2.2.2.2.1.2), ())).bind fun j16 => 
 (match j16 with
 | .inl j17 =>
 (bif (j17.2.1.1 == 2) then
 some (a0, false, a1, (j17.2.1.1, (j17.2.1.2.1, j17.2.1.2.2)), ())
 else
 (g_bands_Share j17.2.1.2.1 120).bind fun y19 =>
 bif (y19.2 != 0) then
 some (a0, true, a1, (j17.2.1.1, (j17.2.1.2.1, j17.2.1.2.2)), ())
 else
 (iter (g_frame_Read_r3) (j17.1, 0, (j17.2.1.1, (j17.2.1.2.1, j17.2.1.2.2)), y19.1, ((j17.2.2.1.1.1, (j17.2.2.1.1.2.1, (j17.2.2.1.1.2.2.1, ((j17.2.2.1.1.2.2.2.1.1, j17.2.2.1.1.2.2.2.1.2), j17.2.2.1.1.2.2.2.2)))), j17.2.2.1.2), ())).bind fun j29 => 
 (match j29 with
 | .inl j30 =>
 (some (a0, false, a1, (j30.2.1.1, (j30.2.1.2.1, j30.2.1.2.2)), ()))
 | .inr j31 =>
 (some (a0, (!j31.2.1), a1, (j31.2.2.1.1, (j31.2.2.1.2.1, j31.2.2.1.2.2)), ()))))
 | .inr j18 =>
 (some (a0, (!j18.2.1), a1, (j18.2.2.1.1, (j18.2.2.1.2.1, j18.2.2.1.2.2)), ()))) : Option ((List Int × Bool × List Int × (Int × List Int × List Int) × Unit))).bind fun j32 => 
 bif j32.2.1 then
 some ((0, ((List.replicate 6 0), (List.replicate 16 0))), 21)
 else
 (g_frame_Write (j32.2.2.2.1.1, (j32.2.2.2.1.2.1, j32.2.2.2.1.2.2)) j32.2.2.1).bind fun y33 =>
 (bif (y33.2 != 0) then
 some (true, (j32.2.2.2.1.1, (j32.2.2.2.1.2.1, j32.2.2.2.1.2.2)), ())
 else
 (g_slices_Equal_Sbyte_byte y33.1 j32.1).bind fun y34 =>
 some ((!y34), (j32.2.2.2.1.1, (j32.2.2.2.1.2.1, j32.2.2.2.1.2.2)), ()) : Option ((Bool × (Int × List Int × List Int) × Unit))).bind fun j35 => 
 bif j35.1 then
 some ((0, ((List.replicate 6 0), (List.replicate 16 0))), 21)
 else
 some ((j35.2.1.1, (j35.2.1.2.1, j35.2.1.2.2)), 0)
noncomputable def g_quant_held (a0 : Int) : Option (Int) :=
 some (if (-67108864) < (if 67108864 < a0 then 67108864 else a0) then (if 67108864 < a0 then 67108864 else a0) else (-67108864))
noncomputable def g_quant_Noise_r1 (p2 : Int × Int × List Int × List Int × Unit) : Option ((Int × Int × List Int × List Int × Unit) ⊕ ((Int × List Int × Unit))) :=
 bif (decide (p2.2.1 < 16)) then
 ((g_bands_Of p2.2.1).bind fun y3 =>
 bif (within y3.1 6) then
 (g_quant_Peak (p2.2.2.1.getD y3.1.toNat 0)).bind fun y4 =>
 bif (within y3.1 6) then
 bif (decide ((p2.2.2.1.getD y3.1.toNat 0) > 0)) then
 (g_fixed_Round (IntKind.i64.wrap ((IntKind.i64.wrap ((IntKind.i64.wrap (shrI .u32 (IntKind.u32.wrap ((IntKind.u32.wrap (p2.1 * 1664525)) + 1013904223)) 16)) - 32768)) * y4.1)) 18).bind fun y5 =>
 (g_quant_held y5).bind fun y6 =>
 bif (within p2.2.1 16) then
 some ((IntKind.u32.wrap ((IntKind.u32.wrap (p2.1 * 1664525)) + 1013904223)), p2.2.1, p2.2.2.1, (p2.2.2.2.1.set p2.2.1.toNat y6), ())
 else none
 else
 some ((IntKind.u32.wrap ((IntKind.u32.wrap (p2.1 * 1664525)) + 1013904223)), p2.2.1, p2.2.2.1, p2.2.2.2.1, ())
 else none
 else none : Option ((Int × Int × List Int × List Int × Unit))).bind fun j7 => 
 some (Sum.inl (j7.1, (IntKind.i64.wrap (j7.2.1 + 1)), j7.2.2.1, j7.2.2.2.1, ()))
 else
 some (Sum.inr (p2.1, p2.2.2.2.1, ()))
noncomputable def g_quant_Noise (a0 : Int) (a1 : List Int) : Option (List Int × Int × Int) :=
 (g_bands_Check a1).bind fun y1 =>
 bif (y1 != 0) then
 some ((List.replicate 16 0), (0, y1))
 else
 (iter (g_quant_Noise_r1) (a0, 0, a1, (List.replicate 16 0), ())).bind fun j8 => 
 some (j8.2.1, (j8.1, 0))
noncomputable def g_lapped_Inverse_r1 (p4 : Int × List (List Int) × Int × List Int × Int × Int × List Int × List Int × (List Int × List (List Int)) × Unit) : Option ((Int × List (List Int) × Int × List Int × Int × Int × List Int × List Int × (List Int × List (List Int)) × Unit) ⊕ ((List (List Int) × Int × List Int × List Int × (List Int × List (List Int)) × Unit))) :=
 bif (decide (p4.2.2.2.2.2.1 < p4.2.2.2.2.1)) then
 bif (within p4.2.2.2.2.2.1 p4.2.2.2.1.length) then
 bif (within p4.2.2.2.2.2.1 32) then
 bif (within p4.1 16) then
 bif (within p4.2.2.2.2.2.1 32) then
 some (Sum.inl (p4.1, p4.2.1, p4.2.2.1, p4.2.2.2.1, p4.2.2.2.2.1, (IntKind.i64.wrap (p4.2.2.2.2.2.1 + 1)), p4.2.2.2.2.2.2.1, (p4.2.2.2.2.2.2.2.1.set p4.2.2.2.2.2.1.toNat (IntKind.i64.wrap ((p4.2.2.2.2.2.2.2.1.getD p4.2.2.2.2.2.1.toNat 0) + (IntKind.i64.wrap ((p4.2.2.2.2.2.2.1.getD p4.1.toNat 0) * (p4.2.2.2.1.getD p4.2.2.2.2.2.1.toNat 0)))))), p4.2.2.2.2.2.2.2.2.1, ()))
 else none
 else none
 else none
 else none
 else
 some (Sum.inr (p4.2.1, p4.2.2.1, p4.2.2.2.2.2.2.1, p4.2.2.2.2.2.2.2.1, p4.2.2.2.2.2.2.2.2.1, ()))
noncomputable def g_lapped_Inverse_r2 (p3 : List (List Int) × Int × List Int × List Int × (List Int × List (List Int)) × Unit) : Option ((List (List Int) × Int × List Int × List Int × (List Int × List (List Int)) × Unit) ⊕ ((List Int × (List Int × List (List Int)) × Unit))) :=
 bif (decide (p3.2.1 < 16)) then
 bif (within p3.2.1 16) then
 (iter (g_lapped_Inverse_r1) (p3.2.1, p3.1, p3.2.1, (p3.1.getD p3.2.1.toNat []), ((p3.1.getD p3.2.1.toNat []).length : Int), 0, p3.2.2.1, p3.2.2.2.1, p3.2.2.2.2.1, ())).bind fun j5 => 
 some (Sum.inl (j5.1, (IntKind.i64.wrap (j5.2.1 + 1)), j5.2.2.1, j5.2.2.2.1, j5.2.2.2.2.1, ()))
 else none
 else
 some (Sum.inr (p3.2.2.2.1, p3.2.2.2.2.1, ()))
noncomputable def g_lapped_Inverse_r3 (p7 : Int × List Int × (List Int × List (List Int)) × Unit) : Option ((Int × List Int × (List Int × List (List Int)) × Unit) ⊕ ((List Int × Unit))) :=
 bif (decide (p7.1 < 32)) then
 bif (within p7.1 32) then
 (g_fixed_Round (p7.2.1.getD p7.1.toNat 0) 20).bind fun y8 =>
 bif (within p7.1 32) then
 (g_fixed_Round (IntKind.i64.wrap (y8 * (p7.2.2.1.1.getD p7.1.toNat 0))) 27).bind fun y9 =>
 bif (within p7.1 32) then
 some (Sum.inl ((IntKind.i64.wrap (p7.1 + 1)), (p7.2.1.set p7.1.toNat y9), p7.2.2.1, ()))
 else none
 else none
 else none
 else
 some (Sum.inr (p7.2.1, ()))
noncomputable def g_lapped_Inverse (a0 : List Int) : Option (List Int × Int) :=
 (g_lapped_bounded ((a0.drop 0).take 16) 67108864).bind fun y1 =>
 bif (!y1) then
 some ((List.replicate 32 0), 1)
 else
 (g_lapped_shaped).bind fun y2 =>
 bif (y2.2 != 0) then
 some ((List.replicate 32 0), y2.2)
 else
 (iter (g_lapped_Inverse_r2) (y2.1.2, 0, a0, (List.replicate 32 0), y2.1, ())).bind fun j6 => 
 (iter (g_lapped_Inverse_r3) (0, j6.1, j6.2.1, ())).bind fun j10 => 
 some (j10.1, 0)
noncomputable def g_quant_Great_r1 (p3 : Int × Int × List Int × List Int × (List (Int × Int)) × Unit) : Option ((Int × Int × List Int × List Int × (List (Int × Int)) × Unit) ⊕ ((Int × List Int × Unit))) :=
 bif (decide (p3.2.1 < 16)) then
 bif (within p3.2.1 16) then
 bif (within p3.2.1 16) then
 (g_quant_held (IntKind.i64.wrap ((p3.2.2.1.getD p3.2.1.toNat 0) * (((p3.2.2.2.2.1.getD p3.2.1.toNat (0, 0))).1)))).bind fun y4 =>
 bif (within p3.2.1 16) then
 some (Sum.inl (p3.1, (IntKind.i64.wrap (p3.2.1 + 1)), p3.2.2.1, (p3.2.2.2.1.set p3.2.1.toNat y4), p3.2.2.2.2.1, ()))
 else none
 else none
 else none
 else
 some (Sum.inr (p3.1, p3.2.2.2.1, ()))
noncomputable def g_quant_Great (a0 : List Int) (a1 : List Int) : Option (List Int × Int) :=
 (g_quant_May a0 a1).bind fun y1 =>
 bif (!y1) then
 some ((List.replicate 16 0), 1)
 else
 (g_quant_scales a1).bind fun y2 =>
 (iter (g_quant_Great_r1) (y2.2.2, 0, a0, (List.replicate 16 0), y2.1, ())).bind fun j5 => 
 some (j5.2.1, j5.1)
noncomputable def g_decoder_Step (a0 : List Int × List Int × Bool × Bool × Int) (a1 : List Int) : Option ((List Int × List Int × Bool × Bool × Int) × List Int × Int) :=
 (g_decoder_Check a0).bind fun y1 =>
 bif (y1 != 0) then
 bif (y1 != 0) then
 some (((List.replicate 16 0), ((List.replicate 6 0), (false, (false, 0)))), ([0, 0, 0, 0, 0, 0, 0, 0, 0, 0, 0, 0, 0, 0, 0, 0], y1))
 else
 some (a0, ((List.replicate 16 0), 0))
 else
 (g_frame_Read a1 a0.2.1).bind fun y2 =>
 ((bif (y2.2 == 0) then
 bif (y2.1.1 == 1) then
 some (y2.2, (!a0.2.2.1), ((List.replicate 16 0), ((List.replicate 6 0), (false, (false, 0)))), (List.replicate 16 0), (a0, ((List.replicate 16 0), y1)), y2.1, ())
 else
 some (y2.2, false, ((List.replicate 16 0), ((List.replicate 6 0), (false, (false, 0)))), (List.replicate 16 0), (a0, ((List.replicate 16 0), y1)), y2.1, ())
 else
 some (y2.2, false, ((List.replicate 16 0), ((List.replicate 6 0), (false, (false, 0)))), (List.replicate 16 0), (a0, ((List.replicate 16 0), y1)), y2.1, ()) : Option ((Int × Bool × (List Int × List Int × Bool × Bool × Int) × List Int × ((List Int × List Int × Bool × Bool × Int) × List Int × Int) × (Int × List Int × List Int) × Unit))).bind fun j3 => 
 bif j3.2.1 then
 some (40, j3.2.2.1, j3.2.2.2.1, j3.2.2.2.2.1, j3.2.2.2.2.2.1, ())
 else
 some (j3.1, j3.2.2.1, j3.2.2.2.1, j3.2.2.2.2.1, j3.2.2.2.2.2.1, ()) : Option ((Int × (List Int × List Int × Bool × Bool × Int) × List Int × ((List Int × List Int × Bool × Bool × Int) × List Int × Int) × (Int × List Int × List Int) × Unit))).bind fun j4 => 
 (bif (j4.2.2.2.1.2.2 == 0) then
 some (j4.1, (j4.2.2.2.1.1, (j4.2.2.2.1.2.1, j4.1)), ())
 else
 some (j4.1, j4.2.2.2.1, ()) : Option ((Int × ((List Int × List Int × Bool × Bool × Int) × List Int × Int) × Unit))).bind fun j5 => 
 bif (j5.2.1.2.2 != 0) then
 bif (j5.2.1.2.2 != 0) then
 some (((List.replicate 16 0), ((List.replicate 6 0), (false, (false, 0)))), ([0, 0, 0, 0, 0, 0, 0, 0, 0, 0, 0, 0, 0, 0, 0, 0], j5.2.1.2.2))
 else
 some (j5.2.1.1, (j5.2.1.2.1, 0))
 else
 (bif (j4.2.2.2.2.1.1 == 2) then
 (g_quant_Noise j5.2.1.1.2.2.2.2 j4.2.2.2.2.1.2.1).bind fun y6 =>
 (bif (j5.2.1.2.2 == 0) then
 some (y6.2.2, ((j5.2.1.1.1, (j4.2.2.2.2.1.2.1, ((j4.2.2.2.2.1.1 != 2), ((j4.2.2.2.2.1.1 == 2), y6.2.1)))), (j5.2.1.2.1, y6.2.2)), ())
 else
 some (y6.2.2, ((j5.2.1.1.1, (j4.2.2.2.2.1.2.1, ((j4.2.2.2.2.1.1 != 2), ((j4.2.2.2.2.1.1 == 2), y6.2.1)))), j5.2.1.2), ()) : Option ((Int × ((List Int × List Int × Bool × Bool × Int) × List Int × Int) × Unit))).bind fun j7 => 
 bif (j7.2.1.2.2 != 0) then
 some (j4.2.1, j4.2.2.1, j7.2.1, ())
 else
 (g_lapped_Inverse y6.1).bind fun y8 =>
 (bif (j7.2.1.2.2 == 0) then
 some (y8.2, (j7.2.1.1, (j7.2.1.2.1, y8.2)), ())
 else
 some (y8.2, j7.2.1, ()) : Option ((Int × ((List Int × List Int × Bool × Bool × Int) × List Int × Int) × Unit))).bind fun j9 => 
 bif (j9.2.1.2.2 != 0) then
 some (j4.2.1, j4.2.2.1, j9.2.1, ())
 else
 (g_lapped_Lap j9.2.1.1.1 y8.1).bind fun y10 =>
 (bif (j9.2.1.2.2 == 0) then
 some (y10.2.2, ((y10.2.1, j9.2.1.1.2), (y10.1, y10.2.2)), ())
 else
 some (y10.2.2, ((y10.2.1, j9.2.1.1.2), (y10.1, j9.2.1.2.2)), ()) : Option ((Int × ((List Int × List Int × Bool × Bool × Int) × List Int × Int) × Unit))).bind fun j11 => 
 some (j4.2.1, j4.2.2.1, j11.2.1, ())
 else
 (g_quant_Great j4.2.2.2.2.1.2.2 j4.2.2.2.2.1.2.1).bind fun y12 =>
 (bif (j5.2.1.2.2 == 0) then
 some (y12.2, ((j5.2.1.1.1, (j4.2.2.2.2.1.2.1, ((j4.2.2.2.2.1.1 != 2), ((j4.2.2.2.2.1.1 == 2), j5.2.1.1.2.2.2.2)))), (j5.2.1.2.1, y12.2)), ())
 else
 some (y12.2, ((j5.2.1.1.1, (j4.2.2.2.2.1.2.1, ((j4.2.2.2.2.1.1 != 2), ((j4.2.2.2.2.1.1 == 2), j5.2.1.1.2.2.2.2)))), j5.2.1.2), ()) : Option ((Int × ((List Int × List Int × Bool × Bool × Int) × List Int × Int) × Unit))).bind fun j13 => 
 bif (j13.2.1.2.2 != 0) then
 some (j4.2.1, j4.2.2.1, j13.2.1, ())
 else
 (g_lapped_Inverse y12.1).bind fun y14 =>
 (bif (j13.2.1.2.2 == 0) then
 some (y14.2, (j13.2.1.1, (j13.2.1.2.1, y14.2)), ())
 else
 some (y14.2, j13.2.1, ()) : Option ((Int × ((List Int × List Int × Bool × Bool × Int) × List Int × Int) × Unit))).bind fun j15 => 
 bif (j15.2.1.2.2 != 0) then
 some (j4.2.1, j4.2.2.1, j15.2.1, ())
 else
 (g_lapped_Lap j15.2.1.1.1 y14.1).bind fun y16 =>
 (bif (j15.2.1.2.2 == 0) then
 some (y16.2.2, ((y16.2.1, j15.2.1.1.2), (y16.1, y16.2.2)), ())
 else
 some (y16.2.2, ((y16.2.1, j15.2.1.1.2), (y16.1, j15.2.1.2.2)), ()) : Option ((Int × ((List Int × List Int × Bool × Bool × Int) × List Int × Int) × Unit))).bind fun j17 => 
 some (j4.2.1, j4.2.2.1, j17.2.1, ()) : Option (((List Int × List Int × Bool × Bool × Int) × List Int × ((List Int × List Int × Bool × Bool × Int) × List Int × Int) × Unit))).bind fun j18 => 
 bif (j18.2.2.1.2.2 != 0) then
 some (((List.replicate 16 0), ((List.replicate 6 0), (false, (false, 0)))), ([0, 0, 0, 0, 0, 0, 0, 0, 0, 0, 0, 0, 0, 0, 0, 0], j18.2.2.1.2.2))
 else
 some (j18.2.2.1.1, (j18.2.2.1.2.1, 0))
noncomputable def g_decoder_Rest (a0 : List Int × List Int × Bool × Bool × Int) : Option ((List Int × List Int × Bool × Bool × Int) × List Int × Int) :=
 (g_decoder_Check a0).bind fun y1 =>
 (bif (y1 != 0) then
 some (((List.replicate 16 0), ((List.replicate 6 0), (false, (false, 0)))), (List.replicate 16 0), (a0, ((List.replicate 16 0), y1)), ())
 else
 bif a0.2.2.2.1 then
 (g_quant_Noise a0.2.2.2.2 a0.2.1).bind fun y2 =>
 (bif (y1 == 0) then
 some (y2.2.2, ((a0.1, (a0.2.1, (a0.2.2.1, (a0.2.2.2.1, y2.2.1)))), ((List.replicate 16 0), y2.2.2)), ())
 else
 some (y2.2.2, ((a0.1, (a0.2.1, (a0.2.2.1, (a0.2.2.2.1, y2.2.1)))), ((List.replicate 16 0), y1)), ()) : Option ((Int × ((List Int × List Int × Bool × Bool × Int) × List Int × Int) × Unit))).bind fun j3 => 
 bif (j3.2.1.2.2 != 0) then
 some (((List.replicate 16 0), ((List.replicate 6 0), (false, (false, 0)))), (List.replicate 16 0), j3.2.1, ())
 else
 (g_lapped_Inverse y2.1).bind fun y4 =>
 (bif (j3.2.1.2.2 == 0) then
 some (y4.2, (j3.2.1.1, (j3.2.1.2.1, y4.2)), ())
 else
 some (y4.2, j3.2.1, ()) : Option ((Int × ((List Int × List Int × Bool × Bool × Int) × List Int × Int) × Unit))).bind fun j5 => 
 bif (j5.2.1.2.2 != 0) then
 some (((List.replicate 16 0), ((List.replicate 6 0), (false, (false, 0)))), (List.replicate 16 0), j5.2.1, ())
 else
 (g_lapped_Lap j5.2.1.1.1 y4.1).bind fun y6 =>
 (bif (j5.2.1.2.2 == 0) then
 some (y6.2.2, ((y6.2.1, j5.2.1.1.2), (y6.1, y6.2.2)), ())
 else
 some (y6.2.2, ((y6.2.1, j5.2.1.1.2), (y6.1, j5.2.1.2.2)), ()) : Option ((Int × ((List Int × List Int × Bool × Bool × Int) × List Int × Int) × Unit))).bind fun j7 => 
 some (((List.replicate 16 0), ((List.replicate 6 0), (false, (false, 0)))), (List.replicate 16 0), j7.2.1, ())
 else
 (bif (y1 == 0) then
 some (0, ((a0.1, (a0.2.1, (false, a0.2.2.2))), ((List.replicate 16 0), 0)), ())
 else
 some (0, ((a0.1, (a0.2.1, (false, a0.2.2.2))), ((List.replicate 16 0), y1)), ()) : Option ((Int × ((List Int × List Int × Bool × Bool × Int) × List Int × Int) × Unit))).bind fun j8 => 
 bif (j8.2.1.2.2 != 0) then
 some (((List.replicate 16 0), ((List.replicate 6 0), (false, (false, 0)))), (List.replicate 16 0), j8.2.1, ())
 else
 (g_lapped_Inverse [0, 0, 0, 0, 0, 0, 0, 0, 0, 0, 0, 0, 0, 0, 0, 0]).bind fun y9 =>
 (bif (j8.2.1.2.2 == 0) then
 some (y9.2, (j8.2.1.1, (j8.2.1.2.1, y9.2)), ())
 else
 some (y9.2, j8.2.1, ()) : Option ((Int × ((List Int × List Int × Bool × Bool × Int) × List Int × Int) × Unit))).bind fun j10 => 
 bif (j10.2.1.2.2 != 0) then
 some (((List.replicate 16 0), ((List.replicate 6 0), (false, (false, 0)))), (List.replicate 16 0), j10.2.1, ())
 else
 (g_lapped_Lap j10.2.1.1.1 y9.1).bind fun y11 =>
 (bif (j10.2.1.2.2 == 0) then
 some (y11.2.2, ((y11.2.1, j10.2.1.1.2), (y11.1, y11.2.2)), ())
 else
 some (y11.2.2, ((y11.2.1, j10.2.1.1.2), (y11.1, j10.2.1.2.2)), ()) : Option ((Int × ((List Int × List Int × Bool × Bool × Int) × List Int × Int) × Unit))).bind fun j12 => 
 some (((List.replicate 16 0), ((List.replicate 6 0), (false, (false, 0)))), (List.replicate 16 0), j12.2.1, ()) : Option (((List Int × List Int × Bool × Bool × Int) × List Int × ((List Int × List Int × Bool × Bool × Int) × List Int × Int) × Unit))).bind fun j13 => 
 bif (j13.2.2.1.2.2 != 0) then
 some (((List.replicate 16 0), ((List.replicate 6 0), (false, (false, 0)))), ([0, 0, 0, 0, 0, 0, 0, 0, 0, 0, 0, 0, 0, 0, 0, 0], j13.2.2.1.2.2))
 else
 some (j13.2.2.1.1, (j13.2.2.1.2.1, 0))
noncomputable def g_frame_Kind (a0 : List Int) : Option (Int × Int) :=
 (bif ((a0.length : Int) == 0) then
 some (true, 0, ())
 else
 (bif (decide ((a0.length : Int) > 40)) then
 some (a0, ((0, (0, (0, (([], 0), 0)))), 21), ())
 else
 (g_bits_Of a0).bind fun y1 =>
 (g_coder_Start (y1.1, y1.2)).bind fun y2 =>
 some (a0, ((y2.1.1, (y2.1.2.1, (y2.1.2.2.1, ((y2.1.2.2.2.1.1, y2.1.2.2.2.1.2), y2.1.2.2.2.2)))), y2.2), ()) : Option ((List Int × ((Int × Int × Int × (List Int × Int) × Int) × Int) × Unit))).bind fun j3 => 
 (g_frame_kinds).bind fun y4 =>
 bif (j3.2.1.2 == 0) then
 (g_coder_Next (j3.2.1.1.1, (j3.2.1.1.2.1, (j3.2.1.1.2.2.1, ((j3.2.1.1.2.2.2.1.1, j3.2.1.1.2.2.2.1.2), j3.2.1.1.2.2.2.2)))) y4).bind fun y5 =>
 some ((!(y5.2.2 == 0)), y5.2.1, ())
 else
 some ((!(j3.2.1.2 == 0)), 0, ()) : Option ((Bool × Int × Unit))).bind fun j6 => 
 bif j6.1 then
 some (0, 21)
 else
 some (j6.2.1, 0)
noncomputable def g_r05_Sqrt_r1 (p1 : Int × Int × Int × Unit) : Option ((Int × Int × Int × Unit) ⊕ ((Int × Unit))) :=
 bif (decide (p1.2.2.1 ≥ 0)) then
 (bif (decide (0 ≤ (IntKind.u64.wrap p1.2.2.1))) then
 bif (decide ((IntKind.u64.wrap ((bitsI .or .u64 p1.2.1 (shlI .u64 1 (IntKind.u64.wrap p1.2.2.1))) * (bitsI .or .u64 p1.2.1 (shlI .u64 1 (IntKind.u64.wrap p1.2.2.1))))) ≤ p1.1)) then
 some (p1.1, (bitsI .or .u64 p1.2.1 (shlI .u64 1 (IntKind.u64.wrap p1.2.2.1))), p1.2.2.1, ())
 else
 some (p1.1, p1.2.1, p1.2.2.1, ())
 else none : Option ((Int × Int × Int × Unit))).bind fun j2 => 
 some (Sum.inl (j2.1, j2.2.1, (IntKind.i64.wrap (j2.2.2.1 - 1)), ()))
 else
 some (Sum.inr (p1.2.1, ()))
noncomputable def g_r05_Sqrt (a0 : Int) : Option (Int) :=
 (iter (g_r05_Sqrt_r1) (a0, 0, 31, ())).bind fun j3 => 
 some j3.1
noncomputable def g_r05_Round (a0 : Int) (a1 : Int) : Option (Int) :=
 bif (decide (a1 < 1)) then
 some a0
 else
 bif (decide (a1 > 62)) then
 some 0
 else
 bif (decide (0 ≤ (IntKind.u64.wrap a1))) then
 bif (decide (0 ≤ (IntKind.u64.wrap a1))) then
 (bif (decide (0 ≤ (IntKind.u64.wrap (IntKind.i64.wrap (a1 - 1))))) then
 bif (decide ((IntKind.i64.wrap (a0 - (shlI .i64 (shrI .i64 a0 (IntKind.u64.wrap a1)) (IntKind.u64.wrap a1)))) ≥ (shlI .i64 1 (IntKind.u64.wrap (IntKind.i64.wrap (a1 - 1)))))) then
 some ((IntKind.i64.wrap ((shrI .i64 a0 (IntKind.u64.wrap a1)) + 1)), ())
 else
 some ((shrI .i64 a0 (IntKind.u64.wrap a1)), ())
 else none : Option ((Int × Unit))).bind fun j1 => 
 some j1.1
 else none
 else none
noncomputable def g_r08_Check_r1 (p1 : List Int × Int × Unit) : Option ((List Int × Int × Unit) ⊕ (Unit ⊕ (Int × Unit))) :=
 bif (decide (p1.2.1 < 6)) then
 bif (within p1.2.1 6) then
 (bif (decide ((p1.1.getD p1.2.1.toNat 0) < 0)) then
 some (p1.1, p1.2.1, true, ())
 else
 some (p1.1, p1.2.1, (decide ((p1.1.getD p1.2.1.toNat 0) > 255)), ()) : Option ((List Int × Int × Bool × Unit))).bind fun j2 => 
 bif j2.2.2.1 then
 some (Sum.inr (Sum.inr (1, ())))
 else
 some (Sum.inl (j2.1, (IntKind.i64.wrap (j2.2.1 + 1)), ()))
 else none
 else
 some (Sum.inr (Sum.inl ()))
noncomputable def g_r08_Check (a0 : List Int) : Option (Int) :=
 (iter (g_r08_Check_r1) (a0, 0, ())).bind fun j3 => 
 (match j3 with
 | .inl j4 =>
 (some 0)
 | .inr j5 =>
 (some j5.1))
noncomputable def g_r08_First (a0 : Int) : Option (Int) :=
 bif (within a0 7) then
 some ([0, 1, 2, 4, 6, 10, 16].getD a0.toNat 0)
 else none
noncomputable def g_r08_Mask_r1 (p3 : Int × Int × List Int × Int × List Int × List Int × List Int × Unit) : Option ((Int × Int × List Int × Int × List Int × List Int × List Int × Unit) ⊕ ((Int × List Int × List Int × List Int × Unit))) :=
 bif (decide (p3.2.2.2.1 < 6)) then
 (bif (within p3.2.2.2.1 6) then
 bif (decide ((if (IntKind.i64.wrap (p3.1 - p3.2.2.2.1)) < (IntKind.i64.wrap (p3.2.2.2.1 - p3.1)) then (IntKind.i64.wrap (p3.2.2.2.1 - p3.1)) else (IntKind.i64.wrap (p3.1 - p3.2.2.2.1))) > 0)) then
 bif (within p3.1 6) then
 bif (within p3.1 6) then
 some (p3.1, p3.2.1, p3.2.2.1, p3.2.2.2.1, p3.2.2.2.2.1, p3.2.2.2.2.2.1, (p3.2.2.2.2.2.2.1.set p3.1.toNat (if (p3.2.2.2.2.2.2.1.getD p3.1.toNat 0) < (IntKind.i64.wrap ((IntKind.i64.wrap ((p3.2.2.1.getD p3.2.2.2.1.toNat 0) - (IntKind.i64.wrap (12 * (if (IntKind.i64.wrap (p3.1 - p3.2.2.2.1)) < (IntKind.i64.wrap (p3.2.2.2.1 - p3.1)) then (IntKind.i64.wrap (p3.2.2.2.1 - p3.1)) else (IntKind.i64.wrap (p3.1 - p3.2.2.2.1))))))) - 8)) then (IntKind.i64.wrap ((IntKind.i64.wrap ((p3.2.2.1.getD p3.2.2.2.1.toNat 0) - (IntKind.i64.wrap (12 * (if (IntKind.i64.wrap (p3.1 - p3.2.2.2.1)) < (IntKind.i64.wrap (p3.2.2.2.1 - p3.1)) then (IntKind.i64.wrap (p3.2.2.2.1 - p3.1)) else (IntKind.i64.wrap (p3.1 - p3.2.2.2.1))))))) - 8)) else (p3.2.2.2.2.2.2.1.getD p3.1.toNat 0))), ())
 else none
 else none
 else
 some (p3.1, p3.2.1, p3.2.2.1, p3.2.2.2.1, p3.2.2.2.2.1, p3.2.2.2.2.2.1, p3.2.2.2.2.2.2.1, ())
 else none : Option ((Int × Int × List Int × Int × List Int × List Int × List Int × Unit))).bind fun j4 => 
 some (Sum.inl (j4.1, j4.2.1, j4.2.2.1, (IntKind.i64.wrap (j4.2.2.2.1 + 1)), j4.2.2.2.2.1, j4.2.2.2.2.2.1, j4.2.2.2.2.2.2.1, ()))
 else
 some (Sum.inr (p3.2.1, p3.2.2.2.2.1, p3.2.2.2.2.2.1, p3.2.2.2.2.2.2.1, ()))
noncomputable def g_r08_Mask_r2 (p2 : Int × List Int × List Int × List Int × Unit) : Option ((Int × List Int × List Int × List Int × Unit) ⊕ ((List Int × List Int × Unit))) :=
 bif (decide (p2.1 < 6)) then
 (iter (g_r08_Mask_r1) (p2.1, p2.1, p2.2.1, 0, p2.2.1, p2.2.2.1, p2.2.2.2.1, ())).bind fun j5 => 
 some (Sum.inl ((IntKind.i64.wrap (j5.1 + 1)), j5.2.1, j5.2.2.1, j5.2.2.2.1, ()))
 else
 some (Sum.inr (p2.2.2.1, p2.2.2.2.1, ()))
noncomputable def g_r08_Mask (a0 : List Int) : Option (List Int × Int) :=
 (g_r08_Check a0).bind fun y1 =>
 bif (y1 != 0) then
 some ((List.replicate 6 0), 1)
 else
 (iter (g_r08_Mask_r2) (0, a0, (List.replicate 6 0), (List.replicate 6 0), ())).bind fun j6 => 
 some (j6.2.1, 0)
noncomputable def g_r08_Cost_r1 (p1 : Int × List Int × Int × Unit) : Option ((Int × List Int × Int × Unit) ⊕ ((Int × Unit))) :=
 bif (decide (p1.2.2.1 < 6)) then
 bif (within p1.2.2.1 6) then
 (g_r08_First (IntKind.i64.wrap (p1.2.2.1 + 1))).bind fun y2 =>
 (g_r08_First p1.2.2.1).bind fun y3 =>
 some (Sum.inl ((IntKind.i64.wrap (p1.1 + (IntKind.i64.wrap ((p1.2.1.getD p1.2.2.1.toNat 0) * (IntKind.i64.wrap (y2 - y3)))))), p1.2.1, (IntKind.i64.wrap (p1.2.2.1 + 1)), ()))
 else none
 else
 some (Sum.inr (p1.1, ()))
noncomputable def g_r08_Cost (a0 : List Int) : Option (Int) :=
 (iter (g_r08_Cost_r1) (0, a0, 0, ())).bind fun j4 => 
 some j4.1
noncomputable def g_r08_Share_r1 (p3 : Int × Int × List Int × List Int × List Int × List Int × Unit) : Option ((Int × Int × List Int × List Int × List Int × List Int × Unit) ⊕ ((Int × List Int × List Int × Unit))) :=
 bif (decide (p3.2.1 < 6)) then
 (bif (within p3.2.1 6) then
 bif (within p3.2.1 6) then
 bif (decide ((p3.2.2.1.getD p3.2.1.toNat 0) > (p3.2.2.2.2.2.1.getD p3.2.1.toNat 0))) then
 bif (within p3.2.1 6) then
 bif (within p3.2.1 6) then
 bif (within p3.2.1 6) then
 some (p3.1, p3.2.1, p3.2.2.1, p3.2.2.2.1, (p3.2.2.2.2.1.set p3.2.1.toNat (if 7 < (IntKind.i64.wrap ((IntKind.i64.wrap ((IntKind.i64.wrap ((p3.2.2.1.getD p3.2.1.toNat 0) - (p3.2.2.2.2.2.1.getD p3.2.1.toNat 0))) + 7)).tdiv 8)) then 7 else (IntKind.i64.wrap ((IntKind.i64.wrap ((IntKind.i64.wrap ((p3.2.2.1.getD p3.2.1.toNat 0) - (p3.2.2.2.2.2.1.getD p3.2.1.toNat 0))) + 7)).tdiv 8)))), p3.2.2.2.2.2.1, ())
 else none
 else none
 else none
 else
 some (p3.1, p3.2.1, p3.2.2.1, p3.2.2.2.1, p3.2.2.2.2.1, p3.2.2.2.2.2.1, ())
 else none
 else none : Option ((Int × Int × List Int × List Int × List Int × List Int × Unit))).bind fun j4 => 
 some (Sum.inl (j4.1, (IntKind.i64.wrap (j4.2.1 + 1)), j4.2.2.1, j4.2.2.2.1, j4.2.2.2.2.1, j4.2.2.2.2.2.1, ()))
 else
 some (Sum.inr (p3.1, p3.2.2.2.1, p3.2.2.2.2.1, ()))
noncomputable def g_r08_Share_r2 (p8 : Int × Int × List Int × Int × List Int × List Int × Unit) : Option ((Int × Int × List Int × Int × List Int × List Int × Unit) ⊕ ((Int × Int × List Int × List Int × Unit))) :=
 bif (decide (p8.2.2.2.1 < 6)) then
 (bif (within p8.2.2.2.1 6) then
 bif (within p8.2.1 6) then
 bif (decide ((p8.2.2.1.getD p8.2.2.2.1.toNat 0) ≥ (p8.2.2.2.2.2.1.getD p8.2.1.toNat 0))) then
 some (p8.1, p8.2.2.2.1, p8.2.2.1, p8.2.2.2.1, p8.2.2.2.2.1, p8.2.2.2.2.2.1, ())
 else
 some (p8.1, p8.2.1, p8.2.2.1, p8.2.2.2.1, p8.2.2.2.2.1, p8.2.2.2.2.2.1, ())
 else none
 else none : Option ((Int × Int × List Int × Int × List Int × List Int × Unit))).bind fun j9 => 
 some (Sum.inl (j9.1, j9.2.1, j9.2.2.1, (IntKind.i64.wrap (j9.2.2.2.1 + 1)), j9.2.2.2.2.1, j9.2.2.2.2.2.1, ()))
 else
 some (Sum.inr (p8.1, p8.2.1, p8.2.2.2.2.1, p8.2.2.2.2.2.1, ()))
noncomputable def g_r08_Share_r3 (p6 : Int × List Int × List Int × Unit) : Option ((Int × List Int × List Int × Unit) ⊕ ((List Int × List Int × Unit))) :=
 (g_r08_Cost p6.2.2.1).bind fun y7 =>
 bif (decide (y7 > p6.1)) then
 (iter (g_r08_Share_r2) (p6.1, 0, p6.2.2.1, 0, p6.2.1, p6.2.2.1, ())).bind fun j10 => 
 bif (within j10.2.1 6) then
 bif (within j10.2.1 6) then
 some (Sum.inl (j10.1, j10.2.2.1, (j10.2.2.2.1.set j10.2.1.toNat (IntKind.i64.wrap ((j10.2.2.2.1.getD j10.2.1.toNat 0) - 1))), ()))
 else none
 else none
 else
 some (Sum.inr (p6.2.1, p6.2.2.1, ()))
noncomputable def g_r08_Share (a0 : List Int) (a1 : Int) : Option (List Int × Int) :=
 (g_r08_Mask a0).bind fun y1 =>
 (bif (y1.2 != 0) then
 some (a1, true, a0, (List.replicate 6 0), (List.replicate 6 0), y1.1, ())
 else
 some (a1, (decide (a1 < 0)), a0, (List.replicate 6 0), (List.replicate 6 0), y1.1, ()) : Option ((Int × Bool × List Int × List Int × List Int × List Int × Unit))).bind fun j2 => 
 bif j2.2.1 then
 some (j2.2.2.2.2.1, 1)
 else
 (iter (g_r08_Share_r1) (j2.1, 0, j2.2.2.1, j2.2.2.2.1, j2.2.2.2.2.1, j2.2.2.2.2.2.1, ())).bind fun j5 => 
 (iter (g_r08_Share_r3) (j5.1, j5.2.1, j5.2.2.1, ())).bind fun j11 => 
 some (j11.2.1, 0)
noncomputable def g_r04_Begin : Option (Int × Int × Int × List Int × Int) :=
 some (0, (4294967295, (0, ([], 0))))
noncomputable def g_r03_Check_r1 (p2 : Int × Int × List Int × Unit) : Option ((Int × Int × List Int × Unit) ⊕ (Unit ⊕ (Int × Unit))) :=
 bif (decide (p2.2.1 < p2.1)) then
 bif (within p2.2.1 p2.2.2.1.length) then
 bif (within (IntKind.i64.wrap (p2.2.1 - 1)) p2.2.2.1.length) then
 bif (decide ((p2.2.2.1.getD p2.2.1.toNat 0) ≤ (p2.2.2.1.getD ((IntKind.i64.wrap (p2.2.1 - 1)).toNat) 0))) then
 some (Sum.inr (Sum.inr (1, ())))
 else
 some (Sum.inl (p2.1, (IntKind.i64.wrap (p2.2.1 + 1)), p2.2.2.1, ()))
 else none
 else none
 else
 some (Sum.inr (Sum.inl ()))
noncomputable def g_r03_Check (a0 : List Int) : Option (Int) :=
 (bif (decide ((a0.length : Int) < 2)) then
 some ((a0.length : Int), true, a0, ())
 else
 bif (decide ((a0.length : Int) > 257)) then
 some ((a0.length : Int), true, a0, ())
 else
 bif (within 0 a0.length) then
 bif ((a0.getD 0 0) != 0) then
 some ((a0.length : Int), true, a0, ())
 else
 bif (within (IntKind.i64.wrap ((a0.length : Int) - 1)) a0.length) then
 some ((a0.length : Int), (decide ((a0.getD ((IntKind.i64.wrap ((a0.length : Int) - 1)).toNat) 0) > 16384)), a0, ())
 else none
 else none : Option ((Int × Bool × List Int × Unit))).bind fun j1 => 
 bif j1.2.1 then
 some 1
 else
 (iter (g_r03_Check_r1) (j1.1, 1, j1.2.2.1, ())).bind fun j3 => 
 (match j3 with
 | .inl j4 =>
 (some 0)
 | .inr j5 =>
 (some j5.1))
noncomputable def g_r03_Span (a0 : List Int) (a1 : Int) : Option (Int × Int × Int) :=
 ((g_r03_Check a0).bind fun y1 =>
 bif (y1 != 0) then
 some (a1, true, a0, ())
 else
 bif (decide (a1 < 0)) then
 some (a1, true, a0, ())
 else
 some (a1, (decide (a1 ≥ (IntKind.i64.wrap ((a0.length : Int) - 1)))), a0, ()) : Option ((Int × Bool × List Int × Unit))).bind fun j2 => 
 bif j2.2.1 then
 some (0, (0, 1))
 else
 bif (within j2.1 j2.2.2.1.length) then
 bif (within (IntKind.i64.wrap (j2.1 + 1)) j2.2.2.1.length) then
 some ((j2.2.2.1.getD j2.1.toNat 0), ((j2.2.2.1.getD ((IntKind.i64.wrap (j2.1 + 1)).toNat) 0), 0))
 else none
 else none
noncomputable def g_r04_wide (a0 : Int) (a1 : Int) : Option (Bool) :=
 (bif (decide (a0 ≥ a1)) then
 some (a0, a1, true, ())
 else
 some (a0, a1, (decide (a1 ≥ 4294967296)), ()) : Option ((Int × Int × Bool × Unit))).bind fun j1 => 
 bif j1.2.2.1 then
 some false
 else
 bif (decide (j1.2.1 ≥ 2147483648)) then
 bif (decide (j1.1 < 2147483648)) then
 bif (decide (j1.1 ≥ 1073741824)) then
 some (!(decide (j1.2.1 < 3221225472)))
 else
 some true
 else
 some false
 else
 some false
noncomputable def g_r01_bit (a0 : List Int × Int) (a1 : Int) : Option (Int) :=
 bif (within (IntKind.i64.wrap (a1.tdiv 8)) a0.1.length) then
 bif (decide (0 ≤ (IntKind.u64.wrap (IntKind.i64.wrap (7 - (a1.tmod 8)))))) then
 some (bitsI .and .u64 (IntKind.u64.wrap (shrI .u8 (a0.1.getD ((IntKind.i64.wrap (a1.tdiv 8)).toNat) 0) (IntKind.u64.wrap (IntKind.i64.wrap (7 - (a1.tmod 8)))))) 1)
 else none
 else none
noncomputable def g_r01_Check_r1 (p2 : Int × (List Int × Int) × Unit) : Option ((Int × (List Int × Int) × Unit) ⊕ (Unit ⊕ (Int × Unit))) :=
 bif (decide (p2.1 < (IntKind.i64.wrap (8 * (p2.2.1.1.length : Int))))) then
 (g_r01_bit (p2.2.1.1, p2.2.1.2) p2.1).bind fun y3 =>
 bif (y3 != 0) then
 some (Sum.inr (Sum.inr (1, ())))
 else
 some (Sum.inl ((IntKind.i64.wrap (p2.1 + 1)), (p2.2.1.1, p2.2.1.2), ()))
 else
 some (Sum.inr (Sum.inl ()))
noncomputable def g_r01_Check (a0 : List Int × Int) : Option (Int) :=
 (bif (decide (a0.2 < 0)) then
 some (true, (a0.1, a0.2), ())
 else
 bif (decide (a0.2 > 65536)) then
 some (true, (a0.1, a0.2), ())
 else
 some (((a0.1.length : Int) != (IntKind.i64.wrap ((IntKind.i64.wrap (a0.2 + 7)).tdiv 8))), (a0.1, a0.2), ()) : Option ((Bool × (List Int × Int) × Unit))).bind fun j1 => 
 bif j1.1 then
 some 1
 else
 (iter (g_r01_Check_r1) (j1.2.1.2, (j1.2.1.1, j1.2.1.2), ())).bind fun j4 => 
 (match j4 with
 | .inl j5 =>
 (some 0)
 | .inr j6 =>
 (some j6.1))
noncomputable def g_r04_CheckEnc (a0 : Int × Int × Int × List Int × Int) : Option (Bool) :=
 (g_r04_wide (IntKind.u64.wrap a0.1) (IntKind.u64.wrap a0.2.1)).bind fun y1 =>
 bif y1 then
 bif (decide (a0.2.2.1 ≥ 0)) then
 bif (decide (a0.2.2.1 ≤ 65536)) then
 (g_r01_Check (a0.2.2.2.1, a0.2.2.2.2)).bind fun y2 =>
 some (y2 == 0)
 else
 some false
 else
 some false
 else
 some false
noncomputable def g_r03_Total (a0 : List Int) : Option (Int) :=
 (g_r03_Check a0).bind fun y1 =>
 bif (y1 != 0) then
 some 0
 else
 bif (within (IntKind.i64.wrap ((a0.length : Int) - 1)) a0.length) then
 some (a0.getD ((IntKind.i64.wrap ((a0.length : Int) - 1)).toNat) 0)
 else none
noncomputable def g_r04_narrow (a0 : Int) (a1 : Int) (a2 : Int) (a3 : Int) (a4 : Int) : Option (Int × Int) :=
 bif ((IntKind.u64.wrap a4) != 0) then
 bif ((IntKind.u64.wrap a4) != 0) then
 some ((IntKind.u64.wrap (a0 + (IntKind.u64.wrap ((IntKind.u64.wrap ((IntKind.u64.wrap ((IntKind.u64.wrap (a1 - a0)) + 1)) * (IntKind.u64.wrap a2))).tdiv (IntKind.u64.wrap a4))))), (IntKind.u64.wrap ((IntKind.u64.wrap (a0 + (IntKind.u64.wrap ((IntKind.u64.wrap ((IntKind.u64.wrap ((IntKind.u64.wrap (a1 - a0)) + 1)) * (IntKind.u64.wrap a3))).tdiv (IntKind.u64.wrap a4))))) - 1)))
 else none
 else none
noncomputable def g_r01_Copy (a0 : List Int × Int) : Option (List Int × Int) :=
 bif (room 1 a0.1.length) then
 some (a0.1, a0.2)
 else none
noncomputable def g_r01_push (a0 : List Int × Int) (a1 : Int) : Option (List Int × Int) :=
 (bif ((a0.2.tmod 8) == 0) then
 bif (room 1 (a0.1 ++ [0]).length) then
 some (a1, ((a0.1 ++ [0]), a0.2), ([], 0), ())
 else none
 else
 some (a1, (a0.1, a0.2), ([], 0), ()) : Option ((Int × (List Int × Int) × (List Int × Int) × Unit))).bind fun j1 => 
 bif (within (IntKind.i64.wrap (j1.2.1.2.tdiv 8)) j1.2.1.1.length) then
 bif (decide (0 ≤ (IntKind.u64.wrap (IntKind.i64.wrap (7 - (j1.2.1.2.tmod 8)))))) then
 bif (within (IntKind.i64.wrap (j1.2.1.2.tdiv 8)) j1.2.1.1.length) then
 some ((j1.2.1.1.set ((IntKind.i64.wrap (j1.2.1.2.tdiv 8)).toNat) (bitsI .or .u8 (j1.2.1.1.getD ((IntKind.i64.wrap (j1.2.1.2.tdiv 8)).toNat) 0) (IntKind.u8.wrap (shlI .u64 j1.1 (IntKind.u64.wrap (IntKind.i64.wrap (7 - (j1.2.1.2.tmod 8)))))))), (IntKind.i64.wrap (j1.2.1.2 + 1)))
 else none
 else none
 else none
noncomputable def g_r01_Put_r1 (p4 : Int × Int × (List Int × Int) × (List Int × Int) × Unit) : Option ((Int × Int × (List Int × Int) × (List Int × Int) × Unit) ⊕ (((List Int × Int) × (List Int × Int) × Unit))) :=
 bif (decide (p4.2.1 ≥ 0)) then
 bif (decide (0 ≤ (IntKind.u64.wrap p4.2.1))) then
 (g_r01_push (p4.2.2.2.1.1, p4.2.2.2.1.2) (bitsI .and .u64 (shrI .u64 p4.1 (IntKind.u64.wrap p4.2.1)) 1)).bind fun y5 =>
 some (Sum.inl (p4.1, (IntKind.i64.wrap (p4.2.1 - 1)), (p4.2.2.1.1, p4.2.2.1.2), (y5.1, y5.2), ()))
 else none
 else
 some (Sum.inr ((p4.2.2.1.1, p4.2.2.1.2), (p4.2.2.2.1.1, p4.2.2.2.1.2), ()))
noncomputable def g_r01_Put (a0 : List Int × Int) (a1 : Int) (a2 : Int) : Option ((List Int × Int) × Int) :=
 ((g_r01_Check (a0.1, a0.2)).bind fun y1 =>
 bif (y1 != 0) then
 some (a1, a2, true, (a0.1, a0.2), ([], 0), ())
 else
 bif (decide (a2 < 0)) then
 some (a1, a2, true, (a0.1, a0.2), ([], 0), ())
 else
 bif (decide (a2 > 64)) then
 some (a1, a2, true, (a0.1, a0.2), ([], 0), ())
 else
 bif (decide (a2 < 64)) then
 bif (decide (0 ≤ (IntKind.u64.wrap a2))) then
 some (a1, a2, ((shrI .u64 a1 (IntKind.u64.wrap a2)) != 0), (a0.1, a0.2), ([], 0), ())
 else none
 else
 some (a1, a2, false, (a0.1, a0.2), ([], 0), ()) : Option ((Int × Int × Bool × (List Int × Int) × (List Int × Int) × Unit))).bind fun j2 => 
 bif j2.2.2.1 then
 some (([], 0), 1)
 else
 bif (decide ((IntKind.i64.wrap (j2.2.2.2.1.2 + j2.2.1)) > 65536)) then
 some (([], 0), 2)
 else
 (g_r01_Copy (j2.2.2.2.1.1, j2.2.2.2.1.2)).bind fun y3 =>
 (iter (g_r01_Put_r1) (j2.1, (IntKind.i64.wrap (j2.2.1 - 1)), (j2.2.2.2.2.1.1, j2.2.2.2.2.1.2), (y3.1, y3.2), ())).bind fun j6 => 
 some ((j6.2.1.1, j6.2.1.2), 0)
noncomputable def g_r04_out_r1 (p2 : Int × Int × Int × (List Int × Int) × (List Int × Int) × Unit) : Option ((Int × Int × Int × (List Int × Int) × (List Int × Int) × Unit) ⊕ ((Int × (List Int × Int) × (List Int × Int) × Unit))) :=
 (bif (decide (p2.2.1 > 0)) then
 some (p2.1, p2.2.1, p2.2.2.1, (p2.2.2.1 == 0), (p2.2.2.2.1.1, p2.2.2.2.1.2), (p2.2.2.2.2.1.1, p2.2.2.2.2.1.2), ())
 else
 some (p2.1, p2.2.1, p2.2.2.1, false, (p2.2.2.2.1.1, p2.2.2.2.1.2), (p2.2.2.2.2.1.1, p2.2.2.2.2.1.2), ()) : Option ((Int × Int × Int × Bool × (List Int × Int) × (List Int × Int) × Unit))).bind fun j3 => 
 bif j3.2.2.2.1 then
 (g_r01_Put (j3.2.2.2.2.1.1, j3.2.2.2.2.1.2) (IntKind.u64.wrap (1 - j3.1)) 1).bind fun y4 =>
 some (Sum.inl (j3.1, (IntKind.i64.wrap (j3.2.1 - 1)), y4.2, (y4.1.1, y4.1.2), (j3.2.2.2.2.2.1.1, j3.2.2.2.2.2.1.2), ()))
 else
 some (Sum.inr (j3.2.2.1, (j3.2.2.2.2.1.1, j3.2.2.2.2.1.2), (j3.2.2.2.2.2.1.1, j3.2.2.2.2.2.1.2), ()))
noncomputable def g_r04_out (a0 : List Int × Int) (a1 : Int) (a2 : Int) : Option ((List Int × Int) × Int) :=
 (g_r01_Put (a0.1, a0.2) a1 1).bind fun y1 =>
 (iter (g_r04_out_r1) (a1, a2, y1.2, (y1.1.1, y1.1.2), ([], 0), ())).bind fun j5 => 
 some ((j5.2.1.1, j5.2.1.2), j5.1)
noncomputable def g_r04_Put_r1 (p7 : Int × Int × (Int × Int × Int × List Int × Int) × (Int × Int × Int × List Int × Int) × Unit) : Option ((Int × Int × (Int × Int × Int × List Int × Int) × (Int × Int × Int × List Int × Int) × Unit) ⊕ ((Int × (Int × Int × Int × List Int × Int) × Unit))) :=
 (bif (decide (p7.2.1 < 2147483648)) then
 some (Sum.inl (p7.1, p7.2.1, 0, 0, (p7.2.2.1.1, (p7.2.2.1.2.1, (p7.2.2.1.2.2.1, (p7.2.2.1.2.2.2.1, p7.2.2.1.2.2.2.2)))), (p7.2.2.2.1.1, (p7.2.2.2.1.2.1, (p7.2.2.2.1.2.2.1, (p7.2.2.2.1.2.2.2.1, p7.2.2.2.1.2.2.2.2)))), ()))
 else
 bif (decide (p7.1 ≥ 2147483648)) then
 some (Sum.inl (p7.1, p7.2.1, 2147483648, 1, (p7.2.2.1.1, (p7.2.2.1.2.1, (p7.2.2.1.2.2.1, (p7.2.2.1.2.2.2.1, p7.2.2.1.2.2.2.2)))), (p7.2.2.2.1.1, (p7.2.2.2.1.2.1, (p7.2.2.2.1.2.2.1, (p7.2.2.2.1.2.2.2.1, p7.2.2.2.1.2.2.2.2)))), ()))
 else
 (bif (decide (p7.1 ≥ 1073741824)) then
 some (p7.1, p7.2.1, 2, (decide (p7.2.1 < 3221225472)), (p7.2.2.1.1, (p7.2.2.1.2.1, (p7.2.2.1.2.2.1, (p7.2.2.1.2.2.2.1, p7.2.2.1.2.2.2.2)))), (p7.2.2.2.1.1, (p7.2.2.2.1.2.1, (p7.2.2.2.1.2.2.1, (p7.2.2.2.1.2.2.2.1, p7.2.2.2.1.2.2.2.2)))), ())
 else
 some (p7.1, p7.2.1, 2, false, (p7.2.2.1.1, (p7.2.2.1.2.1, (p7.2.2.1.2.2.1, (p7.2.2.1.2.2.2.1, p7.2.2.1.2.2.2.2)))), (p7.2.2.2.1.1, (p7.2.2.2.1.2.1, (p7.2.2.2.1.2.2.1, (p7.2.2.2.1.2.2.2.1, p7.2.2.2.1.2.2.2.2)))), ()) : Option ((Int × Int × Int × Bool × (Int × Int × Int × List Int × Int) × (Int × Int × Int × List Int × Int) × Unit))).bind fun j8 => 
 bif j8.2.2.2.1 then
 some (Sum.inl (j8.1, j8.2.1, 1073741824, j8.2.2.1, (j8.2.2.2.2.1.1, (j8.2.2.2.2.1.2.1, (j8.2.2.2.2.1.2.2.1, (j8.2.2.2.2.1.2.2.2.1, j8.2.2.2.2.1.2.2.2.2)))), (j8.2.2.2.2.2.1.1, (j8.2.2.2.2.2.1.2.1, ((IntKind.i64.wrap (j8.2.2.2.2.2.1.2.2.1 + 1)), (j8.2.2.2.2.2.1.2.2.2.1, j8.2.2.2.2.2.1.2.2.2.2)))), ()))
 else
 bif (decide (j8.2.2.2.2.2.1.2.2.1 > 65536)) then
 some (Sum.inr (2, (0, (0, (0, ([], 0)))), ()))
 else
 some (Sum.inr (0, ((IntKind.u32.wrap j8.1), ((IntKind.u32.wrap j8.2.1), (j8.2.2.2.2.2.1.2.2.1, (j8.2.2.2.2.2.1.2.2.2.1, j8.2.2.2.2.2.1.2.2.2.2)))), ())) : Option ((Int × Int × Int × Int × (Int × Int × Int × List Int × Int) × (Int × Int × Int × List Int × Int) × Unit) ⊕ (Int × (Int × Int × Int × List Int × Int) × Unit))).bind fun j9 => 
 (match j9 with
 | .inl j10 =>
 ((bif (decide (j10.2.2.2.1 < 2)) then
 (g_r04_out (j10.2.2.2.2.2.1.2.2.2.1, j10.2.2.2.2.2.1.2.2.2.2) j10.2.2.2.1 j10.2.2.2.2.2.1.2.2.1).bind fun y12 =>
 bif (y12.2 != 0) then
 some (Sum.inr (y12.2, (0, (0, (0, ([], 0)))), ()))
 else
 some (Sum.inl (j10.1, j10.2.1, j10.2.2.1, (j10.2.2.2.2.1.1, (j10.2.2.2.2.1.2.1, (j10.2.2.2.2.1.2.2.1, (j10.2.2.2.2.1.2.2.2.1, j10.2.2.2.2.1.2.2.2.2)))), (j10.2.2.2.2.2.1.1, (j10.2.2.2.2.2.1.2.1, (0, (y12.1.1, y12.1.2)))), ()))
 else
 some (Sum.inl (j10.1, j10.2.1, j10.2.2.1, (j10.2.2.2.2.1.1, (j10.2.2.2.2.1.2.1, (j10.2.2.2.2.1.2.2.1, (j10.2.2.2.2.1.2.2.2.1, j10.2.2.2.2.1.2.2.2.2)))), (j10.2.2.2.2.2.1.1, (j10.2.2.2.2.2.1.2.1, (j10.2.2.2.2.2.1.2.2.1, (j10.2.2.2.2.2.1.2.2.2.1, j10.2.2.2.2.2.1.2.2.2.2)))), ())) : Option ((Int × Int × Int × (Int × Int × Int × List Int × Int) × (Int × Int × Int × List Int × Int) × Unit) ⊕ (Int × (Int × Int × Int × List Int × Int) × Unit))).bind fun j13 => 
 (match j13 with
 | .inl j14 =>
 (some (Sum.inl ((IntKind.u64.wrap (2 * (IntKind.u64.wrap (j14.1 - j14.2.2.1)))), (IntKind.u64.wrap ((IntKind.u64.wrap (2 * (IntKind.u64.wrap (j14.2.1 - j14.2.2.1)))) + 1)), (j14.2.2.2.1.1, (j14.2.2.2.1.2.1, (j14.2.2.2.1.2.2.1, (j14.2.2.2.1.2.2.2.1, j14.2.2.2.1.2.2.2.2)))), (j14.2.2.2.2.1.1, (j14.2.2.2.2.1.2.1, (j14.2.2.2.2.1.2.2.1, (j14.2.2.2.2.1.2.2.2.1, j14.2.2.2.2.1.2.2.2.2)))), ())))
 | .inr j15 =>
 (some (Sum.inr (j15.1, (j15.2.1.1, (j15.2.1.2.1, (j15.2.1.2.2.1, (j15.2.1.2.2.2.1, j15.2.1.2.2.2.2)))), ())))))
 | .inr j11 =>
 (some (Sum.inr (j11.1, (j11.2.1.1, (j11.2.1.2.1, (j11.2.1.2.2.1, (j11.2.1.2.2.2.1, j11.2.1.2.2.2.2)))), ()))))
noncomputable def g_r04_Put (a0 : Int × Int × Int × List Int × Int) (a1 : List Int) (a2 : Int) : Option ((Int × Int × Int × List Int × Int) × Int) :=
 (g_r03_Span a1 a2).bind fun y1 =>
 ((g_r04_CheckEnc (a0.1, (a0.2.1, (a0.2.2.1, (a0.2.2.2.1, a0.2.2.2.2))))).bind fun y2 =>
 bif (!y2) then
 some (y1.1, y1.2.1, true, (a0.1, (a0.2.1, (a0.2.2.1, (a0.2.2.2.1, a0.2.2.2.2)))), a1, (0, (0, (0, ([], 0)))), ())
 else
 some (y1.1, y1.2.1, (y1.2.2 != 0), (a0.1, (a0.2.1, (a0.2.2.1, (a0.2.2.2.1, a0.2.2.2.2)))), a1, (0, (0, (0, ([], 0)))), ()) : Option ((Int × Int × Bool × (Int × Int × Int × List Int × Int) × List Int × (Int × Int × Int × List Int × Int) × Unit))).bind fun j3 => 
 bif j3.2.2.1 then
 some ((0, (0, (0, ([], 0)))), 1)
 else
 (g_r03_Total j3.2.2.2.2.1).bind fun y4 =>
 (g_r04_narrow (IntKind.u64.wrap j3.2.2.2.1.1) (IntKind.u64.wrap j3.2.2.2.1.2.1) j3.1 j3.2.1 y4).bind fun y5 =>
 (g_r01_Copy (j3.2.2.2.1.2.2.2.1, j3.2.2.2.1.2.2.2.2)).bind fun y6 =>
 (iter (g_r04_Put_r1) (y5.1, y5.2, (j3.2.2.2.2.2.1.1, (j3.2.2.2.2.2.1.2.1, (j3.2.2.2.2.2.1.2.2.1, (j3.2.2.2.2.2.1.2.2.2.1, j3.2.2.2.2.2.1.2.2.2.2)))), (0, (0, (j3.2.2.2.1.2.2.1, (y6.1, y6.2)))), ())).bind fun j16 => 
 some ((j16.2.1.1, (j16.2.1.2.1, (j16.2.1.2.2.1, (j16.2.1.2.2.2.1, j16.2.1.2.2.2.2)))), j16.1)
noncomputable def g_r04_End (a0 : Int × Int × Int × List Int × Int) : Option ((List Int × Int) × Int) :=
 (g_r04_CheckEnc (a0.1, (a0.2.1, (a0.2.2.1, (a0.2.2.2.1, a0.2.2.2.2))))).bind fun y1 =>
 bif (!y1) then
 some (([], 0), 1)
 else
 (bif (decide (a0.1 < 1073741824)) then
 some (0, (a0.1, (a0.2.1, (a0.2.2.1, (a0.2.2.2.1, a0.2.2.2.2)))), ([], 0), ())
 else
 some (1, (a0.1, (a0.2.1, (a0.2.2.1, (a0.2.2.2.1, a0.2.2.2.2)))), ([], 0), ()) : Option ((Int × (Int × Int × Int × List Int × Int) × (List Int × Int) × Unit))).bind fun j2 => 
 (g_r04_out (j2.2.1.2.2.2.1, j2.2.1.2.2.2.2) j2.1 (IntKind.i64.wrap (j2.2.1.2.2.1 + 1))).bind fun y3 =>
 some ((y3.1.1, y3.1.2), y3.2)
noncomputable def g_r04_All_r1 (p2 : List (List Int) × List Int × Int × Int × (List Int × Int) × (Int × Int × Int × List Int × Int) × Unit) : Option ((List (List Int) × List Int × Int × Int × (List Int × Int) × (Int × Int × Int × List Int × Int) × Unit) ⊕ (((List Int × Int) × (Int × Int × Int × List Int × Int) × Unit) ⊕ (Int × (List Int × Int) × Unit))) :=
 bif (decide (p2.2.2.2.1 < p2.2.2.1)) then
 bif (within p2.2.2.2.1 p2.2.1.length) then
 bif (within p2.2.2.2.1 p2.1.length) then
 (g_r04_Put (p2.2.2.2.2.2.1.1, (p2.2.2.2.2.2.1.2.1, (p2.2.2.2.2.2.1.2.2.1, (p2.2.2.2.2.2.1.2.2.2.1, p2.2.2.2.2.2.1.2.2.2.2)))) (p2.1.getD p2.2.2.2.1.toNat []) (p2.2.1.getD p2.2.2.2.1.toNat 0)).bind fun y3 =>
 bif (y3.2 != 0) then
 some (Sum.inr (Sum.inr (y3.2, ([], 0), ())))
 else
 some (Sum.inl (p2.1, p2.2.1, p2.2.2.1, (IntKind.i64.wrap (p2.2.2.2.1 + 1)), (p2.2.2.2.2.1.1, p2.2.2.2.2.1.2), (y3.1.1, (y3.1.2.1, (y3.1.2.2.1, (y3.1.2.2.2.1, y3.1.2.2.2.2)))), ()))
 else none
 else none
 else
 some (Sum.inr (Sum.inl ((p2.2.2.2.2.1.1, p2.2.2.2.2.1.2), (p2.2.2.2.2.2.1.1, (p2.2.2.2.2.2.1.2.1, (p2.2.2.2.2.2.1.2.2.1, (p2.2.2.2.2.2.1.2.2.2.1, p2.2.2.2.2.2.1.2.2.2.2)))), ())))
noncomputable def g_r04_All (a0 : List Int) (a1 : List (List Int)) : Option ((List Int × Int) × Int) :=
 bif ((a0.length : Int) != (a1.length : Int)) then
 some (([], 0), 1)
 else
 (g_r04_Begin).bind fun y1 =>
 (iter (g_r04_All_r1) (a1, a0, (a0.length : Int), 0, ([], 0), (y1.1, (y1.2.1, (y1.2.2.1, (y1.2.2.2.1, y1.2.2.2.2)))), ())).bind fun j4 => 
 (match j4 with
 | .inl j5 =>
 ((g_r04_End (j5.2.1.1, (j5.2.1.2.1, (j5.2.1.2.2.1, (j5.2.1.2.2.2.1, j5.2.1.2.2.2.2))))).bind fun y7 =>
 some ((y7.1.1, y7.1.2), y7.2))
 | .inr j6 =>
 (some ((j6.2.1.1, j6.2.1.2), j6.1)))
noncomputable def g_r01_Get_r1 (p4 : Int × Int × Int × Int × (List Int × Int) × Unit) : Option ((Int × Int × Int × Int × (List Int × Int) × Unit) ⊕ ((Int × Unit))) :=
 bif (decide (p4.2.2.2.1 < p4.2.2.1)) then
 (g_r01_bit (p4.2.2.2.2.1.1, p4.2.2.2.2.1.2) (IntKind.i64.wrap (p4.1 + p4.2.2.2.1))).bind fun y5 =>
 some (Sum.inl (p4.1, (bitsI .or .u64 (shlI .u64 p4.2.1 1) y5), p4.2.2.1, (IntKind.i64.wrap (p4.2.2.2.1 + 1)), (p4.2.2.2.2.1.1, p4.2.2.2.2.1.2), ()))
 else
 some (Sum.inr (p4.2.1, ()))
noncomputable def g_r01_Get (a0 : List Int × Int) (a1 : Int) (a2 : Int) : Option (Int × Int) :=
 ((g_r01_Check (a0.1, a0.2)).bind fun y1 =>
 bif (y1 != 0) then
 some (a1, a2, true, (a0.1, a0.2), ())
 else
 bif (decide (a1 < 0)) then
 some (a1, a2, true, (a0.1, a0.2), ())
 else
 bif (decide (a2 < 0)) then
 some (a1, a2, true, (a0.1, a0.2), ())
 else
 some (a1, a2, (decide (a2 > 64)), (a0.1, a0.2), ()) : Option ((Int × Int × Bool × (List Int × Int) × Unit))).bind fun j2 => 
 bif j2.2.2.1 then
 some (0, 1)
 else
 (bif (decide (j2.1 > j2.2.2.2.1.2)) then
 some (j2.1, j2.2.1, true, (j2.2.2.2.1.1, j2.2.2.2.1.2), ())
 else
 some (j2.1, j2.2.1, (decide (j2.2.1 > (IntKind.i64.wrap (j2.2.2.2.1.2 - j2.1)))), (j2.2.2.2.1.1, j2.2.2.2.1.2), ()) : Option ((Int × Int × Bool × (List Int × Int) × Unit))).bind fun j3 => 
 bif j3.2.2.1 then
 some (0, 20)
 else
 (iter (g_r01_Get_r1) (j3.1, 0, j3.2.1, 0, (j3.2.2.2.1.1, j3.2.2.2.1.2), ())).bind fun j6 => 
 some (j6.1, 0)
noncomputable def g_r04_bitAt (a0 : List Int × Int) (a1 : Int) : Option (Int) :=
 (g_r01_Get (a0.1, a0.2) a1 1).bind fun y1 =>
 bif (y1.2 != 0) then
 some 0
 else
 some y1.1
noncomputable def g_r04_Start_r1 (p2 : Int × Int × (List Int × Int) × (Int × Int × Int × (List Int × Int) × Int) × Unit) : Option ((Int × Int × (List Int × Int) × (Int × Int × Int × (List Int × Int) × Int) × Unit) ⊕ ((Int × (List Int × Int) × (Int × Int × Int × (List Int × Int) × Int) × Unit))) :=
 bif (decide (p2.2.1 < 32)) then
 (g_r04_bitAt (p2.2.2.1.1, p2.2.2.1.2) p2.2.1).bind fun y3 =>
 some (Sum.inl ((IntKind.u64.wrap ((IntKind.u64.wrap (2 * p2.1)) + y3)), (IntKind.i64.wrap (p2.2.1 + 1)), (p2.2.2.1.1, p2.2.2.1.2), (p2.2.2.2.1.1, (p2.2.2.2.1.2.1, (p2.2.2.2.1.2.2.1, ((p2.2.2.2.1.2.2.2.1.1, p2.2.2.2.1.2.2.2.1.2), p2.2.2.2.1.2.2.2.2)))), ()))
 else
 some (Sum.inr (p2.1, (p2.2.2.1.1, p2.2.2.1.2), (p2.2.2.2.1.1, (p2.2.2.2.1.2.1, (p2.2.2.2.1.2.2.1, ((p2.2.2.2.1.2.2.2.1.1, p2.2.2.2.1.2.2.2.1.2), p2.2.2.2.1.2.2.2.2)))), ()))
noncomputable def g_r04_Start (a0 : List Int × Int) : Option ((Int × Int × Int × (List Int × Int) × Int) × Int) :=
 (g_r01_Check (a0.1, a0.2)).bind fun y1 =>
 bif (y1 != 0) then
 some ((0, (0, (0, (([], 0), 0)))), 1)
 else
 (iter (g_r04_Start_r1) (0, 0, (a0.1, a0.2), (0, (0, (0, (([], 0), 0)))), ())).bind fun j4 => 
 (g_r01_Copy (j4.2.1.1, j4.2.1.2)).bind fun y5 =>
 some ((0, (4294967295, ((IntKind.u32.wrap j4.1), ((y5.1, y5.2), 32)))), 0)
noncomputable def g_r04_CheckDec (a0 : Int × Int × Int × (List Int × Int) × Int) : Option (Bool) :=
 (g_r04_wide (IntKind.u64.wrap a0.1) (IntKind.u64.wrap a0.2.1)).bind fun y1 =>
 bif y1 then
 bif (decide (a0.1 ≤ a0.2.2.1)) then
 bif (decide (a0.2.2.1 ≤ a0.2.1)) then
 (g_r01_Check (a0.2.2.2.1.1, a0.2.2.2.1.2)).bind fun y2 =>
 bif (y2 == 0) then
 bif (decide (a0.2.2.2.2 ≥ 32)) then
 some (decide (a0.2.2.2.2 ≤ 65600))
 else
 some false
 else
 some false
 else
 some false
 else
 some false
 else
 some false
noncomputable def g_r03_Find_r1 (p4 : Int × Int × List Int × Unit) : Option ((Int × Int × List Int × Unit) ⊕ ((Int × Unit))) :=
 bif (within (IntKind.i64.wrap (p4.2.1 + 1)) p4.2.2.1.length) then
 bif (decide ((p4.2.2.1.getD ((IntKind.i64.wrap (p4.2.1 + 1)).toNat) 0) ≤ p4.1)) then
 some (Sum.inl (p4.1, (IntKind.i64.wrap (p4.2.1 + 1)), p4.2.2.1, ()))
 else
 some (Sum.inr (p4.2.1, ()))
 else none
noncomputable def g_r03_Find (a0 : List Int) (a1 : Int) : Option (Int × Int) :=
 ((g_r03_Check a0).bind fun y1 =>
 bif (y1 != 0) then
 some (a1, true, a0, ())
 else
 bif (decide (a1 < 0)) then
 some (a1, true, a0, ())
 else
 (g_r03_Total a0).bind fun y2 =>
 some (a1, (decide (a1 ≥ y2)), a0, ()) : Option ((Int × Bool × List Int × Unit))).bind fun j3 => 
 bif j3.2.1 then
 some (0, 1)
 else
 (iter (g_r03_Find_r1) (j3.1, 0, j3.2.2.1, ())).bind fun j5 => 
 some (j5.1, 0)
noncomputable def g_r04_Next_r1 (p8 : Int × Int × Int × Int × Int × (Int × Int × Int × (List Int × Int) × Int) × (Int × Int × Int × (List Int × Int) × Int) × Unit) : Option ((Int × Int × Int × Int × Int × (Int × Int × Int × (List Int × Int) × Int) × (Int × Int × Int × (List Int × Int) × Int) × Unit) ⊕ ((Int × Int × (Int × Int × Int × (List Int × Int) × Int) × Unit))) :=
 (bif (decide (p8.2.1 < 2147483648)) then
 some (Sum.inl (p8.1, p8.2.1, p8.2.2.1, p8.2.2.2.1, p8.2.2.2.2.1, 0, (p8.2.2.2.2.2.1.1, (p8.2.2.2.2.2.1.2.1, (p8.2.2.2.2.2.1.2.2.1, ((p8.2.2.2.2.2.1.2.2.2.1.1, p8.2.2.2.2.2.1.2.2.2.1.2), p8.2.2.2.2.2.1.2.2.2.2)))), (p8.2.2.2.2.2.2.1.1, (p8.2.2.2.2.2.2.1.2.1, (p8.2.2.2.2.2.2.1.2.2.1, ((p8.2.2.2.2.2.2.1.2.2.2.1.1, p8.2.2.2.2.2.2.1.2.2.2.1.2), p8.2.2.2.2.2.2.1.2.2.2.2)))), ()))
 else
 bif (decide (p8.1 ≥ 2147483648)) then
 some (Sum.inl (p8.1, p8.2.1, p8.2.2.1, p8.2.2.2.1, p8.2.2.2.2.1, 2147483648, (p8.2.2.2.2.2.1.1, (p8.2.2.2.2.2.1.2.1, (p8.2.2.2.2.2.1.2.2.1, ((p8.2.2.2.2.2.1.2.2.2.1.1, p8.2.2.2.2.2.1.2.2.2.1.2), p8.2.2.2.2.2.1.2.2.2.2)))), (p8.2.2.2.2.2.2.1.1, (p8.2.2.2.2.2.2.1.2.1, (p8.2.2.2.2.2.2.1.2.2.1, ((p8.2.2.2.2.2.2.1.2.2.2.1.1, p8.2.2.2.2.2.2.1.2.2.2.1.2), p8.2.2.2.2.2.2.1.2.2.2.2)))), ()))
 else
 (bif (decide (p8.1 ≥ 1073741824)) then
 some (p8.1, p8.2.1, p8.2.2.1, p8.2.2.2.1, p8.2.2.2.2.1, (decide (p8.2.1 < 3221225472)), (p8.2.2.2.2.2.1.1, (p8.2.2.2.2.2.1.2.1, (p8.2.2.2.2.2.1.2.2.1, ((p8.2.2.2.2.2.1.2.2.2.1.1, p8.2.2.2.2.2.1.2.2.2.1.2), p8.2.2.2.2.2.1.2.2.2.2)))), (p8.2.2.2.2.2.2.1.1, (p8.2.2.2.2.2.2.1.2.1, (p8.2.2.2.2.2.2.1.2.2.1, ((p8.2.2.2.2.2.2.1.2.2.2.1.1, p8.2.2.2.2.2.2.1.2.2.2.1.2), p8.2.2.2.2.2.2.1.2.2.2.2)))), ())
 else
 some (p8.1, p8.2.1, p8.2.2.1, p8.2.2.2.1, p8.2.2.2.2.1, false, (p8.2.2.2.2.2.1.1, (p8.2.2.2.2.2.1.2.1, (p8.2.2.2.2.2.1.2.2.1, ((p8.2.2.2.2.2.1.2.2.2.1.1, p8.2.2.2.2.2.1.2.2.2.1.2), p8.2.2.2.2.2.1.2.2.2.2)))), (p8.2.2.2.2.2.2.1.1, (p8.2.2.2.2.2.2.1.2.1, (p8.2.2.2.2.2.2.1.2.2.1, ((p8.2.2.2.2.2.2.1.2.2.2.1.1, p8.2.2.2.2.2.2.1.2.2.2.1.2), p8.2.2.2.2.2.2.1.2.2.2.2)))), ()) : Option ((Int × Int × Int × Int × Int × Bool × (Int × Int × Int × (List Int × Int) × Int) × (Int × Int × Int × (List Int × Int) × Int) × Unit))).bind fun j9 => 
 bif j9.2.2.2.2.2.1 then
 some (Sum.inl (j9.1, j9.2.1, j9.2.2.1, j9.2.2.2.1, j9.2.2.2.2.1, 1073741824, (j9.2.2.2.2.2.2.1.1, (j9.2.2.2.2.2.2.1.2.1, (j9.2.2.2.2.2.2.1.2.2.1, ((j9.2.2.2.2.2.2.1.2.2.2.1.1, j9.2.2.2.2.2.2.1.2.2.2.1.2), j9.2.2.2.2.2.2.1.2.2.2.2)))), (j9.2.2.2.2.2.2.2.1.1, (j9.2.2.2.2.2.2.2.1.2.1, (j9.2.2.2.2.2.2.2.1.2.2.1, ((j9.2.2.2.2.2.2.2.1.2.2.2.1.1, j9.2.2.2.2.2.2.2.1.2.2.2.1.2), j9.2.2.2.2.2.2.2.1.2.2.2.2)))), ()))
 else
 (g_r01_Copy (j9.2.2.2.2.2.2.1.2.2.2.1.1, j9.2.2.2.2.2.2.1.2.2.2.1.2)).bind fun y10 =>
 some (Sum.inr (j9.2.2.2.1, 0, ((IntKind.u32.wrap j9.1), ((IntKind.u32.wrap j9.2.1), ((IntKind.u32.wrap j9.2.2.1), ((y10.1, y10.2), j9.2.2.2.2.1)))), ())) : Option ((Int × Int × Int × Int × Int × Int × (Int × Int × Int × (List Int × Int) × Int) × (Int × Int × Int × (List Int × Int) × Int) × Unit) ⊕ (Int × Int × (Int × Int × Int × (List Int × Int) × Int) × Unit))).bind fun j11 => 
 (match j11 with
 | .inl j12 =>
 ((g_r04_bitAt (j12.2.2.2.2.2.2.1.2.2.2.1.1, j12.2.2.2.2.2.2.1.2.2.2.1.2) j12.2.2.2.2.1).bind fun y14 =>
 some (Sum.inl ((IntKind.u64.wrap (2 * (IntKind.u64.wrap (j12.1 - j12.2.2.2.2.2.1)))), (IntKind.u64.wrap ((IntKind.u64.wrap (2 * (IntKind.u64.wrap (j12.2.1 - j12.2.2.2.2.2.1)))) + 1)), (IntKind.u64.wrap ((IntKind.u64.wrap (2 * (IntKind.u64.wrap (j12.2.2.1 - j12.2.2.2.2.2.1)))) + y14)), j12.2.2.2.1, (IntKind.i64.wrap (j12.2.2.2.2.1 + 1)), (j12.2.2.2.2.2.2.1.1, (j12.2.2.2.2.2.2.1.2.1, (j12.2.2.2.2.2.2.1.2.2.1, ((j12.2.2.2.2.2.2.1.2.2.2.1.1, j12.2.2.2.2.2.2.1.2.2.2.1.2), j12.2.2.2.2.2.2.1.2.2.2.2)))), (j12.2.2.2.2.2.2.2.1.1, (j12.2.2.2.2.2.2.2.1.2.1, (j12.2.2.2.2.2.2.2.1.2.2.1, ((j12.2.2.2.2.2.2.2.1.2.2.2.1.1, j12.2.2.2.2.2.2.2.1.2.2.2.1.2), j12.2.2.2.2.2.2.2.1.2.2.2.2)))), ())))
 | .inr j13 =>
 (some (Sum.inr (j13.1, j13.2.1, (j13.2.2.1.1, (j13.2.2.1.2.1, (j13.2.2.1.2.2.1, ((j13.2.2.1.2.2.2.1.1, j13.2.2.1.2.2.2.1.2), j13.2.2.1.2.2.2.2)))), ()))))
noncomputable def g_r04_Next (a0 : Int × Int × Int × (List Int × Int) × Int) (a1 : List Int) : Option ((Int × Int × Int × (List Int × Int) × Int) × Int × Int) :=
 ((g_r04_CheckDec (a0.1, (a0.2.1, (a0.2.2.1, ((a0.2.2.2.1.1, a0.2.2.2.1.2), a0.2.2.2.2))))).bind fun y1 =>
 bif (!y1) then
 some (true, (a0.1, (a0.2.1, (a0.2.2.1, ((a0.2.2.2.1.1, a0.2.2.2.1.2), a0.2.2.2.2)))), a1, (0, (0, (0, (([], 0), 0)))), ())
 else
 (g_r03_Check a1).bind fun y2 =>
 some ((y2 != 0), (a0.1, (a0.2.1, (a0.2.2.1, ((a0.2.2.2.1.1, a0.2.2.2.1.2), a0.2.2.2.2)))), a1, (0, (0, (0, (([], 0), 0)))), ()) : Option ((Bool × (Int × Int × Int × (List Int × Int) × Int) × List Int × (Int × Int × Int × (List Int × Int) × Int) × Unit))).bind fun j3 => 
 bif j3.1 then
 some ((0, (0, (0, (([], 0), 0)))), (0, 1))
 else
 bif (decide (j3.2.1.2.2.2.2 > (IntKind.i64.wrap (j3.2.1.2.2.2.1.2 + 32)))) then
 some ((0, (0, (0, (([], 0), 0)))), (0, 20))
 else
 (g_r03_Total j3.2.2.1).bind fun y4 =>
 bif ((IntKind.u64.wrap ((IntKind.u64.wrap ((IntKind.u64.wrap j3.2.1.2.1) - (IntKind.u64.wrap j3.2.1.1))) + 1)) != 0) then
 (g_r03_Find j3.2.2.1 (IntKind.i64.wrap (IntKind.u64.wrap ((IntKind.u64.wrap ((IntKind.u64.wrap ((IntKind.u64.wrap ((IntKind.u64.wrap ((IntKind.u64.wrap j3.2.1.2.2.1) - (IntKind.u64.wrap j3.2.1.1))) + 1)) * (IntKind.u64.wrap y4))) - 1)).tdiv (IntKind.u64.wrap ((IntKind.u64.wrap ((IntKind.u64.wrap j3.2.1.2.1) - (IntKind.u64.wrap j3.2.1.1))) + 1)))))).bind fun y5 =>
 (g_r03_Span j3.2.2.1 y5.1).bind fun y6 =>
 (g_r04_narrow (IntKind.u64.wrap j3.2.1.1) (IntKind.u64.wrap j3.2.1.2.1) y6.1 y6.2.1 y4).bind fun y7 =>
 (iter (g_r04_Next_r1) (y7.1, y7.2, (IntKind.u64.wrap j3.2.1.2.2.1), y5.1, j3.2.1.2.2.2.2, (j3.2.1.1, (j3.2.1.2.1, (j3.2.1.2.2.1, ((j3.2.1.2.2.2.1.1, j3.2.1.2.2.2.1.2), j3.2.1.2.2.2.2)))), (j3.2.2.2.1.1, (j3.2.2.2.1.2.1, (j3.2.2.2.1.2.2.1, ((j3.2.2.2.1.2.2.2.1.1, j3.2.2.2.1.2.2.2.1.2), j3.2.2.2.1.2.2.2.2)))), ())).bind fun j15 => 
 some ((j15.2.2.1.1, (j15.2.2.1.2.1, (j15.2.2.1.2.2.1, ((j15.2.2.1.2.2.2.1.1, j15.2.2.1.2.2.2.1.2), j15.2.2.1.2.2.2.2)))), (j15.1, j15.2.1))
 else none
noncomputable def g_math_bits_Mul32 (a0 : Int) (a1 : Int) : Option (Int × Int) :=
 some ((IntKind.u32.wrap (shrI .u64 (IntKind.u64.wrap ((IntKind.u64.wrap a0) * (IntKind.u64.wrap a1))) 32)), (IntKind.u32.wrap (IntKind.u64.wrap ((IntKind.u64.wrap a0) * (IntKind.u64.wrap a1)))))
noncomputable def g_decoder_Fade_r1 (p4 : Int × Int × (List Int × List Int × Bool × Bool × Int) × List Int × ((List Int × List Int × Bool × Bool × Int) × List Int × Int) × Unit) : Option ((Int × Int × (List Int × List Int × Bool × Bool × Int) × List Int × ((List Int × List Int × Bool × Bool × Int) × List Int × Int) × Unit) ⊕ (((List Int × List Int × Bool × Bool × Int) × List Int × ((List Int × List Int × Bool × Bool × Int) × List Int × Int) × Unit))) :=
 bif (decide (p4.2.1 < 6)) then
 bif (within p4.2.1 6) then
 bif (within p4.2.1 6) then
 some (Sum.inl (p4.1, (IntKind.i64.wrap (p4.2.1 + 1)), p4.2.2.1, p4.2.2.2.1, ((p4.2.2.2.2.1.1.1, ((p4.2.2.2.2.1.1.2.1.set p4.2.1.toNat (if 0 < (IntKind.i64.wrap ((p4.2.2.2.2.1.1.2.1.getD p4.2.1.toNat 0) - p4.1)) then (IntKind.i64.wrap ((p4.2.2.2.2.1.1.2.1.getD p4.2.1.toNat 0) - p4.1)) else 0)), p4.2.2.2.2.1.1.2.2)), p4.2.2.2.2.1.2), ()))
 else none
 else none
 else
 some (Sum.inr (p4.2.2.1, p4.2.2.2.1, p4.2.2.2.2.1, ()))
noncomputable def g_decoder_Fade (a0 : List Int × List Int × Bool × Bool × Int) (a1 : Int) : Option ((List Int × List Int × Bool × Bool × Int) × List Int × Int) :=
 (g_decoder_Check a0).bind fun y1 =>
 (bif (decide (a1 < 1)) then
 (bif (y1 == 0) then
 some (1, (a0, ((List.replicate 16 0), 1)), ())
 else
 some (1, (a0, ((List.replicate 16 0), y1)), ()) : Option ((Int × ((List Int × List Int × Bool × Bool × Int) × List Int × Int) × Unit))).bind fun j2 => 
 some (a1, ((List.replicate 16 0), ((List.replicate 6 0), (false, (false, 0)))), (List.replicate 16 0), j2.2.1, ())
 else
 some (a1, ((List.replicate 16 0), ((List.replicate 6 0), (false, (false, 0)))), (List.replicate 16 0), (a0, ((List.replicate 16 0), y1)), ()) : Option ((Int × (List Int × List Int × Bool × Bool × Int) × List Int × ((List Int × List Int × Bool × Bool × Int) × List Int × Int) × Unit))).bind fun j3 => 
 bif (j3.2.2.2.1.2.2 != 0) then
 bif (j3.2.2.2.1.2.2 != 0) then
 some (((List.replicate 16 0), ((List.replicate 6 0), (false, (false, 0)))), ([0, 0, 0, 0, 0, 0, 0, 0, 0, 0, 0, 0, 0, 0, 0, 0], j3.2.2.2.1.2.2))
 else
 some (j3.2.2.2.1.1, (j3.2.2.2.1.2.1, 0))
 else
 (iter (g_decoder_Fade_r1) ((if 255 < j3.1 then 255 else j3.1), 0, j3.2.1, j3.2.2.1, j3.2.2.2.1, ())).bind fun j5 => 
 ((g_quant_Noise j5.2.2.1.1.2.2.2.2 j5.2.2.1.1.2.1).bind fun y6 =>
 (bif (j5.2.2.1.2.2 == 0) then
 some (y6.2.2, ((j5.2.2.1.1.1, (j5.2.2.1.1.2.1, (false, (j5.2.2.1.1.2.2.2.1, y6.2.1)))), (j5.2.2.1.2.1, y6.2.2)), ())
 else
 some (y6.2.2, ((j5.2.2.1.1.1, (j5.2.2.1.1.2.1, (false, (j5.2.2.1.1.2.2.2.1, y6.2.1)))), j5.2.2.1.2), ()) : Option ((Int × ((List Int × List Int × Bool × Bool × Int) × List Int × Int) × Unit))).bind fun j7 => 
 bif (j7.2.1.2.2 != 0) then
 some (j5.1, j5.2.1, j7.2.1, ())
 else
 (g_lapped_Inverse y6.1).bind fun y8 =>
 (bif (j7.2.1.2.2 == 0) then
 some (y8.2, (j7.2.1.1, (j7.2.1.2.1, y8.2)), ())
 else
 some (y8.2, j7.2.1, ()) : Option ((Int × ((List Int × List Int × Bool × Bool × Int) × List Int × Int) × Unit))).bind fun j9 => 
 bif (j9.2.1.2.2 != 0) then
 some (j5.1, j5.2.1, j9.2.1, ())
 else
 (g_lapped_Lap j9.2.1.1.1 y8.1).bind fun y10 =>
 (bif (j9.2.1.2.2 == 0) then
 some (y10.2.2, ((y10.2.1, j9.2.1.1.2), (y10.1, y10.2.2)), ())
 else
 some (y10.2.2, ((y10.2.1, j9.2.1.1.2), (y10.1, j9.2.1.2.2)), ()) : Option ((Int × ((List Int × List Int × Bool × Bool × Int) × List Int × Int) × Unit))).bind fun j11 => 
 some (j5.1, j5.2.1, j11.2.1, ()) : Option (((List Int × List Int × Bool × Bool × Int) × List Int × ((List Int × List Int × Bool × Bool × Int) × List Int × Int) × Unit))).bind fun j12 => 
 bif (j12.2.2.1.2.2 != 0) then
 some (((List.replicate 16 0), ((List.replicate 6 0), (false, (false, 0)))), ([0, 0, 0, 0, 0, 0, 0, 0, 0, 0, 0, 0, 0, 0, 0, 0], j12.2.2.1.2.2))
 else
 some (j12.2.2.1.1, (j12.2.2.1.2.1, 0))
end Go.Sq
set_option linter.unusedVariables false
set_option maxRecDepth 100000
namespace Go.Sq
open Go.Rx
noncomputable def g_cmp_Compare_int (a0 : Int) (a1 : Int) : Option (Int) :=
 (g_cmp_isNaN_int a0).bind fun y1 =>
 (g_cmp_isNaN_int a1).bind fun y2 =>
 bif y1 then
 bif y2 then
 some 0
 else
 some (-1)
 else
 bif y2 then
 some 1
 else
 bif (decide (a0 < a1)) then
 some (-1)
 else
 bif (decide (a0 > a1)) then
 some 1
 else
 some 0
end Go.Sq
set_option linter.unusedVariables false
set_option maxRecDepth 100000
namespace Go.Sq
open Go.Rx
noncomputable def g_jitter_New (a0 : Int) : Option ((Bool × Int × Int × Int × List (Int × List Int)) × Int) :=
 (bif (decide (a0 < 1)) then
 some (a0, true, (false, (0, (0, (0, [])))), ())
 else
 some (a0, (decide (a0 > 16)), (false, (0, (0, (0, [])))), ()) : Option ((Int × Bool × (Bool × Int × Int × Int × List (Int × List Int)) × Unit))).bind fun j1 => 
 bif j1.2.1 then
 some ((false, (0, (0, (0, [])))), 1)
 else
 some ((false, (0, (j1.1, (0, [])))), 0)
noncomputable def g_listen_counted_1 (a0 : Int) : Option (Bool) :=
 bif (decide (a0 < 0)) then
 some true
 else
 some (decide (a0 > 1099511627776))
noncomputable def g_listen_counted_r1 (p1 : List Int × Int × Int × Unit) : Option ((List Int × Int × Int × Unit) ⊕ ((List Int × Unit) ⊕ (List Int × Int × Unit))) :=
 bif (decide (p1.2.2.1 < p1.2.1)) then
 bif (within p1.2.2.1 p1.1.length) then
 (g_listen_counted_1 (p1.1.getD p1.2.2.1.toNat 0)).bind fun y2 =>
 bif y2 then
 some (Sum.inr (Sum.inr (p1.1, p1.2.2.1, ())))
 else
 some (Sum.inl (p1.1, p1.2.1, (IntKind.i64.wrap (p1.2.2.1 + 1)), ()))
 else none
 else
 some (Sum.inr (Sum.inl (p1.1, ())))
noncomputable def g_listen_counted (a0 : List Int) : Option (Bool) :=
 ((iter (g_listen_counted_r1) (a0, (a0.length : Int), 0, ())).bind fun j3 => 
 (match j3 with
 | .inl j4 =>
 (some (a0, (decide ((-1) ≥ 0)), ()))
 | .inr j5 =>
 (some (a0, (decide (j5.2.1 ≥ 0)), ()))) : Option ((List Int × Bool × Unit))).bind fun j6 => 
 some (!j6.2.1)
noncomputable def g_listen_Open (a0 : Int) (a1 : Int) (a2 : Int) : Option ((Int × Int × (Bool × Int × Int × Int × List (Int × List Int)) × (List Int × List Int × Bool × Bool × Int) × Bool × Int) × Int) :=
 (g_jitter_New a2).bind fun y1 =>
 (bif (y1.2 != 0) then
 some (a0, a1, true, (0, (0, ((false, (0, (0, (0, [])))), (((List.replicate 16 0), ((List.replicate 6 0), (false, (false, 0)))), (false, 0))))), y1.1, ())
 else
 (g_listen_counted [a0, a1]).bind fun y2 =>
 some (a0, a1, (!y2), (0, (0, ((false, (0, (0, (0, [])))), (((List.replicate 16 0), ((List.replicate 6 0), (false, (false, 0)))), (false, 0))))), y1.1, ()) : Option ((Int × Int × Bool × (Int × Int × (Bool × Int × Int × Int × List (Int × List Int)) × (List Int × List Int × Bool × Bool × Int) × Bool × Int) × (Bool × Int × Int × Int × List (Int × List Int)) × Unit))).bind fun j3 => 
 bif j3.2.2.1 then
 some ((0, (0, ((false, (0, (0, (0, [])))), (((List.replicate 16 0), ((List.replicate 6 0), (false, (false, 0)))), (false, 0))))), 1)
 else
 (g_decoder_Start).bind fun y4 =>
 some ((j3.1, (j3.2.1, (j3.2.2.2.2.1, (y4, (false, 0))))), 0)
noncomputable def g_jitter_good (a0 : Int × List Int) : Option (Bool) :=
 bif (decide (a0.1 ≥ 0)) then
 bif (decide (a0.1 ≤ 1099511627776)) then
 bif (decide ((a0.2.length : Int) > 0)) then
 some (decide ((a0.2.length : Int) ≤ 40))
 else
 some false
 else
 some false
 else
 some false
noncomputable def g_jitter_Check_r1 (p4 : Int × Int × (List (Int × List Int)) × Int × Int × Unit) : Option ((Int × Int × (List (Int × List Int)) × Int × Int × Unit) ⊕ (Unit ⊕ (Int × Unit))) :=
 bif (decide (p4.2.2.2.2.1 < p4.2.2.2.1)) then
 bif (within p4.2.2.2.2.1 p4.2.2.1.length) then
 ((g_jitter_good ((p4.2.2.1.getD p4.2.2.2.2.1.toNat (0, [])))).bind fun y5 =>
 bif (!y5) then
 some (p4.2.1, p4.2.2.1, p4.2.2.2.1, p4.2.2.2.2.1, true, ((p4.2.2.1.getD p4.2.2.2.2.1.toNat (0, []))), ())
 else
 bif (decide (((p4.2.2.1.getD p4.2.2.2.2.1.toNat (0, []))).1 ≤ p4.1)) then
 some (p4.2.1, p4.2.2.1, p4.2.2.2.1, p4.2.2.2.2.1, true, ((p4.2.2.1.getD p4.2.2.2.2.1.toNat (0, []))), ())
 else
 some (p4.2.1, p4.2.2.1, p4.2.2.2.1, p4.2.2.2.2.1, (decide ((IntKind.i64.wrap ((((p4.2.2.1.getD p4.2.2.2.2.1.toNat (0, []))).1) - p4.2.1)) ≥ 64)), ((p4.2.2.1.getD p4.2.2.2.2.1.toNat (0, []))), ()) : Option ((Int × (List (Int × List Int)) × Int × Int × Bool × (Int × List Int) × Unit))).bind fun j6 => 
 bif j6.2.2.2.2.1 then
 some (Sum.inr (Sum.inr (1, ())))
 else
 some (Sum.inl (j6.2.2.2.2.2.1.1, j6.1, j6.2.1, j6.2.2.1, (IntKind.i64.wrap (j6.2.2.2.1 + 1)), ()))
 else none
 else
 some (Sum.inr (Sum.inl ()))
noncomputable def g_jitter_Check (a0 : Bool × Int × Int × Int × List (Int × List Int)) : Option (Int) :=
 (bif (decide (a0.2.2.1 ≥ 1)) then
 bif (decide (a0.2.2.1 ≤ 16)) then
 bif (decide (a0.2.1 ≥ 0)) then
 bif (decide (a0.2.1 ≤ 2199023255552)) then
 bif (decide (a0.2.2.2.1 ≥ 0)) then
 some ((decide (a0.2.2.2.1 < 12)), a0, ())
 else
 some (false, a0, ())
 else
 some (false, a0, ())
 else
 some (false, a0, ())
 else
 some (false, a0, ())
 else
 some (false, a0, ()) : Option ((Bool × (Bool × Int × Int × Int × List (Int × List Int)) × Unit))).bind fun j1 => 
 (bif (!j1.1) then
 some (true, j1.2.1, ())
 else
 bif (!j1.2.1.1) then
 some ((decide ((IntKind.i64.wrap (j1.2.1.2.1 + j1.2.1.2.2.2.1)) > 0)), j1.2.1, ())
 else
 some (false, j1.2.1, ()) : Option ((Bool × (Bool × Int × Int × Int × List (Int × List Int)) × Unit))).bind fun j2 => 
 bif j2.1 then
 some 1
 else
 bif ((j2.2.1.2.2.2.2.length : Int) == 0) then
 some 0
 else
 bif (within 0 j2.2.1.2.2.2.2.length) then
 (bif j2.2.1.1 then
 some ((IntKind.i64.wrap (j2.2.1.2.1 - 1)), j2.2.1.2.1, j2.2.1, ())
 else
 some ((-1), ((j2.2.1.2.2.2.2.getD 0 (0, []))).1, j2.2.1, ()) : Option ((Int × Int × (Bool × Int × Int × Int × List (Int × List Int)) × Unit))).bind fun j3 => 
 (iter (g_jitter_Check_r1) (j3.1, j3.2.1, j3.2.2.1.2.2.2.2, (j3.2.2.1.2.2.2.2.length : Int), 0, ())).bind fun j7 => 
 (match j7 with
 | .inl j8 =>
 (some 0)
 | .inr j9 =>
 (some j9.1))
 else none
noncomputable def g_listen_Check (a0 : Int × Int × (Bool × Int × Int × Int × List (Int × List Int)) × (List Int × List Int × Bool × Bool × Int) × Bool × Int) : Option (Int) :=
 ((g_listen_counted [a0.1, a0.2.1, a0.2.2.2.2.2]).bind fun y1 =>
 bif (!y1) then
 some (true, ())
 else
 (g_decoder_Check a0.2.2.2.1).bind fun y2 =>
 bif (y2 != 0) then
 some (true, ())
 else
 (g_jitter_Check a0.2.2.1).bind fun y3 =>
 some ((y3 != 0), ()) : Option ((Bool × Unit))).bind fun j4 => 
 bif j4.1 then
 some 1
 else
 some 0
noncomputable def g_slices_Clone_Sapi_Packet_api_Packet (a0 : List (Int × List Int)) : Option (List (Int × List Int)) :=
 bif room 32 ([] ++ a0).length then some ([] ++ a0) else none
noncomputable def g_jitter_owned_r1 (p2 : Int × Int × (Bool × Int × Int × Int × List (Int × List Int)) × (Bool × Int × Int × Int × List (Int × List Int)) × Unit) : Option ((Int × Int × (Bool × Int × Int × Int × List (Int × List Int)) × (Bool × Int × Int × Int × List (Int × List Int)) × Unit) ⊕ (((Bool × Int × Int × Int × List (Int × List Int)) × (Bool × Int × Int × Int × List (Int × List Int)) × Unit))) :=
 bif (decide (p2.2.1 < p2.1)) then
 bif (within p2.2.1 p2.2.2.1.2.2.2.2.length) then
 (g_slices_Clone_Sbyte_byte (((p2.2.2.1.2.2.2.2.getD p2.2.1.toNat (0, []))).2)).bind fun y3 =>
 bif (within p2.2.1 p2.2.2.1.2.2.2.2.length) then
 some (Sum.inl (p2.1, (IntKind.i64.wrap (p2.2.1 + 1)), (p2.2.2.1.1, (p2.2.2.1.2.1, (p2.2.2.1.2.2.1, (p2.2.2.1.2.2.2.1, (p2.2.2.1.2.2.2.2.set p2.2.1.toNat (((p2.2.2.1.2.2.2.2.getD p2.2.1.toNat (0, []))).1, y3)))))), p2.2.2.2.1, ()))
 else none
 else none
 else
 some (Sum.inr (p2.2.2.1, p2.2.2.2.1, ()))
noncomputable def g_jitter_owned (a0 : Bool × Int × Int × Int × List (Int × List Int)) : Option (Bool × Int × Int × Int × List (Int × List Int)) :=
 (g_slices_Clone_Sapi_Packet_api_Packet a0.2.2.2.2).bind fun y1 =>
 (iter (g_jitter_owned_r1) ((y1.length : Int), 0, (a0.1, (a0.2.1, (a0.2.2.1, (a0.2.2.2.1, y1)))), (false, (0, (0, (0, [])))), ())).bind fun j4 => 
 some j4.1
noncomputable def g_jitter_Pull (a0 : Bool × Int × Int × Int × List (Int × List Int)) : Option ((Bool × Int × Int × Int × List (Int × List Int)) × Int × List Int × Int) :=
 (g_jitter_Check a0).bind fun y1 =>
 bif (y1 != 0) then
 some ((false, (0, (0, (0, [])))), (0, ([], y1)))
 else
 (g_jitter_owned a0).bind fun y2 =>
 (bif (!y2.1) then
 bif (decide ((y2.2.2.2.2.length : Int) < y2.2.2.1)) then
 some (Sum.inr (0, [], 0, y2, ()))
 else
 bif (within 0 y2.2.2.2.2.length) then
 some (Sum.inl ((true, (((y2.2.2.2.2.getD 0 (0, []))).1, y2.2.2)), (false, (0, (0, (0, [])))), ()))
 else none
 else
 some (Sum.inl (y2, (false, (0, (0, (0, [])))), ())) : Option (((Bool × Int × Int × Int × List (Int × List Int)) × (Bool × Int × Int × Int × List (Int × List Int)) × Unit) ⊕ (Int × List Int × Int × (Bool × Int × Int × Int × List (Int × List Int)) × Unit))).bind fun j3 => 
 (match j3 with
 | .inl j4 =>
 ((bif (decide ((j4.1.2.2.2.2.length : Int) > 0)) then
 bif (within 0 j4.1.2.2.2.2.length) then
 some (((((j4.1.2.2.2.2.getD 0 (0, []))).1) == j4.1.2.1), j4.1, j4.2.1, ())
 else none
 else
 some (false, j4.1, j4.2.1, ()) : Option ((Bool × (Bool × Int × Int × Int × List (Int × List Int)) × (Bool × Int × Int × Int × List (Int × List Int)) × Unit))).bind fun j6 => 
 bif j6.1 then
 bif (within 0 j6.2.1.2.2.2.2.length) then
 bif (cutG 1 (j6.2.1.2.2.2.2.length : Int) j6.2.1.2.2.2.2.length) then
 some ((j6.2.1.1, ((IntKind.i64.wrap (j6.2.1.2.1 + 1)), (j6.2.1.2.2.1, (0, ((j6.2.1.2.2.2.2.drop 1).take ((j6.2.1.2.2.2.2.length : Int).toNat - 1)))))), (1, (((j6.2.1.2.2.2.2.getD 0 (0, []))).2, 0)))
 else none
 else none
 else
 bif ((IntKind.i64.wrap (j6.2.1.2.2.2.1 + 1)) == 12) then
 some ((false, (0, (j6.2.1.2.2.1, (0, [])))), (3, ([], 0)))
 else
 some ((j6.2.1.1, ((IntKind.i64.wrap (j6.2.1.2.1 + 1)), (j6.2.1.2.2.1, ((IntKind.i64.wrap (j6.2.1.2.2.2.1 + 1)), j6.2.1.2.2.2.2)))), (2, ([], 0))))
 | .inr j5 =>
 (some (j5.2.2.2.1, (j5.1, (j5.2.1, j5.2.2.1)))))
noncomputable def g_listen_Tick (a0 : Int × Int × (Bool × Int × Int × Int × List (Int × List Int)) × (List Int × List Int × Bool × Bool × Int) × Bool × Int) : Option ((Int × Int × (Bool × Int × Int × Int × List (Int × List Int)) × (List Int × List Int × Bool × Bool × Int) × Bool × Int) × List Int × Int × Int) :=
 (g_listen_Check a0).bind fun y1 =>
 bif (y1 != 0) then
 some ((0, (0, ((false, (0, (0, (0, [])))), (((List.replicate 16 0), ((List.replicate 6 0), (false, (false, 0)))), (false, 0))))), ([0, 0, 0, 0, 0, 0, 0, 0, 0, 0, 0, 0, 0, 0, 0, 0], (0, y1)))
 else
 (g_jitter_Pull a0.2.2.1).bind fun y2 =>
 bif (y2.2.2.2 != 0) then
 some ((0, (0, ((false, (0, (0, (0, [])))), (((List.replicate 16 0), ((List.replicate 6 0), (false, (false, 0)))), (false, 0))))), ([0, 0, 0, 0, 0, 0, 0, 0, 0, 0, 0, 0, 0, 0, 0, 0], (0, y2.2.2.2)))
 else
 (bif (y2.2.1 == 0) then
 some (y2.2.1, y2.2.2.2, (0, (0, ((false, (0, (0, (0, [])))), (((List.replicate 16 0), ((List.replicate 6 0), (false, (false, 0)))), (false, 0))))), (List.replicate 16 0), (a0.1, (a0.2.1, (y2.1, a0.2.2.2))), (List.replicate 16 0), ())
 else
 bif (y2.2.1 == 3) then
 (g_listen_Open a0.1 a0.2.1 a0.2.2.1.2.2.1).bind fun y3 =>
 some (y2.2.1, y3.2, (0, (0, ((false, (0, (0, (0, [])))), (((List.replicate 16 0), ((List.replicate 6 0), (false, (false, 0)))), (false, 0))))), (List.replicate 16 0), y3.1, (List.replicate 16 0), ())
 else
 ((g_frame_Kind y2.2.2.1).bind fun y4 =>
 (bif (y4.2 != 0) then
 some (y2.2.2.1, true, (a0.1, (a0.2.1, (y2.1, a0.2.2.2))), (List.replicate 16 0), ())
 else
 bif (!a0.2.2.2.2.1) then
 some (y2.2.2.1, (y4.1 != 0), (a0.1, (a0.2.1, (y2.1, a0.2.2.2))), (List.replicate 16 0), ())
 else
 some (y2.2.2.1, false, (a0.1, (a0.2.1, (y2.1, a0.2.2.2))), (List.replicate 16 0), ()) : Option ((List Int × Bool × (Int × Int × (Bool × Int × Int × Int × List (Int × List Int)) × (List Int × List Int × Bool × Bool × Int) × Bool × Int) × List Int × Unit))).bind fun j5 => 
 bif j5.2.1 then
 some (y2.2.2.1, false, j5.2.2.1, (List.replicate 16 0), j5.2.2.2.1, ())
 else
 (g_decoder_Step j5.2.2.1.2.2.2.1 j5.1).bind fun y6 =>
 bif (y6.2.2 != 0) then
 some (y2.2.2.1, false, j5.2.2.1, (List.replicate 16 0), [0, 0, 0, 0, 0, 0, 0, 0, 0, 0, 0, 0, 0, 0, 0, 0], ())
 else
 some (y2.2.2.1, true, (j5.2.2.1.1, (j5.2.2.1.2.1, (j5.2.2.1.2.2.1, (y6.1, (true, 0))))), (List.replicate 16 0), y6.2.1, ()) : Option ((List Int × Bool × (Int × Int × (Bool × Int × Int × Int × List (Int × List Int)) × (List Int × List Int × Bool × Bool × Int) × Bool × Int) × List Int × List Int × Unit))).bind fun j7 => 
 bif j7.2.1 then
 some (y2.2.1, y2.2.2.2, (0, (0, ((false, (0, (0, (0, [])))), (((List.replicate 16 0), ((List.replicate 6 0), (false, (false, 0)))), (false, 0))))), (List.replicate 16 0), j7.2.2.1, j7.2.2.2.2.1, ())
 else
 (bif (!j7.2.2.1.2.2.2.2.1) then
 some (j7.1, (j7.2.2.1.1, (j7.2.2.1.2.1, (j7.2.2.1.2.2.1, (j7.2.2.1.2.2.2.1, (j7.2.2.1.2.2.2.2.1, (IntKind.i64.wrap (j7.2.2.1.2.2.2.2.2 + 1))))))), (List.replicate 16 0), ())
 else
 (bif j7.2.2.1.2.2.2.1.2.2.2.1 then
 (g_decoder_Rest j7.2.2.1.2.2.2.1).bind fun y8 =>
 some (y8.2.2, (j7.2.2.1.1, (j7.2.2.1.2.1, (j7.2.2.1.2.2.1, (j7.2.2.1.2.2.2.1, (j7.2.2.1.2.2.2.2.1, (IntKind.i64.wrap (j7.2.2.1.2.2.2.2.2 + 1))))))), y8.2.1, y8.1, ())
 else
 (g_decoder_Fade j7.2.2.1.2.2.2.1 (if 255 < (IntKind.i64.wrap (16 * (IntKind.i64.wrap (j7.2.2.1.2.2.2.2.2 + 1)))) then 255 else (IntKind.i64.wrap (16 * (IntKind.i64.wrap (j7.2.2.1.2.2.2.2.2 + 1)))))).bind fun y9 =>
 some (y9.2.2, (j7.2.2.1.1, (j7.2.2.1.2.1, (j7.2.2.1.2.2.1, (j7.2.2.1.2.2.2.1, (j7.2.2.1.2.2.2.2.1, (IntKind.i64.wrap (j7.2.2.1.2.2.2.2.2 + 1))))))), y9.2.1, y9.1, ()) : Option ((Int × (Int × Int × (Bool × Int × Int × Int × List (Int × List Int)) × (List Int × List Int × Bool × Bool × Int) × Bool × Int) × List Int × (List Int × List Int × Bool × Bool × Int) × Unit))).bind fun j10 => 
 (bif (j10.1 == 0) then
 some ((j10.2.1.1, (j10.2.1.2.1, (j10.2.1.2.2.1, (j10.2.2.2.1, j10.2.1.2.2.2.2)))), j10.2.2.1, ())
 else
 some (j10.2.1, j10.2.2.1, ()) : Option (((Int × Int × (Bool × Int × Int × Int × List (Int × List Int)) × (List Int × List Int × Bool × Bool × Int) × Bool × Int) × List Int × Unit))).bind fun j11 => 
 some (j7.1, j11.1, j11.2.1, ()) : Option ((List Int × (Int × Int × (Bool × Int × Int × Int × List (Int × List Int)) × (List Int × List Int × Bool × Bool × Int) × Bool × Int) × List Int × Unit))).bind fun j12 => 
 some (y2.2.1, y2.2.2.2, (0, (0, ((false, (0, (0, (0, [])))), (((List.replicate 16 0), ((List.replicate 6 0), (false, (false, 0)))), (false, 0))))), (List.replicate 16 0), j12.2.1, j12.2.2.1, ()) : Option ((Int × Int × (Int × Int × (Bool × Int × Int × Int × List (Int × List Int)) × (List Int × List Int × Bool × Bool × Int) × Bool × Int) × List Int × (Int × Int × (Bool × Int × Int × Int × List (Int × List Int)) × (List Int × List Int × Bool × Bool × Int) × Bool × Int) × List Int × Unit))).bind fun j13 => 
 some (j13.2.2.2.2.1, (j13.2.2.2.2.2.1, (j13.1, j13.2.1)))
noncomputable def g_jitter_Put_1 (a0 : Int × List Int) : Option (Bool) :=
 (g_jitter_good a0).bind fun y1 =>
 some (!y1)
noncomputable def g_jitter_find_1 (a0 : Int × List Int) (a1 : Int) : Option (Int) :=
 (g_cmp_Compare_int a0.1 a1).bind fun y1 =>
 some y1
noncomputable def g_jitter_find_r1 (p1 : (List (Int × List Int)) × Int × Int × Int × Int × Unit) : Option (((List (Int × List Int)) × Int × Int × Int × Int × Unit) ⊕ (((List (Int × List Int)) × Int × Int × Int × Unit))) :=
 bif (decide (p1.2.2.2.1 < p1.2.2.2.2.1)) then
 bif (within (IntKind.i64.wrap (shrI .u64 (IntKind.u64.wrap (IntKind.i64.wrap (p1.2.2.2.1 + p1.2.2.2.2.1))) 1)) p1.1.length) then
 (g_jitter_find_1 ((p1.1.getD ((IntKind.i64.wrap (shrI .u64 (IntKind.u64.wrap (IntKind.i64.wrap (p1.2.2.2.1 + p1.2.2.2.2.1))) 1)).toNat) (0, []))) p1.2.1).bind fun y2 =>
 bif (decide (y2 < 0)) then
 some (Sum.inl (p1.1, p1.2.1, p1.2.2.1, (IntKind.i64.wrap ((IntKind.i64.wrap (shrI .u64 (IntKind.u64.wrap (IntKind.i64.wrap (p1.2.2.2.1 + p1.2.2.2.2.1))) 1)) + 1)), p1.2.2.2.2.1, ()))
 else
 some (Sum.inl (p1.1, p1.2.1, p1.2.2.1, p1.2.2.2.1, (IntKind.i64.wrap (shrI .u64 (IntKind.u64.wrap (IntKind.i64.wrap (p1.2.2.2.1 + p1.2.2.2.2.1))) 1)), ()))
 else none
 else
 some (Sum.inr (p1.1, p1.2.1, p1.2.2.1, p1.2.2.2.1, ()))
noncomputable def g_jitter_find (a0 : Bool × Int × Int × Int × List (Int × List Int)) (a1 : Int) : Option (Int × Bool) :=
 (iter (g_jitter_find_r1) (a0.2.2.2.2, a1, (a0.2.2.2.2.length : Int), 0, (a0.2.2.2.2.length : Int), ())).bind fun j3 => 
 (bif (decide (j3.2.2.2.1 < j3.2.2.1)) then
 bif (within j3.2.2.2.1 j3.1.length) then
 (g_jitter_find_1 ((j3.1.getD j3.2.2.2.1.toNat (0, []))) j3.2.1).bind fun y4 =>
 some (j3.1, j3.2.1, j3.2.2.2.1, (y4 == 0), ())
 else none
 else
 some (j3.1, j3.2.1, j3.2.2.2.1, false, ()) : Option (((List (Int × List Int)) × Int × Int × Bool × Unit))).bind fun j5 => 
 some (j5.2.2.1, j5.2.2.2.1)
noncomputable def g_jitter_far (a0 : Bool × Int × Int × Int × List (Int × List Int)) (a1 : Int) : Option (Bool) :=
 (bif a0.1 then
 some (a0.2.1, a1, ())
 else
 bif (decide ((a0.2.2.2.2.length : Int) > 0)) then
 bif (within 0 a0.2.2.2.2.length) then
 bif (within (IntKind.i64.wrap ((a0.2.2.2.2.length : Int) - 1)) a0.2.2.2.2.length) then
 some ((if ((a0.2.2.2.2.getD 0 (0, []))).1 < a1 then ((a0.2.2.2.2.getD 0 (0, []))).1 else a1), (if a1 < ((a0.2.2.2.2.getD ((IntKind.i64.wrap ((a0.2.2.2.2.length : Int) - 1)).toNat) (0, []))).1 then ((a0.2.2.2.2.getD ((IntKind.i64.wrap ((a0.2.2.2.2.length : Int) - 1)).toNat) (0, []))).1 else a1), ())
 else none
 else none
 else
 some (a1, a1, ()) : Option ((Int × Int × Unit))).bind fun j1 => 
 some (decide ((IntKind.i64.wrap (j1.2.1 - j1.1)) ≥ 64))
noncomputable def g_slices_Insert_Sapi_Packet_api_Packet (a0 : List (Int × List Int)) (a1 : Int) (a2 : List (Int × List Int)) : Option (List (Int × List Int)) :=
 insT 32 a0 a1 a2
noncomputable def g_jitter_Put_r1 (p2 : (List (Int × List Int)) × Int × Int × Unit) : Option (((List (Int × List Int)) × Int × Int × Unit) ⊕ (((List (Int × List Int)) × Unit) ⊕ ((List (Int × List Int)) × Int × Unit))) :=
 bif (decide (p2.2.2.1 < p2.2.1)) then
 bif (within p2.2.2.1 p2.1.length) then
 (g_jitter_Put_1 ((p2.1.getD p2.2.2.1.toNat (0, [])))).bind fun y3 =>
 bif y3 then
 some (Sum.inr (Sum.inr (p2.1, p2.2.2.1, ())))
 else
 some (Sum.inl (p2.1, p2.2.1, (IntKind.i64.wrap (p2.2.2.1 + 1)), ()))
 else none
 else
 some (Sum.inr (Sum.inl (p2.1, ())))
noncomputable def g_jitter_Put_r2 (p10 : List Int × (List (Int × List Int)) × Int × Int × (Bool × Int × Int × Int × List (Int × List Int)) × (Bool × Int × Int × Int × List (Int × List Int)) × Unit) : Option ((List Int × (List (Int × List Int)) × Int × Int × (Bool × Int × Int × Int × List (Int × List Int)) × (Bool × Int × Int × Int × List (Int × List Int)) × Unit) ⊕ ((List Int × (Bool × Int × Int × Int × List (Int × List Int)) × (Bool × Int × Int × Int × List (Int × List Int)) × Unit))) :=
 bif (decide (p10.2.2.2.1 < p10.2.2.1)) then
 bif (within p10.2.2.2.1 p10.2.1.length) then
 (g_jitter_find p10.2.2.2.2.1 (((p10.2.1.getD p10.2.2.2.1.toNat (0, []))).1)).bind fun y11 =>
 ((bif p10.2.2.2.2.1.1 then
 some (p10.1, 0, y11.1, y11.2, p10.2.1, p10.2.2.1, p10.2.2.2.1, (decide (((p10.2.1.getD p10.2.2.2.1.toNat (0, []))).1 < p10.2.2.2.2.1.2.1)), p10.2.2.2.2.1, p10.2.2.2.2.2.1, ((p10.2.1.getD p10.2.2.2.1.toNat (0, []))), ())
 else
 some (p10.1, 0, y11.1, y11.2, p10.2.1, p10.2.2.1, p10.2.2.2.1, false, p10.2.2.2.2.1, p10.2.2.2.2.2.1, ((p10.2.1.getD p10.2.2.2.1.toNat (0, []))), ()) : Option ((List Int × Int × Int × Bool × (List (Int × List Int)) × Int × Int × Bool × (Bool × Int × Int × Int × List (Int × List Int)) × (Bool × Int × Int × Int × List (Int × List Int)) × (Int × List Int) × Unit))).bind fun j12 => 
 bif j12.2.2.2.2.2.2.2.1 then
 some (j12.1, 1, j12.2.2.2.2.1, j12.2.2.2.2.2.1, j12.2.2.2.2.2.2.1, j12.2.2.2.2.2.2.2.2.1, j12.2.2.2.2.2.2.2.2.2.1, ())
 else
 bif j12.2.2.2.1 then
 some (j12.1, 2, j12.2.2.2.2.1, j12.2.2.2.2.2.1, j12.2.2.2.2.2.2.1, j12.2.2.2.2.2.2.2.2.1, j12.2.2.2.2.2.2.2.2.2.1, ())
 else
 (g_jitter_far j12.2.2.2.2.2.2.2.2.1 j12.2.2.2.2.2.2.2.2.2.2.1.1).bind fun y13 =>
 bif y13 then
 some (j12.1, 3, j12.2.2.2.2.1, j12.2.2.2.2.2.1, j12.2.2.2.2.2.2.1, j12.2.2.2.2.2.2.2.2.1, j12.2.2.2.2.2.2.2.2.2.1, ())
 else
 (g_slices_Clone_Sbyte_byte j12.2.2.2.2.2.2.2.2.2.2.1.2).bind fun y14 =>
 (g_slices_Insert_Sapi_Packet_api_Packet j12.2.2.2.2.2.2.2.2.1.2.2.2.2 j12.2.2.1 [(j12.2.2.2.2.2.2.2.2.2.2.1.1, y14)]).bind fun y15 =>
 some (j12.1, j12.2.1, j12.2.2.2.2.1, j12.2.2.2.2.2.1, j12.2.2.2.2.2.2.1, (j12.2.2.2.2.2.2.2.2.1.1, (j12.2.2.2.2.2.2.2.2.1.2.1, (j12.2.2.2.2.2.2.2.2.1.2.2.1, (j12.2.2.2.2.2.2.2.2.1.2.2.2.1, y15)))), j12.2.2.2.2.2.2.2.2.2.1, ()) : Option ((List Int × Int × (List (Int × List Int)) × Int × Int × (Bool × Int × Int × Int × List (Int × List Int)) × (Bool × Int × Int × Int × List (Int × List Int)) × Unit))).bind fun j16 => 
 bif (room 8 (j16.1 ++ [j16.2.1]).length) then
 some (Sum.inl ((j16.1 ++ [j16.2.1]), j16.2.2.1, j16.2.2.2.1, (IntKind.i64.wrap (j16.2.2.2.2.1 + 1)), j16.2.2.2.2.2.1, j16.2.2.2.2.2.2.1, ()))
 else none
 else none
 else
 some (Sum.inr (p10.1, p10.2.2.2.2.1, p10.2.2.2.2.2.1, ()))
noncomputable def g_jitter_Put (a0 : Bool × Int × Int × Int × List (Int × List Int)) (a1 : List (Int × List Int)) : Option ((Bool × Int × Int × Int × List (Int × List Int)) × List Int × Int) :=
 ((g_jitter_Check a0).bind fun y1 =>
 bif (y1 != 0) then
 some (a1, true, a0, (false, (0, (0, (0, [])))), ())
 else
 ((iter (g_jitter_Put_r1) (a1, (a1.length : Int), 0, ())).bind fun j4 => 
 (match j4 with
 | .inl j5 =>
 (some (a1, (decide ((-1) ≥ 0)), ()))
 | .inr j6 =>
 (some (a1, (decide (j6.2.1 ≥ 0)), ()))) : Option (((List (Int × List Int)) × Bool × Unit))).bind fun j7 => 
 some (a1, j7.2.1, a0, (false, (0, (0, (0, [])))), ()) : Option (((List (Int × List Int)) × Bool × (Bool × Int × Int × Int × List (Int × List Int)) × (Bool × Int × Int × Int × List (Int × List Int)) × Unit))).bind fun j8 => 
 bif j8.2.1 then
 some ((false, (0, (0, (0, [])))), ([], 1))
 else
 (g_jitter_owned j8.2.2.1).bind fun y9 =>
 (iter (g_jitter_Put_r2) ([], j8.1, (j8.1.length : Int), 0, y9, j8.2.2.2.1, ())).bind fun j17 => 
 some (j17.2.1, (j17.1, 0))
noncomputable def g_listen_Hear (a0 : Int × Int × (Bool × Int × Int × Int × List (Int × List Int)) × (List Int × List Int × Bool × Bool × Int) × Bool × Int) (a1 : Int) (a2 : Int) (a3 : Int × List Int) : Option ((Int × Int × (Bool × Int × Int × Int × List (Int × List Int)) × (List Int × List Int × Bool × Bool × Int) × Bool × Int) × Bool × Int) :=
 (g_listen_Check a0).bind fun y1 =>
 bif (y1 != 0) then
 some ((0, (0, ((false, (0, (0, (0, [])))), (((List.replicate 16 0), ((List.replicate 6 0), (false, (false, 0)))), (false, 0))))), (false, y1))
 else
 (bif (a1 == a0.1) then
 some ([], (a2 == a0.2.1), a0, a3, (0, (0, ((false, (0, (0, (0, [])))), (((List.replicate 16 0), ((List.replicate 6 0), (false, (false, 0)))), (false, 0))))), ())
 else
 some ([], false, a0, a3, (0, (0, ((false, (0, (0, (0, [])))), (((List.replicate 16 0), ((List.replicate 6 0), (false, (false, 0)))), (false, 0))))), ()) : Option (((List (Int × List Int)) × Bool × (Int × Int × (Bool × Int × Int × Int × List (Int × List Int)) × (List Int × List Int × Bool × Bool × Int) × Bool × Int) × (Int × List Int) × (Int × Int × (Bool × Int × Int × Int × List (Int × List Int)) × (List Int × List Int × Bool × Bool × Int) × Bool × Int) × Unit))).bind fun j2 => 
 (bif j2.2.1 then
 bif (room 32 (j2.1 ++ [j2.2.2.2.1]).length) then
 some ((j2.1 ++ [j2.2.2.2.1]), j2.2.1, j2.2.2.1, j2.2.2.2.2.1, ())
 else none
 else
 some (j2.1, j2.2.1, j2.2.2.1, j2.2.2.2.2.1, ()) : Option (((List (Int × List Int)) × Bool × (Int × Int × (Bool × Int × Int × Int × List (Int × List Int)) × (List Int × List Int × Bool × Bool × Int) × Bool × Int) × (Int × Int × (Bool × Int × Int × Int × List (Int × List Int)) × (List Int × List Int × Bool × Bool × Int) × Bool × Int) × Unit))).bind fun j3 => 
 (g_jitter_Put j3.2.2.1.2.2.1 j3.1).bind fun y4 =>
 bif (y4.2.2 != 0) then
 some ((0, (0, ((false, (0, (0, (0, [])))), (((List.replicate 16 0), ((List.replicate 6 0), (false, (false, 0)))), (false, 0))))), (false, y4.2.2))
 else
 bif j3.2.1 then
 bif (within 0 y4.2.1.length) then
 some ((j3.2.2.1.1, (j3.2.2.1.2.1, (y4.1, j3.2.2.1.2.2.2))), (((y4.2.1.getD 0 0) == 0), 0))
 else none
 else
 some ((j3.2.2.1.1, (j3.2.2.1.2.1, (y4.1, j3.2.2.1.2.2.2))), (false, 0))
noncomputable def g_law14_live : Option (Bool) :=
 (g_listen_Open 3 1 1).bind fun y1 =>
 (g_listen_Tick y1.1).bind fun y2 =>
 (g_frame_Write (0, ((List.replicate 6 0), (List.replicate 16 0))) [0, 0, 0, 0, 0, 0]).bind fun y3 =>
 (g_listen_Hear y2.1 3 1 (7, y3.1)).bind fun y4 =>
 (g_listen_Tick y4.1).bind fun y5 =>
 bif (y1.2 == 0) then
 bif (y2.2.1 == [0, 0, 0, 0, 0, 0, 0, 0, 0, 0, 0, 0, 0, 0, 0, 0]) then
 bif (y2.2.2.1 == 0) then
 bif (y2.2.2.2 == 0) then
 bif (y3.2 == 0) then
 bif y4.2.1 then
 bif (y4.2.2 == 0) then
 bif (y5.2.2.1 == 1) then
 bif (y5.2.2.2 == 0) then
 bif y5.1.2.2.2.2.1 then
 some (y5.1.2.2.1.2.1 == 8)
 else
 some false
 else
 some false
 else
 some false
 else
 some false
 else
 some false
 else
 some false
 else
 some false
 else
 some false
 else
 some false
 else
 some false
noncomputable def g_listen_Plain_r1 (p2 : List (List Int) × List (List Int) × Int × Int × (Int × Int × (Bool × Int × Int × Int × List (Int × List Int)) × (List Int × List Int × Bool × Bool × Int) × Bool × Int) × Unit) : Option ((List (List Int) × List (List Int) × Int × Int × (Int × Int × (Bool × Int × Int × Int × List (Int × List Int)) × (List Int × List Int × Bool × Bool × Int) × Bool × Int) × Unit) ⊕ ((List (List Int) × Unit))) :=
 bif (decide (p2.2.2.2.1 < p2.2.2.1)) then
 (bif (within p2.2.2.2.1 p2.2.1.length) then
 ((g_frame_Kind (p2.2.1.getD p2.2.2.2.1.toNat [])).bind fun y3 =>
 (bif (y3.2 != 0) then
 some ((p2.2.1.getD p2.2.2.2.1.toNat []), true, p2.2.2.2.2.1, (List.replicate 16 0), ())
 else
 bif (!p2.2.2.2.2.1.2.2.2.2.1) then
 some ((p2.2.1.getD p2.2.2.2.1.toNat []), (y3.1 != 0), p2.2.2.2.2.1, (List.replicate 16 0), ())
 else
 some ((p2.2.1.getD p2.2.2.2.1.toNat []), false, p2.2.2.2.2.1, (List.replicate 16 0), ()) : Option ((List Int × Bool × (Int × Int × (Bool × Int × Int × Int × List (Int × List Int)) × (List Int × List Int × Bool × Bool × Int) × Bool × Int) × List Int × Unit))).bind fun j4 => 
 bif j4.2.1 then
 some ((p2.2.1.getD p2.2.2.2.1.toNat []), false, j4.2.2.1, (List.replicate 16 0), j4.2.2.2.1, ())
 else
 (g_decoder_Step j4.2.2.1.2.2.2.1 j4.1).bind fun y5 =>
 bif (y5.2.2 != 0) then
 some ((p2.2.1.getD p2.2.2.2.1.toNat []), false, j4.2.2.1, (List.replicate 16 0), [0, 0, 0, 0, 0, 0, 0, 0, 0, 0, 0, 0, 0, 0, 0, 0], ())
 else
 some ((p2.2.1.getD p2.2.2.2.1.toNat []), true, (j4.2.2.1.1, (j4.2.2.1.2.1, (j4.2.2.1.2.2.1, (y5.1, (true, 0))))), (List.replicate 16 0), y5.2.1, ()) : Option ((List Int × Bool × (Int × Int × (Bool × Int × Int × Int × List (Int × List Int)) × (List Int × List Int × Bool × Bool × Int) × Bool × Int) × List Int × List Int × Unit))).bind fun j6 => 
 bif j6.2.1 then
 bif (room 128 (p2.1 ++ [j6.2.2.2.2.1]).length) then
 some ((p2.1 ++ [j6.2.2.2.2.1]), p2.2.1, p2.2.2.1, p2.2.2.2.1, j6.2.2.1, ())
 else none
 else
 (bif (!j6.2.2.1.2.2.2.2.1) then
 some (j6.1, (j6.2.2.1.1, (j6.2.2.1.2.1, (j6.2.2.1.2.2.1, (j6.2.2.1.2.2.2.1, (j6.2.2.1.2.2.2.2.1, (IntKind.i64.wrap (j6.2.2.1.2.2.2.2.2 + 1))))))), (List.replicate 16 0), ())
 else
 (bif j6.2.2.1.2.2.2.1.2.2.2.1 then
 (g_decoder_Rest j6.2.2.1.2.2.2.1).bind fun y7 =>
 some (y7.2.2, (j6.2.2.1.1, (j6.2.2.1.2.1, (j6.2.2.1.2.2.1, (j6.2.2.1.2.2.2.1, (j6.2.2.1.2.2.2.2.1, (IntKind.i64.wrap (j6.2.2.1.2.2.2.2.2 + 1))))))), y7.2.1, y7.1, ())
 else
 (g_decoder_Fade j6.2.2.1.2.2.2.1 (if 255 < (IntKind.i64.wrap (16 * (IntKind.i64.wrap (j6.2.2.1.2.2.2.2.2 + 1)))) then 255 else (IntKind.i64.wrap (16 * (IntKind.i64.wrap (j6.2.2.1.2.2.2.2.2 + 1)))))).bind fun y8 =>
 some (y8.2.2, (j6.2.2.1.1, (j6.2.2.1.2.1, (j6.2.2.1.2.2.1, (j6.2.2.1.2.2.2.1, (j6.2.2.1.2.2.2.2.1, (IntKind.i64.wrap (j6.2.2.1.2.2.2.2.2 + 1))))))), y8.2.1, y8.1, ()) : Option ((Int × (Int × Int × (Bool × Int × Int × Int × List (Int × List Int)) × (List Int × List Int × Bool × Bool × Int) × Bool × Int) × List Int × (List Int × List Int × Bool × Bool × Int) × Unit))).bind fun j9 => 
 (bif (j9.1 == 0) then
 some ((j9.2.1.1, (j9.2.1.2.1, (j9.2.1.2.2.1, (j9.2.2.2.1, j9.2.1.2.2.2.2)))), j9.2.2.1, ())
 else
 some (j9.2.1, j9.2.2.1, ()) : Option (((Int × Int × (Bool × Int × Int × Int × List (Int × List Int)) × (List Int × List Int × Bool × Bool × Int) × Bool × Int) × List Int × Unit))).bind fun j10 => 
 some (j6.1, j10.1, j10.2.1, ()) : Option ((List Int × (Int × Int × (Bool × Int × Int × Int × List (Int × List Int)) × (List Int × List Int × Bool × Bool × Int) × Bool × Int) × List Int × Unit))).bind fun j11 => 
 bif (room 128 (p2.1 ++ [j11.2.2.1]).length) then
 some ((p2.1 ++ [j11.2.2.1]), p2.2.1, p2.2.2.1, p2.2.2.2.1, j11.2.1, ())
 else none
 else none : Option ((List (List Int) × List (List Int) × Int × Int × (Int × Int × (Bool × Int × Int × Int × List (Int × List Int)) × (List Int × List Int × Bool × Bool × Int) × Bool × Int) × Unit))).bind fun j12 => 
 some (Sum.inl (j12.1, j12.2.1, j12.2.2.1, (IntKind.i64.wrap (j12.2.2.2.1 + 1)), j12.2.2.2.2.1, ()))
 else
 some (Sum.inr (p2.1, ()))
noncomputable def g_listen_Plain (a0 : List (List Int)) : Option (List (List Int)) :=
 (g_decoder_Start).bind fun y1 =>
 (iter (g_listen_Plain_r1) ([], a0, (a0.length : Int), 0, (0, (0, ((false, (0, (0, (0, [])))), (y1, (false, 0))))), ())).bind fun j13 => 
 some j13.1
noncomputable def g_law14_ListenSilent_r1 (p2 : List (List Int) × Bool × List (List Int) × Int × Int × Unit) : Option ((List (List Int) × Bool × List (List Int) × Int × Int × Unit) ⊕ ((List (List Int) × Bool × Unit) ⊕ (Bool × Unit))) :=
 bif (decide (p2.2.2.2.2.1 < p2.2.2.2.1)) then
 bif (within p2.2.2.2.2.1 p2.2.2.1.length) then
 bif (decide (((p2.2.2.1.getD p2.2.2.2.2.1.toNat []).length : Int) > 300)) then
 some (Sum.inr (Sum.inr (p2.2.1, ())))
 else
 some (Sum.inl (p2.1, p2.2.1, p2.2.2.1, p2.2.2.2.1, (IntKind.i64.wrap (p2.2.2.2.2.1 + 1)), ()))
 else none
 else
 some (Sum.inr (Sum.inl (p2.1, p2.2.1, ())))
noncomputable def g_law14_ListenSilent_r2 (p7 : List (List Int) × Bool × Bool × List (List Int) × Int × Int × Unit) : Option ((List (List Int) × Bool × Bool × List (List Int) × Int × Int × Unit) ⊕ ((Bool × Unit) ⊕ (Bool × Unit))) :=
 bif (decide (p7.2.2.2.2.2.1 < p7.2.2.2.2.1)) then
 bif (within p7.2.2.2.2.2.1 p7.2.2.2.1.length) then
 (g_lapped_Check (p7.2.2.2.1.getD p7.2.2.2.2.2.1.toNat (List.replicate 16 0))).bind fun y8 =>
 bif (y8 != 0) then
 some (Sum.inr (Sum.inr (false, ())))
 else
 (bif (within p7.2.2.2.2.2.1 p7.1.length) then
 (g_frame_Kind (p7.1.getD p7.2.2.2.2.2.1.toNat [])).bind fun y9 =>
 (bif (y9.2 == 0) then
 some (p7.1, p7.2.1, p7.2.2.1, p7.2.2.2.1, p7.2.2.2.2.1, p7.2.2.2.2.2.1, (y9.1 == 0), (p7.2.2.2.1.getD p7.2.2.2.2.2.1.toNat (List.replicate 16 0)), ())
 else
 some (p7.1, p7.2.1, p7.2.2.1, p7.2.2.2.1, p7.2.2.2.2.1, p7.2.2.2.2.2.1, false, (p7.2.2.2.1.getD p7.2.2.2.2.2.1.toNat (List.replicate 16 0)), ()) : Option ((List (List Int) × Bool × Bool × List (List Int) × Int × Int × Bool × List Int × Unit))).bind fun j10 => 
 bif j10.2.2.2.2.2.2.1 then
 some (j10.1, j10.2.1, true, j10.2.2.2.1, j10.2.2.2.2.1, j10.2.2.2.2.2.1, j10.2.2.2.2.2.2.2.1, ())
 else
 some (j10.1, j10.2.1, j10.2.2.1, j10.2.2.2.1, j10.2.2.2.2.1, j10.2.2.2.2.2.1, j10.2.2.2.2.2.2.2.1, ())
 else none : Option ((List (List Int) × Bool × Bool × List (List Int) × Int × Int × List Int × Unit))).bind fun j11 => 
 (bif (!j11.2.2.1) then
 some (j11.1, j11.2.1, j11.2.2.1, j11.2.2.2.1, j11.2.2.2.2.1, j11.2.2.2.2.2.1, (!(j11.2.2.2.2.2.2.1 == [0, 0, 0, 0, 0, 0, 0, 0, 0, 0, 0, 0, 0, 0, 0, 0])), ())
 else
 some (j11.1, j11.2.1, j11.2.2.1, j11.2.2.2.1, j11.2.2.2.2.1, j11.2.2.2.2.2.1, false, ()) : Option ((List (List Int) × Bool × Bool × List (List Int) × Int × Int × Bool × Unit))).bind fun j12 => 
 bif j12.2.2.2.2.2.2.1 then
 some (Sum.inr (Sum.inr (false, ())))
 else
 some (Sum.inl (j12.1, j12.2.1, j12.2.2.1, j12.2.2.2.1, j12.2.2.2.2.1, (IntKind.i64.wrap (j12.2.2.2.2.2.1 + 1)), ()))
 else none
 else
 some (Sum.inr (Sum.inl (p7.2.1, ())))
noncomputable def g_law14_ListenSilent (a0 : List (List Int)) : Option (Bool) :=
 (g_law14_live).bind fun y1 =>
 bif (!y1) then
 some false
 else
 bif (decide ((a0.length : Int) > 30)) then
 some y1
 else
 (iter (g_law14_ListenSilent_r1) (a0, y1, a0, (a0.length : Int), 0, ())).bind fun j3 => 
 (match j3 with
 | .inl j4 =>
 ((g_listen_Plain j4.1).bind fun y6 =>
 (iter (g_law14_ListenSilent_r2) (j4.1, j4.2.1, false, y6, (y6.length : Int), 0, ())).bind fun j13 => 
 (match j13 with
 | .inl j14 =>
 (some j14.1)
 | .inr j15 =>
 (some j15.1)))
 | .inr j5 =>
 (some j5.1))
end Go.Sq
