import Derived.Test.YtghhiloencpimaaGreatX1
set_option linter.unusedSimpArgs false
set_option linter.unusedVariables false
set_option linter.unusedSectionVars false
set_option linter.unusedVariables false
set_option maxRecDepth 100000
namespace Go.Sq
open Go.Rx
noncomputable def i2E : Option (List Int × List Int × Bool × Bool × Int) :=
 some ((List.replicate 16 0), ((List.replicate 6 0), (false, (false, 1))))
noncomputable def x2C (a0 : List Int × Int × Int × Int × List Int × List Int × Bool × Bool × Int) : Option (List Int × Int × Int × Int × List Int × List Int × Bool × Bool × Int) :=
 (i2E).bind fun y1 =>
 some (a0.1, (0, (0, (0, y1))))
noncomputable def x3C : Option (List Int × Int × Int × Int × List Int × List Int × Bool × Bool × Int) :=
 (x2C ((List.replicate 16 0), (0, (0, (0, ((List.replicate 16 0), ((List.replicate 6 0), (false, (false, 0))))))))).bind fun y1 =>
 some y1
noncomputable def o7D (a0 : Int) (a1 : Int) (a2 : Int) : Option (Int) :=
 some (if a1 < (if a2 < a0 then a2 else a0) then (if a2 < a0 then a2 else a0) else a1)
noncomputable def x4C (a0 : Int) (a1 : Int) : Option (Int) :=
 (o7D a1 1 62).bind fun y1 =>
 bif (decide (0 ≤ (IntKind.i64.wrap (y1 - 1)))) then
 (o7D a0 (d4A .xor .i64 (-1) (IntKind.i64.wrap ((c9A .i64 1 (IntKind.i64.wrap (y1 - 1))) - 1))) (IntKind.i64.wrap ((c9A .i64 1 (IntKind.i64.wrap (y1 - 1))) - 1))).bind fun y2 =>
 some y2
 else none
noncomputable def s5B (p1 : List Int × Int × Unit) : Option ((List Int × Int × Unit) ⊕ (Unit ⊕ (Int × Unit))) :=
 bif (decide (p1.2.1 < 16)) then
 bif (a2A p1.2.1 16) then
 (x4C (p1.1.getD p1.2.1.toNat 0) 16).bind fun y2 =>
 bif (y2 != (p1.1.getD p1.2.1.toNat 0)) then
 some (Sum.inr (Sum.inr (1, ())))
 else
 some (Sum.inl (p1.1, (IntKind.i64.wrap (p1.2.1 + 1)), ()))
 else none
 else
 some (Sum.inr (Sum.inl ()))
noncomputable def x5B (a0 : List Int) : Option (Int) :=
 (a1A (s5B) (a0, 0, ())).bind fun j3 =>
 (match j3 with
 | .inl j4 =>
 (some 0)
 | .inr j5 =>
 (some j5.1))
noncomputable def l5B (a0 : Int) : Option (Int) :=
 (bif (decide (a0 ≥ 4294967296)) then
 some ((c5A .u64 a0 32), 32, ())
 else
 some (a0, 0, ()) : Option ((Int × Int × Unit))).bind fun j1 =>
 (bif (decide (j1.1 ≥ 65536)) then
 some ((c5A .u64 j1.1 16), (IntKind.i64.wrap (j1.2.1 + 16)), ())
 else
 some (j1.1, j1.2.1, ()) : Option ((Int × Int × Unit))).bind fun j2 =>
 (bif (decide (j2.1 ≥ 256)) then
 some ((c5A .u64 j2.1 8), (IntKind.i64.wrap (j2.2.1 + 8)), ())
 else
 some (j2.1, j2.2.1, ()) : Option ((Int × Int × Unit))).bind fun j3 =>
 bif (a2A (IntKind.u8.wrap j3.1) ((ByteArray.mk #[0, 1, 2, 2, 3, 3, 3, 3, 4, 4, 4, 4, 4, 4, 4, 4, 5, 5, 5, 5, 5, 5, 5, 5, 5, 5, 5, 5, 5, 5, 5, 5, 6, 6, 6, 6, 6, 6, 6, 6, 6, 6, 6, 6, 6, 6, 6, 6, 6, 6, 6, 6, 6, 6, 6, 6, 6, 6, 6, 6, 6, 6, 6, 6, 7, 7, 7, 7, 7, 7, 7, 7, 7, 7, 7, 7, 7, 7, 7, 7, 7, 7, 7, 7, 7, 7, 7, 7, 7, 7, 7, 7, 7, 7, 7, 7, 7, 7, 7, 7, 7, 7, 7, 7, 7, 7, 7, 7, 7, 7, 7, 7, 7, 7, 7, 7, 7, 7, 7, 7, 7, 7, 7, 7, 7, 7, 7, 7, 8, 8, 8, 8, 8, 8, 8, 8, 8, 8, 8, 8, 8, 8, 8, 8, 8, 8, 8, 8, 8, 8, 8, 8, 8, 8, 8, 8, 8, 8, 8, 8, 8, 8, 8, 8, 8, 8, 8, 8, 8, 8, 8, 8, 8, 8, 8, 8, 8, 8, 8, 8, 8, 8, 8, 8, 8, 8, 8, 8, 8, 8, 8, 8, 8, 8, 8, 8, 8, 8, 8, 8, 8, 8, 8, 8, 8, 8, 8, 8, 8, 8, 8, 8, 8, 8, 8, 8, 8, 8, 8, 8, 8, 8, 8, 8, 8, 8, 8, 8, 8, 8, 8, 8, 8, 8, 8, 8, 8, 8, 8, 8, 8, 8, 8, 8, 8, 8, 8, 8, 8, 8, 8, 8, 8, 8, 8, 8]).size)) then
 some (IntKind.i64.wrap (j3.2.1 + (IntKind.i64.wrap (((ByteArray.mk #[0, 1, 2, 2, 3, 3, 3, 3, 4, 4, 4, 4, 4, 4, 4, 4, 5, 5, 5, 5, 5, 5, 5, 5, 5, 5, 5, 5, 5, 5, 5, 5, 6, 6, 6, 6, 6, 6, 6, 6, 6, 6, 6, 6, 6, 6, 6, 6, 6, 6, 6, 6, 6, 6, 6, 6, 6, 6, 6, 6, 6, 6, 6, 6, 7, 7, 7, 7, 7, 7, 7, 7, 7, 7, 7, 7, 7, 7, 7, 7, 7, 7, 7, 7, 7, 7, 7, 7, 7, 7, 7, 7, 7, 7, 7, 7, 7, 7, 7, 7, 7, 7, 7, 7, 7, 7, 7, 7, 7, 7, 7, 7, 7, 7, 7, 7, 7, 7, 7, 7, 7, 7, 7, 7, 7, 7, 7, 7, 8, 8, 8, 8, 8, 8, 8, 8, 8, 8, 8, 8, 8, 8, 8, 8, 8, 8, 8, 8, 8, 8, 8, 8, 8, 8, 8, 8, 8, 8, 8, 8, 8, 8, 8, 8, 8, 8, 8, 8, 8, 8, 8, 8, 8, 8, 8, 8, 8, 8, 8, 8, 8, 8, 8, 8, 8, 8, 8, 8, 8, 8, 8, 8, 8, 8, 8, 8, 8, 8, 8, 8, 8, 8, 8, 8, 8, 8, 8, 8, 8, 8, 8, 8, 8, 8, 8, 8, 8, 8, 8, 8, 8, 8, 8, 8, 8, 8, 8, 8, 8, 8, 8, 8, 8, 8, 8, 8, 8, 8, 8, 8, 8, 8, 8, 8, 8, 8, 8, 8, 8, 8, 8, 8, 8, 8, 8, 8]).data.getD (IntKind.u8.wrap j3.1).toNat 0).toNat : Int))))
 else none
noncomputable def d6B (p2 : Int × Int × Unit) : Option ((Int × Int × Unit) ⊕ ((Int × Unit))) :=
 bif (p2.2.1 != 0) then
 bif (decide ((IntKind.u64.wrap ((IntKind.u64.wrap (p2.2.1 + (IntKind.u64.wrap (p2.1.tdiv p2.2.1)))).tdiv 2)) ≥ p2.2.1)) then
 some (Sum.inr (p2.2.1, ()))
 else
 some (Sum.inl (p2.1, (IntKind.u64.wrap ((IntKind.u64.wrap (p2.2.1 + (IntKind.u64.wrap (p2.1.tdiv p2.2.1)))).tdiv 2)), ()))
 else none
noncomputable def i0A (a0 : Int) : Option (Int) :=
 bif (a0 == 0) then
 some 0
 else
 (l5B a0).bind fun y1 =>
 bif (decide (0 ≤ (IntKind.i64.wrap ((IntKind.i64.wrap (y1 + 1)).tdiv 2)))) then
 (a1A (d6B) (a0, (c9A .u64 1 (IntKind.i64.wrap ((IntKind.i64.wrap (y1 + 1)).tdiv 2))), ())).bind fun j3 =>
 some j3.1
 else none
noncomputable def y8A (p1 : Int × (List (Int × Int)) × Unit) : Option ((Int × (List (Int × Int)) × Unit) ⊕ (((List (Int × Int)) × Unit))) :=
 bif (decide (p1.1 ≤ 7)) then
 bif (a2A (IntKind.i64.wrap (p1.1 - 1)) 8) then
 (i0A (c9A .u64 (IntKind.u64.wrap (IntKind.i64.wrap (1073741824 + (((p1.2.1.getD ((IntKind.i64.wrap (p1.1 - 1)).toNat) (0, 0))).1)))) 29)).bind fun y2 =>
 (i0A (c9A .u64 (IntKind.u64.wrap (IntKind.i64.wrap (1073741824 - (((p1.2.1.getD ((IntKind.i64.wrap (p1.1 - 1)).toNat) (0, 0))).1)))) 29)).bind fun y3 =>
 bif (a2A p1.1 8) then
 some (Sum.inl ((IntKind.i64.wrap (p1.1 + 1)), (p1.2.1.set p1.1.toNat ((IntKind.i64.wrap y2), (IntKind.i64.wrap y3))), ()))
 else none
 else none
 else
 some (Sum.inr (p1.2.1, ()))
noncomputable def h7C : Option (List (Int × Int)) :=
 bif (a2A 1 8) then
 bif (a2A 2 8) then
 (a1A (y8A) (3, (((List.replicate 8 (0, 0)).set 1 ((-1073741824), 0)).set 2 (0, 1073741824)), ())).bind fun j4 =>
 some j4.1
 else none
 else none
noncomputable def m4A (a0 : Int) (a1 : Int) : Option (Int) :=
 bif (decide (a1 < 1)) then
 some a0
 else
 bif (decide (a1 > 62)) then
 some 0
 else
 bif (decide (0 ≤ a1)) then
 bif (decide (0 ≤ (IntKind.i64.wrap (a1 - 1)))) then
 some (IntKind.i64.wrap ((c5A .i64 a0 a1) + (d4A .and .i64 (c5A .i64 a0 (IntKind.i64.wrap (a1 - 1))) 1)))
 else none
 else none
noncomputable def h8C (a0 : Int × Int) (a1 : Int × Int) : Option (Int × Int) :=
 (m4A (IntKind.i64.wrap ((IntKind.i64.wrap (a0.1 * a1.1)) - (IntKind.i64.wrap (a0.2 * a1.2)))) 30).bind fun y1 =>
 (m4A (IntKind.i64.wrap ((IntKind.i64.wrap (a0.1 * a1.2)) + (IntKind.i64.wrap (a0.2 * a1.1)))) 30).bind fun y2 =>
 some (y1, y2)
noncomputable def z5B (p3 : Int × Int × Int × (List (Int × Int)) × (List (Int × Int)) × (Int × Int) × Unit) : Option ((Int × Int × Int × (List (Int × Int)) × (List (Int × Int)) × (Int × Int) × Unit) ⊕ ((Int × Int × (List (Int × Int)) × (List (Int × Int)) × (Int × Int) × Unit))) :=
 bif (decide (p3.2.1 ≤ 7)) then
 (bif (decide (0 ≤ (IntKind.i64.wrap (7 - p3.2.1)))) then
 bif ((d4A .and .i64 (c5A .i64 p3.1 (IntKind.i64.wrap (7 - p3.2.1))) 1) == 1) then
 bif (a2A p3.2.1 8) then
 (h8C p3.2.2.2.2.2.1 ((p3.2.2.2.2.1.getD p3.2.1.toNat (0, 0)))).bind fun y4 =>
 some (p3.1, p3.2.1, p3.2.2.1, p3.2.2.2.1, p3.2.2.2.2.1, y4, ())
 else none
 else
 some (p3.1, p3.2.1, p3.2.2.1, p3.2.2.2.1, p3.2.2.2.2.1, p3.2.2.2.2.2.1, ())
 else none : Option ((Int × Int × Int × (List (Int × Int)) × (List (Int × Int)) × (Int × Int) × Unit))).bind fun j5 =>
 some (Sum.inl (j5.1, (IntKind.i64.wrap (j5.2.1 + 1)), j5.2.2.1, j5.2.2.2.1, j5.2.2.2.2.1, j5.2.2.2.2.2.1, ()))
 else
 some (Sum.inr (p3.1, p3.2.2.1, p3.2.2.2.1, p3.2.2.2.2.1, p3.2.2.2.2.2.1, ()))
noncomputable def m1C (p2 : Int × (List (Int × Int)) × (List (Int × Int)) × Unit) : Option ((Int × (List (Int × Int)) × (List (Int × Int)) × Unit) ⊕ (((List (Int × Int)) × Unit))) :=
 bif (decide (p2.1 < 128)) then
 (a1A (z5B) (p2.1, 1, p2.1, p2.2.1, p2.2.2.1, (1073741824, 0), ())).bind fun j6 =>
 bif (a2A j6.1 128) then
 some (Sum.inl ((IntKind.i64.wrap (j6.2.1 + 1)), (j6.2.2.1.set j6.1.toNat j6.2.2.2.2.1), j6.2.2.2.1, ()))
 else none
 else
 some (Sum.inr (p2.2.1, ()))
noncomputable def x5C (a0 : Int) : Option (Int × Int) :=
 (h7C).bind fun y1 =>
 (a1A (m1C) (0, (List.replicate 128 (0, 0)), y1, ())).bind fun j7 =>
 bif (a2A (d4A .and .i64 a0 127) 128) then
 some ((j7.1.getD ((d4A .and .i64 a0 127).toNat) (0, 0)))
 else none
noncomputable def x6C (a0 : Int) : Option (Int) :=
 (x5C a0).bind fun y1 =>
 (m4A y1.2 6).bind fun y2 =>
 some y2
noncomputable def x7C (a0 : Int) : Option (Int × Int) :=
 (bif (decide (a0 < 0)) then
 some (a0, true, ())
 else
 some (a0, (decide (a0 ≥ 32)), ()) : Option ((Int × Bool × Unit))).bind fun j1 =>
 bif j1.2.1 then
 some (0, 1)
 else
 (x6C (IntKind.i64.wrap ((IntKind.i64.wrap (2 * j1.1)) + 1))).bind fun y2 =>
 some (y2, 0)
noncomputable def x8C (a0 : Int) (a1 : Int) : Option (Int) :=
 some (IntKind.i64.wrap ((IntKind.i64.wrap ((IntKind.i64.wrap ((IntKind.i64.wrap (2 * a0)) + 16)) + 1)) * (IntKind.i64.wrap ((IntKind.i64.wrap (2 * a1)) + 1))))
noncomputable def z6B (p4 : Int × Int × Int × (List (Int × Int)) × (List (Int × Int)) × (Int × Int) × Unit) : Option ((Int × Int × Int × (List (Int × Int)) × (List (Int × Int)) × (Int × Int) × Unit) ⊕ ((Int × Int × (List (Int × Int)) × (List (Int × Int)) × (Int × Int) × Unit))) :=
 bif (decide (p4.2.1 ≤ 7)) then
 (bif (decide (0 ≤ (IntKind.i64.wrap (7 - p4.2.1)))) then
 bif ((d4A .and .i64 (c5A .i64 p4.1 (IntKind.i64.wrap (7 - p4.2.1))) 1) == 1) then
 bif (a2A p4.2.1 8) then
 (h8C p4.2.2.2.2.2.1 ((p4.2.2.2.2.1.getD p4.2.1.toNat (0, 0)))).bind fun y5 =>
 some (p4.1, p4.2.1, p4.2.2.1, p4.2.2.2.1, p4.2.2.2.2.1, y5, ())
 else none
 else
 some (p4.1, p4.2.1, p4.2.2.1, p4.2.2.2.1, p4.2.2.2.2.1, p4.2.2.2.2.2.1, ())
 else none : Option ((Int × Int × Int × (List (Int × Int)) × (List (Int × Int)) × (Int × Int) × Unit))).bind fun j6 =>
 some (Sum.inl (j6.1, (IntKind.i64.wrap (j6.2.1 + 1)), j6.2.2.1, j6.2.2.2.1, j6.2.2.2.2.1, j6.2.2.2.2.2.1, ()))
 else
 some (Sum.inr (p4.1, p4.2.2.1, p4.2.2.2.1, p4.2.2.2.2.1, p4.2.2.2.2.2.1, ()))
noncomputable def m2C (p3 : Int × (List (Int × Int)) × (List (Int × Int)) × Unit) : Option ((Int × (List (Int × Int)) × (List (Int × Int)) × Unit) ⊕ (((List (Int × Int)) × Unit))) :=
 bif (decide (p3.1 < 128)) then
 (a1A (z6B) (p3.1, 1, p3.1, p3.2.1, p3.2.2.1, (1073741824, 0), ())).bind fun j7 =>
 bif (a2A j7.1 128) then
 some (Sum.inl ((IntKind.i64.wrap (j7.2.1 + 1)), (j7.2.2.1.set j7.1.toNat j7.2.2.2.2.1), j7.2.2.2.1, ()))
 else none
 else
 some (Sum.inr (p3.2.1, ()))
noncomputable def c0D (p9 : Int × List Int × Int × Int × (List (Int × Int)) × Unit) : Option ((Int × List Int × Int × Int × (List (Int × Int)) × Unit) ⊕ ((List Int × Unit))) :=
 bif (decide (p9.2.2.2.1 < p9.2.2.1)) then
 (x8C p9.2.2.2.1 p9.1).bind fun y10 =>
 bif (a2A (y10.tmod 128) 128) then
 (m4A (((p9.2.2.2.2.1.getD ((y10.tmod 128).toNat) (0, 0))).1) 6).bind fun y11 =>
 bif (a2A p9.2.2.2.1 p9.2.1.length) then
 some (Sum.inl (p9.1, (p9.2.1.set p9.2.2.2.1.toNat y11), p9.2.2.1, (IntKind.i64.wrap (p9.2.2.2.1 + 1)), p9.2.2.2.2.1, ()))
 else none
 else none
 else
 some (Sum.inr (p9.2.1, ()))
noncomputable def x9C (a0 : Int) : Option (List Int × Int) :=
 (bif (decide (a0 < 0)) then
 some (a0, true, ())
 else
 some (a0, (decide (a0 ≥ 16)), ()) : Option ((Int × Bool × Unit))).bind fun j1 =>
 bif j1.2.1 then
 some ([], 1)
 else
 (h7C).bind fun y2 =>
 (a1A (m2C) (0, (List.replicate 128 (0, 0)), y2, ())).bind fun j8 =>
 bif (decide (0 ≤ 32) && decide (32 ≤ 32) && f2A 8 32) then
 (a1A (c0D) (j1.1, (List.replicate 32 (0 : Int)), ((List.replicate 32 (0 : Int)).length : Int), 0, j8.1, ())).bind fun j12 =>
 some (j12.1, 0)
 else none
noncomputable def m3C (p1 : Int × (List Int × List (List Int)) × Unit) : Option ((Int × (List Int × List (List Int)) × Unit) ⊕ (((List Int × List (List Int)) × Unit) ⊕ (Int × (List Int × List (List Int)) × Unit))) :=
 bif (decide (p1.1 < 32)) then
 (x7C p1.1).bind fun y2 =>
 bif (a2A p1.1 32) then
 bif (y2.2 != 0) then
 some (Sum.inr (Sum.inr (y2.2, ((p1.2.1.1.set p1.1.toNat y2.1), p1.2.1.2), ())))
 else
 some (Sum.inl ((IntKind.i64.wrap (p1.1 + 1)), ((p1.2.1.1.set p1.1.toNat y2.1), p1.2.1.2), ()))
 else none
 else
 some (Sum.inr (Sum.inl (p1.2.1, ())))
noncomputable def m4C (p6 : Int × (List Int × List (List Int)) × Unit) : Option ((Int × (List Int × List (List Int)) × Unit) ⊕ (((List Int × List (List Int)) × Unit) ⊕ (Int × (List Int × List (List Int)) × Unit))) :=
 bif (decide (p6.1 < 16)) then
 (x9C p6.1).bind fun y7 =>
 bif (a2A p6.1 16) then
 bif (y7.2 != 0) then
 some (Sum.inr (Sum.inr (y7.2, (p6.2.1.1, (p6.2.1.2.set p6.1.toNat y7.1)), ())))
 else
 some (Sum.inl ((IntKind.i64.wrap (p6.1 + 1)), (p6.2.1.1, (p6.2.1.2.set p6.1.toNat y7.1)), ()))
 else none
 else
 some (Sum.inr (Sum.inl (p6.2.1, ())))
noncomputable def h9C : Option ((List Int × List (List Int)) × Int) :=
 (a1A (m3C) (0, ((List.replicate 32 0), (List.replicate 16 [])), ())).bind fun j3 =>
 (match j3 with
 | .inl j4 =>
 ((a1A (m4C) (0, j4.1, ())).bind fun j8 =>
 (match j8 with
 | .inl j9 =>
 (some (j9.1, 0))
 | .inr j10 =>
 (some (j10.2.1, j10.1))))
 | .inr j5 =>
 (some (j5.2.1, j5.1)))
noncomputable def m5C (p5 : Int × List Int × (List Int × List (List Int)) × List Int × Unit) : Option ((Int × List Int × (List Int × List (List Int)) × List Int × Unit) ⊕ ((List Int × (List Int × List (List Int)) × List Int × Unit))) :=
 bif (decide (p5.1 < 32)) then
 bif (a2A p5.1 32) then
 bif (a2A p5.1 32) then
 (m4A (IntKind.i64.wrap ((p5.2.2.2.1.getD p5.1.toNat 0) * (p5.2.2.1.1.getD p5.1.toNat 0))) 16).bind fun y6 =>
 bif (a2A p5.1 32) then
 some (Sum.inl ((IntKind.i64.wrap (p5.1 + 1)), p5.2.1, p5.2.2.1, (p5.2.2.2.1.set p5.1.toNat y6), ()))
 else none
 else none
 else none
 else
 some (Sum.inr (p5.2.1, p5.2.2.1, p5.2.2.2.1, ()))
noncomputable def m6C (p9 : Int × Int × List (List Int) × Int × List Int × Int × Int × List Int × List Int × Unit) : Option ((Int × Int × List (List Int) × Int × List Int × Int × Int × List Int × List Int × Unit) ⊕ ((Int × Int × List (List Int) × Int × List Int × List Int × Unit))) :=
 bif (decide (p9.2.2.2.2.2.2.1 < p9.2.2.2.2.2.1)) then
 bif (a2A p9.2.2.2.2.2.2.1 p9.2.2.2.2.1.length) then
 bif (a2A p9.2.2.2.2.2.2.1 32) then
 some (Sum.inl (p9.1, (IntKind.i64.wrap (p9.2.1 + (IntKind.i64.wrap ((p9.2.2.2.2.2.2.2.2.1.getD p9.2.2.2.2.2.2.1.toNat 0) * (p9.2.2.2.2.1.getD p9.2.2.2.2.2.2.1.toNat 0))))), p9.2.2.1, p9.2.2.2.1, p9.2.2.2.2.1, p9.2.2.2.2.2.1, (IntKind.i64.wrap (p9.2.2.2.2.2.2.1 + 1)), p9.2.2.2.2.2.2.2.1, p9.2.2.2.2.2.2.2.2.1, ()))
 else none
 else none
 else
 some (Sum.inr (p9.1, p9.2.1, p9.2.2.1, p9.2.2.2.1, p9.2.2.2.2.2.2.2.1, p9.2.2.2.2.2.2.2.2.1, ()))
noncomputable def m7C (p8 : List (List Int) × Int × List Int × List Int × Unit) : Option ((List (List Int) × Int × List Int × List Int × Unit) ⊕ ((List Int × Unit))) :=
 bif (decide (p8.2.1 < 16)) then
 bif (a2A p8.2.1 16) then
 (a1A (m6C) (p8.2.1, 0, p8.1, p8.2.1, (p8.1.getD p8.2.1.toNat []), ((p8.1.getD p8.2.1.toNat []).length : Int), 0, p8.2.2.1, p8.2.2.2.1, ())).bind fun j10 =>
 (m4A j10.2.1 28).bind fun y11 =>
 bif (a2A j10.1 16) then
 some (Sum.inl (j10.2.2.1, (IntKind.i64.wrap (j10.2.2.2.1 + 1)), (j10.2.2.2.2.1.set j10.1.toNat y11), j10.2.2.2.2.2.1, ()))
 else none
 else none
 else
 some (Sum.inr (p8.2.2.1, ()))
noncomputable def x6B (a0 : List Int) (a1 : List Int) : Option (List Int × Int) :=
 ((x5B a0).bind fun y1 =>
 bif (y1 != 0) then
 some (true, a0, a1, (List.replicate 16 0), ())
 else
 (x5B a1).bind fun y2 =>
 some ((y2 != 0), a0, a1, (List.replicate 16 0), ()) : Option ((Bool × List Int × List Int × List Int × Unit))).bind fun j3 =>
 bif j3.1 then
 some (j3.2.2.2.1, 1)
 else
 (h9C).bind fun y4 =>
 bif (y4.2 != 0) then
 some (j3.2.2.2.1, y4.2)
 else
 (a1A (m5C) (0, j3.2.2.2.1, y4.1, (m6A (m6A (List.replicate 32 0) 0 (((j3.2.1.drop 0).take 16).take 32)) 16 (((j3.2.2.1.drop 0).take 16).take 16)), ())).bind fun j7 =>
 (a1A (m7C) (j7.2.1.2, 0, j7.1, j7.2.2.1, ())).bind fun j12 =>
 some (j12.1, 0)
noncomputable def s6B (p1 : Int × List Int × Int × Int × Unit) : Option ((Int × List Int × Int × Int × Unit) ⊕ (Unit ⊕ (Bool × Unit))) :=
 bif (decide (p1.2.2.2.1 < p1.2.2.1)) then
 bif (a2A p1.2.2.2.1 p1.2.1.length) then
 (bif (decide ((p1.2.1.getD p1.2.2.2.1.toNat 0) < (IntKind.i64.wrap (0 - p1.1)))) then
 some (p1.1, p1.2.1, p1.2.2.1, p1.2.2.2.1, true, ())
 else
 some (p1.1, p1.2.1, p1.2.2.1, p1.2.2.2.1, (decide ((p1.2.1.getD p1.2.2.2.1.toNat 0) > p1.1)), ()) : Option ((Int × List Int × Int × Int × Bool × Unit))).bind fun j2 =>
 bif j2.2.2.2.2.1 then
 some (Sum.inr (Sum.inr (false, ())))
 else
 some (Sum.inl (j2.1, j2.2.1, j2.2.2.1, (IntKind.i64.wrap (j2.2.2.2.1 + 1)), ()))
 else none
 else
 some (Sum.inr (Sum.inl ()))
noncomputable def q9B (a0 : List Int) (a1 : Int) : Option (Bool) :=
 (a1A (s6B) (a1, a0, (a0.length : Int), 0, ())).bind fun j3 =>
 (match j3 with
 | .inl j4 =>
 (some true)
 | .inr j5 =>
 (some j5.1))
noncomputable def m8C (p2 : Int × List Int × Int × Unit) : Option ((Int × List Int × Int × Unit) ⊕ ((Int × Unit))) :=
 bif (decide (p2.2.2.1 < 16)) then
 bif (a2A p2.2.2.1 16) then
 some (Sum.inl ((IntKind.u64.wrap (p2.1 + (IntKind.u64.wrap (IntKind.i64.wrap ((p2.2.1.getD p2.2.2.1.toNat 0) * (p2.2.1.getD p2.2.2.1.toNat 0)))))), p2.2.1, (IntKind.i64.wrap (p2.2.2.1 + 1)), ()))
 else none
 else
 some (Sum.inr (p2.1, ()))
noncomputable def x7B (a0 : List Int) : Option (Int) :=
 (q9B ((a0.drop 0).take 16) 67108864).bind fun y1 =>
 bif (!y1) then
 some 0
 else
 (a1A (m8C) (0, a0, 0, ())).bind fun j3 =>
 some j3.1
noncomputable def l6B : Option (List Int) :=
 some [0, 1, 2, 4, 6, 10, 16]
noncomputable def i0C (a0 : Int) (a1 : Int) : Option (Int × Int) :=
 some ((IntKind.u64.wrap ((IntKind.u64.wrap ((IntKind.u64.wrap ((c5A .u64 a0 32) * (c5A .u64 a1 32))) + (c5A .u64 (IntKind.u64.wrap ((IntKind.u64.wrap ((c5A .u64 a0 32) * (d4A .and .u64 a1 4294967295))) + (c5A .u64 (IntKind.u64.wrap ((d4A .and .u64 a0 4294967295) * (d4A .and .u64 a1 4294967295))) 32))) 32))) + (c5A .u64 (IntKind.u64.wrap ((d4A .and .u64 (IntKind.u64.wrap ((IntKind.u64.wrap ((c5A .u64 a0 32) * (d4A .and .u64 a1 4294967295))) + (c5A .u64 (IntKind.u64.wrap ((d4A .and .u64 a0 4294967295) * (d4A .and .u64 a1 4294967295))) 32))) 4294967295) + (IntKind.u64.wrap ((d4A .and .u64 a0 4294967295) * (c5A .u64 a1 32))))) 32))), (IntKind.u64.wrap (a0 * a1)))
noncomputable def m9C (p2 : List Int × List Int × Int × Int × Int × List Int × Int × Int × List Int × Int × Int × Unit) : Option ((List Int × List Int × Int × Int × Int × List Int × Int × Int × List Int × Int × Int × Unit) ⊕ ((List Int × List Int × Int × Int × List Int × Int × Int × Unit))) :=
 bif (decide (p2.2.2.2.2.2.2.2.2.2.2.1 < p2.2.2.2.2.2.2.2.2.2.1)) then
 bif (a2A p2.2.2.2.2.2.2.2.2.2.2.1 p2.2.2.2.2.2.2.2.2.1.length) then
 (i0C p2.2.2.2.1 (p2.2.2.2.2.2.2.2.2.1.getD p2.2.2.2.2.2.2.2.2.2.2.1.toNat 0)).bind fun y3 =>
 bif (a2A (IntKind.i64.wrap (p2.2.2.1 + p2.2.2.2.2.2.2.2.2.2.2.1)) p2.2.1.length) then
 bif (a2A (IntKind.i64.wrap (p2.2.2.1 + p2.2.2.2.2.2.2.2.2.2.2.1)) p2.2.1.length) then
 some (Sum.inl (p2.1, (p2.2.1.set ((IntKind.i64.wrap (p2.2.2.1 + p2.2.2.2.2.2.2.2.2.2.2.1)).toNat) ((((p2.2.1.getD ((IntKind.i64.wrap (p2.2.2.1 + p2.2.2.2.2.2.2.2.2.2.2.1)).toNat) 0).toNat + (((y3.2.toNat + p2.2.2.2.2.1.toNat) % 18446744073709551616 : Nat) : Int).toNat) % 18446744073709551616 : Nat) : Int)), p2.2.2.1, p2.2.2.2.1, (IntKind.u64.wrap ((IntKind.u64.wrap (y3.1 + (((y3.2.toNat + p2.2.2.2.2.1.toNat) / 18446744073709551616 : Nat) : Int))) + ((((p2.2.1.getD ((IntKind.i64.wrap (p2.2.2.1 + p2.2.2.2.2.2.2.2.2.2.2.1)).toNat) 0).toNat + (((y3.2.toNat + p2.2.2.2.2.1.toNat) % 18446744073709551616 : Nat) : Int).toNat) / 18446744073709551616 : Nat) : Int))), p2.2.2.2.2.2.1, p2.2.2.2.2.2.2.1, p2.2.2.2.2.2.2.2.1, p2.2.2.2.2.2.2.2.2.1, p2.2.2.2.2.2.2.2.2.2.1, (IntKind.i64.wrap (p2.2.2.2.2.2.2.2.2.2.2.1 + 1)), ()))
 else none
 else none
 else none
 else
 some (Sum.inr (p2.1, p2.2.1, p2.2.2.1, p2.2.2.2.2.1, p2.2.2.2.2.2.1, p2.2.2.2.2.2.2.1, p2.2.2.2.2.2.2.2.1, ()))
noncomputable def n0C (p1 : List Int × List Int × List Int × Int × Int × Unit) : Option ((List Int × List Int × List Int × Int × Int × Unit) ⊕ ((List Int × Unit))) :=
 bif (decide (p1.2.2.2.2.1 < p1.2.2.2.1)) then
 bif (a2A p1.2.2.2.2.1 p1.2.2.1.length) then
 (a1A (m9C) (p1.1, p1.2.1, p1.2.2.2.2.1, (p1.2.2.1.getD p1.2.2.2.2.1.toNat 0), 0, p1.2.2.1, p1.2.2.2.1, p1.2.2.2.2.1, p1.1, (p1.1.length : Int), 0, ())).bind fun j4 =>
 bif (a2A (IntKind.i64.wrap (j4.2.2.1 + (j4.1.length : Int))) j4.2.1.length) then
 bif (a2A (IntKind.i64.wrap (j4.2.2.1 + (j4.1.length : Int))) j4.2.1.length) then
 some (Sum.inl (j4.1, (j4.2.1.set ((IntKind.i64.wrap (j4.2.2.1 + (j4.1.length : Int))).toNat) (IntKind.u64.wrap ((j4.2.1.getD ((IntKind.i64.wrap (j4.2.2.1 + (j4.1.length : Int))).toNat) 0) + j4.2.2.2.1))), j4.2.2.2.2.1, j4.2.2.2.2.2.1, (IntKind.i64.wrap (j4.2.2.2.2.2.2.1 + 1)), ()))
 else none
 else none
 else none
 else
 some (Sum.inr (p1.2.1, ()))
noncomputable def y1C (a0 : List Int) : Option (List Int) :=
 bif (decide (0 ≤ (IntKind.i64.wrap (2 * (a0.length : Int)))) && decide ((IntKind.i64.wrap (2 * (a0.length : Int))) ≤ (IntKind.i64.wrap (2 * (a0.length : Int)))) && f2A 8 (IntKind.i64.wrap (2 * (a0.length : Int))).toNat) then
 (a1A (n0C) (a0, (List.replicate (IntKind.i64.wrap (2 * (a0.length : Int))).toNat (0 : Int)), a0, (a0.length : Int), 0, ())).bind fun j5 =>
 some j5.1
 else none
noncomputable def n1C (p1 : List Int × Int × Unit) : Option ((List Int × Int × Unit) ⊕ ((List Int × Unit))) :=
 bif (decide (p1.2.1 < 3)) then
 (y1C p1.1).bind fun y2 =>
 some (Sum.inl (y2, (IntKind.i64.wrap (p1.2.1 + 1)), ()))
 else
 some (Sum.inr (p1.1, ()))
noncomputable def i8B (p4 : List Int × Int × Unit) : Option ((List Int × Int × Unit) ⊕ ((List Int × Unit) ⊕ (Int × Unit))) :=
 bif (decide (p4.2.1 > 0)) then
 bif (a2A p4.2.1 p4.1.length) then
 bif (decide ((p4.1.getD p4.2.1.toNat 0) > 0)) then
 bif (a2A p4.2.1 p4.1.length) then
 (l5B (p4.1.getD p4.2.1.toNat 0)).bind fun y5 =>
 some (Sum.inr (Sum.inr ((IntKind.i64.wrap ((IntKind.i64.wrap ((IntKind.i64.wrap (64 * p4.2.1)) + y5)) - 1)), ())))
 else none
 else
 some (Sum.inl (p4.1, (IntKind.i64.wrap (p4.2.1 - 1)), ()))
 else none
 else
 some (Sum.inr (Sum.inl (p4.1, ())))
noncomputable def i1C (a0 : Int) : Option (Int) :=
 bif (a0 == 0) then
 some 0
 else
 (a1A (n1C) ([a0], 0, ())).bind fun j3 =>
 (a1A (i8B) (j3.1, (IntKind.i64.wrap ((j3.1.length : Int) - 1)), ())).bind fun j6 =>
 (match j6 with
 | .inl j7 =>
 (bif (a2A 0 j7.1.length) then
 (l5B (j7.1.getD 0 0)).bind fun y9 =>
 some (IntKind.i64.wrap (y9 - 1))
 else none)
 | .inr j8 =>
 (some j8.1))
noncomputable def z7B (p4 : Int × List Int × List Int × List Int × Unit) : Option ((Int × List Int × List Int × List Int × Unit) ⊕ ((List Int × Unit))) :=
 bif (decide (p4.1 < 6)) then
 (bif (a2A p4.1 7) then
 bif (a2A (IntKind.i64.wrap (p4.1 + 1)) 7) then
 bif (w0A (p4.2.2.2.1.getD p4.1.toNat 0) (p4.2.2.2.1.getD ((IntKind.i64.wrap (p4.1 + 1)).toNat) 0) 16) then
 (x7B (m6A (List.replicate 16 0) 0 (((p4.2.1.drop ((p4.2.2.2.1.getD p4.1.toNat 0).toNat)).take ((p4.2.2.2.1.getD ((IntKind.i64.wrap (p4.1 + 1)).toNat) 0).toNat - (p4.2.2.2.1.getD p4.1.toNat 0).toNat)).take 16))).bind fun y5 =>
 bif (decide (y5 > 0)) then
 (i1C y5).bind fun y6 =>
 bif (a2A p4.1 6) then
 some (p4.1, p4.2.1, (p4.2.2.1.set p4.1.toNat (if 255 < (IntKind.i64.wrap ((IntKind.i64.wrap (y6.tdiv 2)) + 1)) then 255 else (IntKind.i64.wrap ((IntKind.i64.wrap (y6.tdiv 2)) + 1)))), p4.2.2.2.1, ())
 else none
 else
 some (p4.1, p4.2.1, p4.2.2.1, p4.2.2.2.1, ())
 else none
 else none
 else none : Option ((Int × List Int × List Int × List Int × Unit))).bind fun j7 =>
 some (Sum.inl ((IntKind.i64.wrap (j7.1 + 1)), j7.2.1, j7.2.2.1, j7.2.2.2.1, ()))
 else
 some (Sum.inr (p4.2.2.1, ()))
noncomputable def i2C (a0 : List Int) : Option (List Int × Int) :=
 (bif (!(a0 == (List.replicate 16 0))) then
 (x7B a0).bind fun y1 =>
 some ((y1 == 0), a0, (List.replicate 6 0), ())
 else
 some (false, a0, (List.replicate 6 0), ()) : Option ((Bool × List Int × List Int × Unit))).bind fun j2 =>
 bif j2.1 then
 some (j2.2.2.1, 1)
 else
 (l6B).bind fun y3 =>
 (a1A (z7B) (0, j2.2.1, j2.2.2.1, y3, ())).bind fun j8 =>
 some (j8.1, 0)
noncomputable def r0B (a0 : List Int) (a1 : List Int) : Option (List Int × List Int × Int) :=
 ((x6B a0 a1).bind fun y1 =>
 bif (y1.2 == 0) then
 (i2C y1.1).bind fun y2 =>
 some (y2.2, y1.1, y2.1, ())
 else
 some (y1.2, y1.1, (List.replicate 6 0), ()) : Option ((Int × List Int × List Int × Unit))).bind fun j3 =>
 some (j3.2.1, (j3.2.2.1, j3.1))
noncomputable def i3C (a0 : Int) : Option (Bool) :=
 bif (decide (a0 ≥ 0)) then
 some (decide (a0 ≤ 1099511627776))
 else
 some false
noncomputable def n2C (p4 : Int × List Int × List Int × List Int × List Int × Unit) : Option ((Int × List Int × List Int × List Int × List Int × Unit) ⊕ ((List Int × List Int × List Int × Unit))) :=
 bif (decide (p4.1 < 16)) then
 bif (a2A p4.1 16) then
 bif (a2A p4.1 32) then
 (m4A (IntKind.i64.wrap ((p4.2.1.getD p4.1.toNat 0) + (p4.2.2.1.getD p4.1.toNat 0))) 8).bind fun y5 =>
 (x4C y5 16).bind fun y6 =>
 bif (a2A p4.1 16) then
 some (Sum.inl ((IntKind.i64.wrap (p4.1 + 1)), p4.2.1, p4.2.2.1, (p4.2.2.2.1.set p4.1.toNat y6), p4.2.2.2.2.1, ()))
 else none
 else none
 else none
 else
 some (Sum.inr (p4.2.2.1, p4.2.2.2.1, p4.2.2.2.2.1, ()))
noncomputable def y0A (a0 : List Int) (a1 : List Int) : Option (List Int × List Int × Int) :=
 ((q9B ((a0.drop 0).take 16) 1099511627776).bind fun y1 =>
 bif (!y1) then
 some (true, a0, a1, (List.replicate 16 0), (List.replicate 16 0), ())
 else
 (q9B ((a1.drop 0).take 32) 1099511627776).bind fun y2 =>
 some ((!y2), a0, a1, (List.replicate 16 0), (List.replicate 16 0), ()) : Option ((Bool × List Int × List Int × List Int × List Int × Unit))).bind fun j3 =>
 bif j3.1 then
 some (j3.2.2.2.1, (j3.2.2.2.2.1, 1))
 else
 (a1A (n2C) (0, j3.2.1, j3.2.2.1, j3.2.2.2.1, j3.2.2.2.2.1, ())).bind fun j7 =>
 some (j7.2.1, ((m6A j7.2.2.1 0 (((j7.1.drop 16).take 16).take 16)), 0))
noncomputable def n3C (p1 : List Int × Int × List Int × List Int × Unit) : Option ((List Int × Int × List Int × List Int × Unit) ⊕ ((List Int × List Int × Unit))) :=
 bif (decide (p1.2.1 < 6)) then
 bif (a2A p1.2.1 6) then
 bif (a2A p1.2.1 6) then
 some (Sum.inl (p1.1, (IntKind.i64.wrap (p1.2.1 + 1)), p1.2.2.1, (p1.2.2.2.1.set p1.2.1.toNat (if 0 < (if 255 < (p1.1.getD p1.2.1.toNat 0) then 255 else (p1.1.getD p1.2.1.toNat 0)) then (if 255 < (p1.1.getD p1.2.1.toNat 0) then 255 else (p1.1.getD p1.2.1.toNat 0)) else 0)), ()))
 else none
 else none
 else
 some (Sum.inr (p1.2.2.1, p1.2.2.2.1, ()))
noncomputable def a9B (a0 : List Int) : Option (Int) :=
 (a1A (n3C) (a0, 0, a0, a0, ())).bind fun j2 =>
 bif (!(j2.2.1 == j2.1)) then
 some 1
 else
 some 0
noncomputable def x8B (a0 : List Int × List Int × Bool × Bool × Int) : Option (Int) :=
 (y0A a0.1 [0, 0, 0, 0, 0, 0, 0, 0, 0, 0, 0, 0, 0, 0, 0, 0, 0, 0, 0, 0, 0, 0, 0, 0, 0, 0, 0, 0, 0, 0, 0, 0]).bind fun y1 =>
 (bif (y1.2.2 != 0) then
 some (true, a0, ())
 else
 bif a0.2.2.1 then
 some (a0.2.2.2.1, a0, ())
 else
 some (false, a0, ()) : Option ((Bool × (List Int × List Int × Bool × Bool × Int) × Unit))).bind fun j2 =>
 bif j2.1 then
 some 1
 else
 (a9B j2.2.1.2.1).bind fun y3 =>
 some y3
noncomputable def i4C (a0 : List Int × Int × Int × Int × List Int × List Int × Bool × Bool × Int) : Option (Int) :=
 (bif (decide (a0.2.1 ≥ 0)) then
 bif (decide (a0.2.1 ≤ 4)) then
 (i3C a0.2.2.1).bind fun y1 =>
 bif y1 then
 (i3C a0.2.2.2.1).bind fun y2 =>
 some (y2, a0, ())
 else
 some (false, a0, ())
 else
 some (false, a0, ())
 else
 some (false, a0, ()) : Option ((Bool × (List Int × Int × Int × Int × List Int × List Int × Bool × Bool × Int) × Unit))).bind fun j3 =>
 (bif (!j3.1) then
 some (true, j3.2.1, ())
 else
 (x5B j3.2.1.1).bind fun y4 =>
 some ((y4 != 0), j3.2.1, ()) : Option ((Bool × (List Int × Int × Int × Int × List Int × List Int × Bool × Bool × Int) × Unit))).bind fun j5 =>
 bif j5.1 then
 some 1
 else
 (x8B j5.2.1.2.2.2.2).bind fun y6 =>
 some y6
noncomputable def i5C (a0 : List Int) : Option (Int) :=
 (a9B a0).bind fun y1 =>
 bif (y1 != 0) then
 some 0
 else
 bif (a2A 0 6) then
 bif (a2A 1 6) then
 bif (a2A 2 6) then
 bif (a2A 3 6) then
 bif (a2A 4 6) then
 bif (a2A 5 6) then
 some (if (if (if (if (if (a0.getD 0 0) < (a0.getD 1 0) then (a0.getD 1 0) else (a0.getD 0 0)) < (a0.getD 2 0) then (a0.getD 2 0) else (if (a0.getD 0 0) < (a0.getD 1 0) then (a0.getD 1 0) else (a0.getD 0 0))) < (a0.getD 3 0) then (a0.getD 3 0) else (if (if (a0.getD 0 0) < (a0.getD 1 0) then (a0.getD 1 0) else (a0.getD 0 0)) < (a0.getD 2 0) then (a0.getD 2 0) else (if (a0.getD 0 0) < (a0.getD 1 0) then (a0.getD 1 0) else (a0.getD 0 0)))) < (a0.getD 4 0) then (a0.getD 4 0) else (if (if (if (a0.getD 0 0) < (a0.getD 1 0) then (a0.getD 1 0) else (a0.getD 0 0)) < (a0.getD 2 0) then (a0.getD 2 0) else (if (a0.getD 0 0) < (a0.getD 1 0) then (a0.getD 1 0) else (a0.getD 0 0))) < (a0.getD 3 0) then (a0.getD 3 0) else (if (if (a0.getD 0 0) < (a0.getD 1 0) then (a0.getD 1 0) else (a0.getD 0 0)) < (a0.getD 2 0) then (a0.getD 2 0) else (if (a0.getD 0 0) < (a0.getD 1 0) then (a0.getD 1 0) else (a0.getD 0 0))))) < (a0.getD 5 0) then (a0.getD 5 0) else (if (if (if (if (a0.getD 0 0) < (a0.getD 1 0) then (a0.getD 1 0) else (a0.getD 0 0)) < (a0.getD 2 0) then (a0.getD 2 0) else (if (a0.getD 0 0) < (a0.getD 1 0) then (a0.getD 1 0) else (a0.getD 0 0))) < (a0.getD 3 0) then (a0.getD 3 0) else (if (if (a0.getD 0 0) < (a0.getD 1 0) then (a0.getD 1 0) else (a0.getD 0 0)) < (a0.getD 2 0) then (a0.getD 2 0) else (if (a0.getD 0 0) < (a0.getD 1 0) then (a0.getD 1 0) else (a0.getD 0 0)))) < (a0.getD 4 0) then (a0.getD 4 0) else (if (if (if (a0.getD 0 0) < (a0.getD 1 0) then (a0.getD 1 0) else (a0.getD 0 0)) < (a0.getD 2 0) then (a0.getD 2 0) else (if (a0.getD 0 0) < (a0.getD 1 0) then (a0.getD 1 0) else (a0.getD 0 0))) < (a0.getD 3 0) then (a0.getD 3 0) else (if (if (a0.getD 0 0) < (a0.getD 1 0) then (a0.getD 1 0) else (a0.getD 0 0)) < (a0.getD 2 0) then (a0.getD 2 0) else (if (a0.getD 0 0) < (a0.getD 1 0) then (a0.getD 1 0) else (a0.getD 0 0))))))
 else none
 else none
 else none
 else none
 else none
 else none
noncomputable def m5B (p4 : Int × List Int × List Int × Unit) : Option ((Int × List Int × List Int × Unit) ⊕ (Unit ⊕ (Bool × Unit))) :=
 bif (decide (p4.1 < 6)) then
 bif (a2A p4.1 6) then
 bif (a2A p4.1 6) then
 (bif (decide ((IntKind.i64.wrap ((p4.2.1.getD p4.1.toNat 0) - (p4.2.2.1.getD p4.1.toNat 0))) < (-8))) then
 some (p4.1, true, p4.2.1, p4.2.2.1, ())
 else
 some (p4.1, (decide ((IntKind.i64.wrap ((p4.2.1.getD p4.1.toNat 0) - (p4.2.2.1.getD p4.1.toNat 0))) > 7)), p4.2.1, p4.2.2.1, ()) : Option ((Int × Bool × List Int × List Int × Unit))).bind fun j5 =>
 bif j5.2.1 then
 some (Sum.inr (Sum.inr (false, ())))
 else
 some (Sum.inl ((IntKind.i64.wrap (j5.1 + 1)), j5.2.2.1, j5.2.2.2.1, ()))
 else none
 else none
 else
 some (Sum.inr (Sum.inl ()))
noncomputable def r1B (a0 : List Int) (a1 : List Int) : Option (Bool) :=
 ((a9B a0).bind fun y1 =>
 bif (y1 != 0) then
 some (true, a0, a1, ())
 else
 (a9B a1).bind fun y2 =>
 some ((y2 != 0), a0, a1, ()) : Option ((Bool × List Int × List Int × Unit))).bind fun j3 =>
 bif j3.1 then
 some false
 else
 (a1A (m5B) (0, j3.2.1, j3.2.2.1, ())).bind fun j6 =>
 (match j6 with
 | .inl j7 =>
 (some true)
 | .inr j8 =>
 (some j8.1))
noncomputable def n4C (p2 : Int × Int × List Int × List Int × Int × Unit) : Option ((Int × Int × List Int × List Int × Int × Unit) ⊕ ((Int × List Int × List Int × Int × Unit))) :=
 bif (decide (p2.2.1 < 6)) then
 bif (a2A p2.2.1 6) then
 bif (a2A p2.2.1 6) then
 bif (a2A p2.2.1 6) then
 some (Sum.inl (p2.1, (IntKind.i64.wrap (p2.2.1 + 1)), p2.2.2.1, (p2.2.2.2.1.set p2.2.1.toNat (if (p2.2.2.2.1.getD p2.2.1.toNat 0) < (IntKind.i64.wrap (p2.2.2.2.2.1 - 8)) then (IntKind.i64.wrap (p2.2.2.2.2.1 - 8)) else (p2.2.2.2.1.getD p2.2.1.toNat 0))), (IntKind.i64.wrap ((if p2.2.2.2.2.1 < (p2.2.2.1.getD p2.2.1.toNat 0) then (p2.2.2.1.getD p2.2.1.toNat 0) else p2.2.2.2.2.1) - 12)), ()))
 else none
 else none
 else none
 else
 some (Sum.inr (p2.1, p2.2.2.1, p2.2.2.2.1, p2.2.2.2.2.1, ()))
noncomputable def c1D (i5 : Nat) (p4 : List Int × List Int × Int × Unit) : Option ((List Int × List Int × Int × Unit) ⊕ (Empty)) :=
 bif (a2A (i5 : Int) 6) then
 bif (a2A (i5 : Int) 6) then
 some (Sum.inl (p4.1, (p4.2.1.set ((i5 : Int).toNat) (if (p4.2.1.getD ((i5 : Int).toNat) 0) < (IntKind.i64.wrap (p4.2.2.1 - 8)) then (IntKind.i64.wrap (p4.2.2.1 - 8)) else (p4.2.1.getD ((i5 : Int).toNat) 0))), (IntKind.i64.wrap ((if p4.2.2.1 < (p4.1.getD i5 0) then (p4.1.getD i5 0) else p4.2.2.1) - 12)), ()))
 else none
 else none
noncomputable def i6C (a0 : List Int) : Option (List Int × Int) :=
 (a9B a0).bind fun y1 =>
 bif (y1 != 0) then
 some ((List.replicate 6 0), y1)
 else
 (a1A (n4C) (0, 0, a0, (List.replicate 6 0), 0, ())).bind fun j3 =>
 (w1A (c1D) 6 (j3.2.1, j3.2.2.1, 0, ())).bind fun r6 =>
 (match r6 with
 | .inl q7 =>
 (some (q7.2.1, 0))
 | .inr j8 => nomatch j8)
noncomputable def n5C (p2 : Int × Int × List Int × List Int × Unit) : Option ((Int × Int × List Int × List Int × Unit) ⊕ ((Int × Unit))) :=
 bif (decide (p2.2.1 < 6)) then
 bif (a2A p2.2.1 6) then
 bif (a2A (IntKind.i64.wrap (p2.2.1 + 1)) 7) then
 bif (a2A p2.2.1 7) then
 some (Sum.inl ((IntKind.i64.wrap (p2.1 + (IntKind.i64.wrap ((p2.2.2.1.getD p2.2.1.toNat 0) * (IntKind.i64.wrap ((p2.2.2.2.1.getD ((IntKind.i64.wrap (p2.2.1 + 1)).toNat) 0) - (p2.2.2.2.1.getD p2.2.1.toNat 0))))))), (IntKind.i64.wrap (p2.2.1 + 1)), p2.2.2.1, p2.2.2.2.1, ()))
 else none
 else none
 else none
 else
 some (Sum.inr (p2.1, ()))
noncomputable def y2C (a0 : List Int) : Option (Int) :=
 (l6B).bind fun y1 =>
 (a1A (n5C) (0, 0, a0, y1, ())).bind fun j3 =>
 some j3.1
noncomputable def z8B (p3 : Int × Int × List Int × Int × List Int × List Int × Unit) : Option ((Int × Int × List Int × Int × List Int × List Int × Unit) ⊕ ((Int × Int × List Int × Unit))) :=
 bif (decide (p3.2.1 < 6)) then
 (bif (a2A p3.2.1 6) then
 bif (a2A p3.2.1 6) then
 bif (a2A p3.2.1 6) then
 bif (a2A p3.2.1 6) then
 bif (a2A p3.2.1 6) then
 bif (decide ((p3.2.2.1.getD p3.2.1.toNat 0) ≤ (p3.2.2.2.2.2.1.getD p3.2.1.toNat 0))) then
 bif (a2A p3.2.1 6) then
 some (p3.1, p3.2.1, p3.2.2.1, p3.2.2.2.1, ((p3.2.2.2.2.1.set p3.2.1.toNat (if 0 < (if 7 < (IntKind.i64.wrap ((IntKind.i64.wrap ((IntKind.i64.wrap ((IntKind.i64.wrap ((p3.2.2.1.getD p3.2.1.toNat 0) - (p3.2.2.2.2.2.1.getD p3.2.1.toNat 0))) + 8)) - 1)).tdiv 8)) then 7 else (IntKind.i64.wrap ((IntKind.i64.wrap ((IntKind.i64.wrap ((IntKind.i64.wrap ((p3.2.2.1.getD p3.2.1.toNat 0) - (p3.2.2.2.2.2.1.getD p3.2.1.toNat 0))) + 8)) - 1)).tdiv 8))) then (if 7 < (IntKind.i64.wrap ((IntKind.i64.wrap ((IntKind.i64.wrap ((IntKind.i64.wrap ((p3.2.2.1.getD p3.2.1.toNat 0) - (p3.2.2.2.2.2.1.getD p3.2.1.toNat 0))) + 8)) - 1)).tdiv 8)) then 7 else (IntKind.i64.wrap ((IntKind.i64.wrap ((IntKind.i64.wrap ((IntKind.i64.wrap ((p3.2.2.1.getD p3.2.1.toNat 0) - (p3.2.2.2.2.2.1.getD p3.2.1.toNat 0))) + 8)) - 1)).tdiv 8))) else 0)).set p3.2.1.toNat 0), p3.2.2.2.2.2.1, ())
 else none
 else
 some (p3.1, p3.2.1, p3.2.2.1, p3.2.2.2.1, (p3.2.2.2.2.1.set p3.2.1.toNat (if 0 < (if 7 < (IntKind.i64.wrap ((IntKind.i64.wrap ((IntKind.i64.wrap ((IntKind.i64.wrap ((p3.2.2.1.getD p3.2.1.toNat 0) - (p3.2.2.2.2.2.1.getD p3.2.1.toNat 0))) + 8)) - 1)).tdiv 8)) then 7 else (IntKind.i64.wrap ((IntKind.i64.wrap ((IntKind.i64.wrap ((IntKind.i64.wrap ((p3.2.2.1.getD p3.2.1.toNat 0) - (p3.2.2.2.2.2.1.getD p3.2.1.toNat 0))) + 8)) - 1)).tdiv 8))) then (if 7 < (IntKind.i64.wrap ((IntKind.i64.wrap ((IntKind.i64.wrap ((IntKind.i64.wrap ((p3.2.2.1.getD p3.2.1.toNat 0) - (p3.2.2.2.2.2.1.getD p3.2.1.toNat 0))) + 8)) - 1)).tdiv 8)) then 7 else (IntKind.i64.wrap ((IntKind.i64.wrap ((IntKind.i64.wrap ((IntKind.i64.wrap ((p3.2.2.1.getD p3.2.1.toNat 0) - (p3.2.2.2.2.2.1.getD p3.2.1.toNat 0))) + 8)) - 1)).tdiv 8))) else 0)), p3.2.2.2.2.2.1, ())
 else none
 else none
 else none
 else none
 else none : Option ((Int × Int × List Int × Int × List Int × List Int × Unit))).bind fun j4 =>
 some (Sum.inl (j4.1, (IntKind.i64.wrap (j4.2.1 + 1)), j4.2.2.1, j4.2.2.2.1, j4.2.2.2.2.1, j4.2.2.2.2.2.1, ()))
 else
 some (Sum.inr (p3.1, p3.2.2.2.1, p3.2.2.2.2.1, ()))
noncomputable def m6B (i8 : Nat) (p7 : Int × List Int × Int × Unit) : Option ((Int × List Int × Int × Unit) ⊕ ((Int × List Int × Int × Unit))) :=
 (y2C p7.2.1).bind fun y9 =>
 bif (decide (y9 ≤ p7.1)) then
 some (Sum.inr (p7.1, p7.2.1, p7.2.2.1, ()))
 else
 bif ((p7.2.1.getD i8 0) == p7.2.2.1) then
 bif (a2A (i8 : Int) 6) then
 bif (a2A (i8 : Int) 6) then
 some (Sum.inl (p7.1, (p7.2.1.set ((i8 : Int).toNat) (IntKind.i64.wrap ((p7.2.1.getD ((i8 : Int).toNat) 0) - 1))), p7.2.2.1, ()))
 else none
 else none
 else
 some (Sum.inl (p7.1, p7.2.1, p7.2.2.1, ()))
noncomputable def z9B (p6 : Int × Int × List Int × Int × Unit) : Option ((Int × Int × List Int × Int × Unit) ⊕ ((List Int × Unit))) :=
 bif (decide (p6.2.2.2.1 > 0)) then
 (w1A (m6B) 6 (p6.2.1, p6.2.2.1, p6.2.2.2.1, ())).bind fun r10 =>
 (match r10 with
 | .inl q11 =>
 (some (Sum.inl (p6.1, q11.1, q11.2.1, (IntKind.i64.wrap (q11.2.2.1 - 1)), ())))
 | .inr j13 =>
 some (Sum.inr (j13.2.1, ())))
 else
 some (Sum.inr (p6.2.2.1, ()))
noncomputable def y1A (a0 : List Int) (a1 : Int) : Option (List Int × Int) :=
 (i6C a0).bind fun y1 =>
 (bif (y1.2 != 0) then
 some (y1.2, true, a0, a1, (List.replicate 6 0), y1.1, ())
 else
 some (y1.2, (decide (a1 < 0)), a0, a1, (List.replicate 6 0), y1.1, ()) : Option ((Int × Bool × List Int × Int × List Int × List Int × Unit))).bind fun j2 =>
 bif j2.2.1 then
 some (j2.2.2.2.2.1, 1)
 else
 (a1A (z8B) (j2.1, 0, j2.2.2.1, j2.2.2.2.1, j2.2.2.2.2.1, j2.2.2.2.2.2.1, ())).bind fun j5 =>
 (a1A (z9B) (j5.1, j5.2.1, j5.2.2.1, 7, ())).bind fun j14 =>
 some (j14.1, 0)
noncomputable def p1D (a0 : Int) : Option (Int × Int × Int) :=
 (bif (decide (a0 < 0)) then
 some (a0, true, ())
 else
 some (a0, (decide (a0 ≥ 6)), ()) : Option ((Int × Bool × Unit))).bind fun j1 =>
 bif j1.2.1 then
 some (0, (0, 1))
 else
 (l6B).bind fun y2 =>
 bif (a2A j1.1 7) then
 bif (a2A (IntKind.i64.wrap (j1.1 + 1)) 7) then
 some ((y2.getD j1.1.toNat 0), ((y2.getD ((IntKind.i64.wrap (j1.1 + 1)).toNat) 0), 0))
 else none
 else none
noncomputable def x9B (a0 : Int) : Option (Int × Int) :=
 (bif (decide (a0 < 0)) then
 some (a0, true, ())
 else
 some (a0, (decide (a0 > 255)), ()) : Option ((Int × Bool × Unit))).bind fun j1 =>
 bif j1.2.1 then
 some (0, 1)
 else
 bif (decide (0 ≤ (IntKind.i64.wrap (j1.1.tdiv 8)))) then
 some ((IntKind.i64.wrap ((IntKind.i64.wrap ((c9A .i64 (IntKind.i64.wrap (8 + (j1.1.tmod 8))) (IntKind.i64.wrap (j1.1.tdiv 8))).tdiv 8)) + 1)), 0)
 else none
noncomputable def y0B (a0 : Int) : Option (Int) :=
 bif (decide (0 ≤ (if 0 < (if 7 < a0 then 7 else a0) then (if 7 < a0 then 7 else a0) else 0))) then
 some (IntKind.i64.wrap ((c9A .i64 1 (if 0 < (if 7 < a0 then 7 else a0) then (if 7 < a0 then 7 else a0) else 0)) - 1))
 else none
noncomputable def y3C (a0 : Int) (a1 : Int) : Option (Int × Int) :=
 (x9B a0).bind fun y1 =>
 (bif (y1.2 != 0) then
 some (a1, y1.1, true, ())
 else
 bif (decide (a1 < 1)) then
 some (a1, y1.1, true, ())
 else
 some (a1, y1.1, (decide (a1 > 7)), ()) : Option ((Int × Int × Bool × Unit))).bind fun j2 =>
 bif j2.2.2.1 then
 some (0, 1)
 else
 (y0B j2.1).bind fun y3 =>
 bif (y3 != 0) then
 some ((IntKind.i64.wrap ((IntKind.i64.wrap ((IntKind.i64.wrap (j2.2.1 - 1)).tdiv y3)) + 1)), 0)
 else none
noncomputable def n6C (p6 : Int × Int × Int × Int × Int × List Int × Int × List Int × (List (Int × Int)) × List Int × Unit) : Option ((Int × Int × Int × Int × Int × List Int × Int × List Int × (List (Int × Int)) × List Int × Unit) ⊕ ((Int × List Int × Int × List Int × (List (Int × Int)) × List Int × Unit))) :=
 bif (decide (p6.2.2.2.2.1 < p6.2.2.1)) then
 (y0B p6.2.1).bind fun y7 =>
 bif (a2A p6.2.2.2.2.1 16) then
 some (Sum.inl (p6.1, p6.2.1, p6.2.2.1, p6.2.2.2.1, (IntKind.i64.wrap (p6.2.2.2.2.1 + 1)), p6.2.2.2.2.2.1, p6.2.2.2.2.2.2.1, p6.2.2.2.2.2.2.2.1, (p6.2.2.2.2.2.2.2.2.1.set p6.2.2.2.2.1.toNat (p6.2.2.2.1, y7)), p6.2.2.2.2.2.2.2.2.2.1, ()))
 else none
 else
 some (Sum.inr (p6.1, p6.2.2.2.2.2.1, p6.2.2.2.2.2.2.1, p6.2.2.2.2.2.2.2.1, p6.2.2.2.2.2.2.2.2.1, p6.2.2.2.2.2.2.2.2.2.1, ()))
noncomputable def d7B (p2 : Int × List Int × Int × List Int × (List (Int × Int)) × List Int × Unit) : Option ((Int × List Int × Int × List Int × (List (Int × Int)) × List Int × Unit) ⊕ ((Int × (List (Int × Int)) × List Int × Unit))) :=
 bif (decide (p2.2.2.1 < 6)) then
 (bif (a2A p2.2.2.1 6) then
 (bif (p2.1 != 0) then
 some (p2.1, p2.2.2.1, (p2.2.1.getD p2.2.2.1.toNat 0), p2.2.1, p2.2.2.1, true, p2.2.2.2.1, p2.2.2.2.2.1, p2.2.2.2.2.2.1, ())
 else
 some (p2.1, p2.2.2.1, (p2.2.1.getD p2.2.2.1.toNat 0), p2.2.1, p2.2.2.1, ((p2.2.1.getD p2.2.2.1.toNat 0) == 0), p2.2.2.2.1, p2.2.2.2.2.1, p2.2.2.2.2.2.1, ()) : Option ((Int × Int × Int × List Int × Int × Bool × List Int × (List (Int × Int)) × List Int × Unit))).bind fun j3 =>
 bif j3.2.2.2.2.2.1 then
 some (j3.1, j3.2.2.2.1, j3.2.2.2.2.1, j3.2.2.2.2.2.2.1, j3.2.2.2.2.2.2.2.1, j3.2.2.2.2.2.2.2.2.1, ())
 else
 (p1D j3.2.1).bind fun y4 =>
 bif (a2A j3.2.1 6) then
 (y3C (j3.2.2.2.2.2.2.1.getD j3.2.1.toNat 0) j3.2.2.1).bind fun y5 =>
 (a1A (n6C) (j3.1, j3.2.2.1, y4.2.1, y5.1, y4.1, j3.2.2.2.1, j3.2.2.2.2.1, j3.2.2.2.2.2.2.1, j3.2.2.2.2.2.2.2.1, j3.2.2.2.2.2.2.2.2.1, ())).bind fun j8 =>
 some (j8.1, j8.2.1, j8.2.2.1, j8.2.2.2.1, j8.2.2.2.2.1, j8.2.2.2.2.2.1, ())
 else none
 else none : Option ((Int × List Int × Int × List Int × (List (Int × Int)) × List Int × Unit))).bind fun j9 =>
 some (Sum.inl (j9.1, j9.2.1, (IntKind.i64.wrap (j9.2.2.1 + 1)), j9.2.2.2.1, j9.2.2.2.2.1, j9.2.2.2.2.2.1, ()))
 else
 some (Sum.inr (p2.1, p2.2.2.2.2.1, p2.2.2.2.2.2.1, ()))
noncomputable def l7B (a0 : List Int) : Option ((List (Int × Int)) × List Int × Int) :=
 (y1A a0 120).bind fun y1 =>
 (a1A (d7B) (y1.2, y1.1, 0, a0, (List.replicate 16 (0, 0)), y1.1, ())).bind fun j10 =>
 some (j10.2.1, (j10.2.2.1, j10.1))
noncomputable def y4C (a0 : Int) (a1 : Int) : Option (Int × Int) :=
 bif (decide (a1 < 1)) then
 some (0, 1)
 else
 bif (a1 != 0) then
 bif (a1 != 0) then
 ((bif (decide ((a0.tmod a1) > 0)) then
 some (a1, (IntKind.i64.wrap (a0.tdiv a1)), (a0.tmod a1), (decide ((a0.tmod a1) ≥ (IntKind.i64.wrap (a1 - (a0.tmod a1))))), ())
 else
 some (a1, (IntKind.i64.wrap (a0.tdiv a1)), (a0.tmod a1), false, ()) : Option ((Int × Int × Int × Bool × Unit))).bind fun j1 =>
 bif j1.2.2.2.1 then
 some ((IntKind.i64.wrap (j1.2.1 + 1)), ())
 else
 (bif (decide (j1.2.2.1 < 0)) then
 some (j1.2.1, (decide ((IntKind.i64.wrap (0 - j1.2.2.1)) ≥ (IntKind.i64.wrap (j1.1 + j1.2.2.1)))), ())
 else
 some (j1.2.1, false, ()) : Option ((Int × Bool × Unit))).bind fun j2 =>
 bif j2.2.1 then
 some ((IntKind.i64.wrap (j2.1 - 1)), ())
 else
 some (j2.1, ()) : Option ((Int × Unit))).bind fun j3 =>
 some (j3.1, 0)
 else none
 else none
noncomputable def a0C (p4 : List Int × Int × List Int × List Int × (List (Int × Int)) × Unit) : Option ((List Int × Int × List Int × List Int × (List (Int × Int)) × Unit) ⊕ ((List Int × List Int × Unit) ⊕ (Int × List Int × List Int × Unit))) :=
 bif (decide (p4.2.1 < 16)) then
 (bif (a2A p4.2.1 16) then
 bif (a2A p4.2.1 16) then
 bif ((((p4.2.2.2.2.1.getD p4.2.1.toNat (0, 0))).1) == 0) then
 some (Sum.inl (p4.1, p4.2.1, p4.2.2.1, p4.2.2.2.1, p4.2.2.2.2.1, ()))
 else
 bif (a2A p4.2.1 16) then
 (y4C (p4.1.getD p4.2.1.toNat 0) (((p4.2.2.2.2.1.getD p4.2.1.toNat (0, 0))).1)).bind fun y5 =>
 bif (y5.2 != 0) then
 some (Sum.inr (y5.2, p4.2.2.1, p4.2.2.2.1, ()))
 else
 bif (a2A p4.2.1 16) then
 bif (a2A p4.2.1 16) then
 bif (a2A p4.2.1 16) then
 some (Sum.inl (p4.1, p4.2.1, (p4.2.2.1.set p4.2.1.toNat (if (IntKind.i64.wrap (0 - (((p4.2.2.2.2.1.getD p4.2.1.toNat (0, 0))).2))) < (if ((p4.2.2.2.2.1.getD p4.2.1.toNat (0, 0))).2 < y5.1 then ((p4.2.2.2.2.1.getD p4.2.1.toNat (0, 0))).2 else y5.1) then (if ((p4.2.2.2.2.1.getD p4.2.1.toNat (0, 0))).2 < y5.1 then ((p4.2.2.2.2.1.getD p4.2.1.toNat (0, 0))).2 else y5.1) else (IntKind.i64.wrap (0 - (((p4.2.2.2.2.1.getD p4.2.1.toNat (0, 0))).2))))), p4.2.2.2.1, p4.2.2.2.2.1, ()))
 else none
 else none
 else none
 else none
 else none
 else none : Option ((List Int × Int × List Int × List Int × (List (Int × Int)) × Unit) ⊕ (Int × List Int × List Int × Unit))).bind fun j6 =>
 (match j6 with
 | .inl j7 =>
 (some (Sum.inl (j7.1, (IntKind.i64.wrap (j7.2.1 + 1)), j7.2.2.1, j7.2.2.2.1, j7.2.2.2.2.1, ())))
 | .inr j8 =>
 (some (Sum.inr (Sum.inr (j8.1, j8.2.1, j8.2.2.1, ())))))
 else
 some (Sum.inr (Sum.inl (p4.2.2.1, p4.2.2.2.1, ())))
noncomputable def y5C (a0 : List Int) (a1 : List Int) : Option (List Int × List Int × Int) :=
 (l7B a1).bind fun y1 =>
 (i2C a0).bind fun y2 =>
 (bif (y1.2.2 != 0) then
 some (true, a0, (List.replicate 16 0), y1.2.1, y1.1, ())
 else
 some ((y2.2 != 0), a0, (List.replicate 16 0), y1.2.1, y1.1, ()) : Option ((Bool × List Int × List Int × List Int × (List (Int × Int)) × Unit))).bind fun j3 =>
 bif j3.1 then
 some (j3.2.2.1, ([0, 0, 0, 0, 0, 0], 1))
 else
 (a1A (a0C) (j3.2.1, 0, j3.2.2.1, j3.2.2.2.1, j3.2.2.2.2.1, ())).bind fun j9 =>
 (match j9 with
 | .inl j10 =>
 (some (j10.1, (j10.2.1, 0)))
 | .inr j11 =>
 (some (j11.2.1, (j11.2.2.1, j11.1))))
noncomputable def i9B (p2 : Int × List Int × Int × List Int × (List (Int × Int)) × List Int × Unit) : Option ((Int × List Int × Int × List Int × (List (Int × Int)) × List Int × Unit) ⊕ ((Int × List Int × List Int × Unit))) :=
 bif (decide (p2.2.2.1 < 16)) then
 bif (a2A p2.2.2.1 16) then
 bif (a2A p2.2.2.1 16) then
 bif (a2A p2.2.2.1 16) then
 bif (a2A p2.2.2.1 16) then
 some (Sum.inl (p2.1, p2.2.1, (IntKind.i64.wrap (p2.2.2.1 + 1)), p2.2.2.2.1, p2.2.2.2.2.1, (p2.2.2.2.2.2.1.set p2.2.2.1.toNat (if (IntKind.i64.wrap (0 - (((p2.2.2.2.2.1.getD p2.2.2.1.toNat (0, 0))).2))) < (if ((p2.2.2.2.2.1.getD p2.2.2.1.toNat (0, 0))).2 < (p2.2.1.getD p2.2.2.1.toNat 0) then ((p2.2.2.2.2.1.getD p2.2.2.1.toNat (0, 0))).2 else (p2.2.1.getD p2.2.2.1.toNat 0)) then (if ((p2.2.2.2.2.1.getD p2.2.2.1.toNat (0, 0))).2 < (p2.2.1.getD p2.2.2.1.toNat 0) then ((p2.2.2.2.2.1.getD p2.2.2.1.toNat (0, 0))).2 else (p2.2.1.getD p2.2.2.1.toNat 0)) else (IntKind.i64.wrap (0 - (((p2.2.2.2.2.1.getD p2.2.2.1.toNat (0, 0))).2))))), ()))
 else none
 else none
 else none
 else none
 else
 some (Sum.inr (p2.1, p2.2.2.2.1, p2.2.2.2.2.2.1, ()))
noncomputable def y1B (a0 : List Int) (a1 : List Int) : Option (Bool) :=
 (l7B a1).bind fun y1 =>
 (a1A (i9B) (y1.2.2, a0, 0, a0, y1.1, a0, ())).bind fun j3 =>
 bif (j3.1 == 0) then
 some (j3.2.2.1 == j3.2.1)
 else
 some false
noncomputable def q9A (a0 : Int × List Int × List Int) (a1 : List Int) : Option (Int) :=
 ((a9B a1).bind fun y1 =>
 bif (y1 == 0) then
 (y1B a0.2.2 a0.2.1).bind fun y2 =>
 some (y2, (a0.1, (a0.2.1, a0.2.2)), a1, (List.replicate 16 0), ())
 else
 some (false, (a0.1, (a0.2.1, a0.2.2)), a1, (List.replicate 16 0), ()) : Option ((Bool × (Int × List Int × List Int) × List Int × List Int × Unit))).bind fun j3 =>
 (bif (j3.2.1.1 == 0) then
 some (j3.1, ())
 else
 bif (j3.2.1.1 == 1) then
 bif j3.1 then
 (r1B j3.2.1.2.1 j3.2.2.1).bind fun y4 =>
 some (y4, ())
 else
 some (false, ())
 else
 bif (j3.2.1.1 == 2) then
 bif j3.1 then
 some ((j3.2.1.2.2 == j3.2.2.2.1), ())
 else
 some (false, ())
 else
 some (false, ()) : Option ((Bool × Unit))).bind fun j5 =>
 bif (!j5.1) then
 some 1
 else
 some 0
noncomputable def h7B (a0 : List Int) : Option (Int) :=
 bif (a2A (IntKind.i64.wrap ((a0.length : Int) - 1)) a0.length) then
 some (a0.getD ((IntKind.i64.wrap ((a0.length : Int) - 1)).toNat) 0)
 else none
noncomputable def d8B (p1 : List Int × List Int × Int × Int × List Int × List Int × Unit) : Option ((List Int × List Int × Int × Int × List Int × List Int × Unit) ⊕ ((List Int × List Int × List Int × Unit) ⊕ (Int × List Int × Unit))) :=
 bif (decide (p1.2.2.2.1 < p1.2.2.1)) then
 bif (a2A p1.2.2.2.1 p1.2.1.length) then
 (bif (decide ((p1.2.1.getD p1.2.2.2.1.toNat 0) < 1)) then
 some (p1.1, (p1.2.1.getD p1.2.2.2.1.toNat 0), p1.2.1, p1.2.2.1, p1.2.2.2.1, true, p1.2.2.2.2.1, p1.2.2.2.2.2.1, ())
 else
 (h7B p1.2.2.2.2.2.1).bind fun y2 =>
 some (p1.1, (p1.2.1.getD p1.2.2.2.1.toNat 0), p1.2.1, p1.2.2.1, p1.2.2.2.1, (decide ((p1.2.1.getD p1.2.2.2.1.toNat 0) > (IntKind.i64.wrap (16384 - y2)))), p1.2.2.2.2.1, p1.2.2.2.2.2.1, ()) : Option ((List Int × Int × List Int × Int × Int × Bool × List Int × List Int × Unit))).bind fun j3 =>
 bif j3.2.2.2.2.2.1 then
 some (Sum.inr (Sum.inr (1, [], ())))
 else
 (h7B j3.2.2.2.2.2.2.2.1).bind fun y4 =>
 bif (f2A 8 (j3.2.2.2.2.2.2.2.1 ++ [(IntKind.i64.wrap (y4 + j3.2.1))]).length) then
 some (Sum.inl (j3.1, j3.2.2.1, j3.2.2.2.1, (IntKind.i64.wrap (j3.2.2.2.2.1 + 1)), j3.2.2.2.2.2.2.1, (j3.2.2.2.2.2.2.2.1 ++ [(IntKind.i64.wrap (y4 + j3.2.1))]), ()))
 else none
 else none
 else
 some (Sum.inr (Sum.inl (p1.1, p1.2.2.2.2.1, p1.2.2.2.2.2.1, ())))
noncomputable def c9B (a0 : List Int) : Option (List Int × Int) :=
 bif (decide ((a0.length : Int) > 256)) then
 some ([], 1)
 else
 bif (decide (0 ≤ 1) && decide (1 ≤ (IntKind.i64.wrap ((a0.length : Int) + 1))) && f2A 8 (IntKind.i64.wrap ((a0.length : Int) + 1)).toNat) then
 (a1A (d8B) (a0, a0, (a0.length : Int), 0, [], (List.replicate 1 (0 : Int)), ())).bind fun j5 =>
 (match j5 with
 | .inl j6 =>
 (bif ((j6.1.length : Int) == 0) then
 some ([], 1)
 else
 some (j6.2.2.1, 0))
 | .inr j7 =>
 (some (j7.2.1, j7.1)))
 else none
noncomputable def y2B : Option (List Int) :=
 (c9B [6, 9, 1]).bind fun y1 =>
 some y1.1
noncomputable def i8E (a0 : Int) (a1 : Int) : Option (Int × Int) :=
 (i0C a0 a1).bind fun y1 =>
 some (y1.1, y1.2)
noncomputable def n7C (p3 : List Int × Int × Unit) : Option ((List Int × Int × Unit) ⊕ ((List Int × Unit))) :=
 bif (decide (p3.2.1 < (p3.1.length : Int))) then
 bif (w0A p3.2.1 (p3.1.length : Int) p3.1.length) then
 bif (w0A 0 p3.2.1 p3.1.length) then
 some (Sum.inl ((m6A p3.1 p3.2.1.toNat (((p3.1.drop 0).take (p3.2.1.toNat - 0)).take ((p3.1.length : Int).toNat - p3.2.1.toNat))), (IntKind.i64.wrap (p3.2.1 + (((((p3.1.drop 0).take (p3.2.1.toNat - 0)).take ((p3.1.length : Int).toNat - p3.2.1.toNat)).length : Nat) : Int))), ()))
 else none
 else none
 else
 some (Sum.inr (p3.1, ()))
noncomputable def y8C (a0 : List Int) (a1 : Int) : Option (List Int) :=
 bif (decide (a1 < 0)) then
 none
 else
 (i8E (IntKind.u64.wrap (a0.length : Int)) (IntKind.u64.wrap a1)).bind fun y1 =>
 (bif (decide (y1.1 > 0)) then
 some (a0, y1.2, true, ())
 else
 some (a0, y1.2, (decide (y1.2 > 9223372036854775807)), ()) : Option ((List Int × Int × Bool × Unit))).bind fun j2 =>
 bif j2.2.2.1 then
 none
 else
 bif (decide (0 ≤ (IntKind.i64.wrap j2.2.1)) && decide ((IntKind.i64.wrap j2.2.1) ≤ (IntKind.i64.wrap j2.2.1)) && f2A 8 (IntKind.i64.wrap j2.2.1).toNat) then
 (a1A (n7C) ((m6A (List.replicate (IntKind.i64.wrap j2.2.1).toNat (0 : Int)) 0 (j2.1.take ((List.replicate (IntKind.i64.wrap j2.2.1).toNat (0 : Int)).length))), (((j2.1.take ((List.replicate (IntKind.i64.wrap j2.2.1).toNat (0 : Int)).length)).length : Nat) : Int), ())).bind fun j4 =>
 some j4.1
 else none
noncomputable def y9C (a0 : Int) : Option (List Int × Int) :=
 (bif (decide (a0 < 1)) then
 some (a0, true, [], ())
 else
 some (a0, (decide (a0 > 256)), [], ()) : Option ((Int × Bool × List Int × Unit))).bind fun j1 =>
 bif j1.2.1 then
 some ([], 1)
 else
 (y8C [1] j1.1).bind fun y2 =>
 (c9B y2).bind fun y3 =>
 some (y3.1, y3.2)
noncomputable def i7C : Option (List Int) :=
 (y9C 256).bind fun y1 =>
 some y1.1
noncomputable def i8C : Option (List Int) :=
 (c9B [1, 1, 2, 3, 5, 9, 16, 30, 60, 30, 16, 9, 5, 3, 2, 1]).bind fun y1 =>
 some y1.1
noncomputable def n8C (p3 : Int × Int × List Int × Unit) : Option ((Int × Int × List Int × Unit) ⊕ ((Int × Unit))) :=
 bif (a2A p3.2.1 7) then
 bif (decide ((p3.2.2.1.getD p3.2.1.toNat 0) > p3.1)) then
 some (Sum.inl (p3.1, (IntKind.i64.wrap (p3.2.1 - 1)), p3.2.2.1, ()))
 else
 some (Sum.inr (p3.2.1, ()))
 else none
noncomputable def y3B (a0 : Int) : Option (Int × Int) :=
 (bif (decide (a0 < 0)) then
 some (a0, true, ())
 else
 some (a0, (decide (a0 ≥ 16)), ()) : Option ((Int × Bool × Unit))).bind fun j1 =>
 bif j1.2.1 then
 some (0, 1)
 else
 (l6B).bind fun y2 =>
 (a1A (n8C) (j1.1, 5, y2, ())).bind fun j4 =>
 some (j4.1, 0)
noncomputable def n9C (p1 : Int × List Int × Int × Int × List Int × Unit) : Option ((Int × List Int × Int × Int × List Int × Unit) ⊕ ((List Int × List Int × Unit))) :=
 bif (decide (p1.2.2.2.1 < p1.2.2.1)) then
 bif (a2A p1.2.2.2.1 p1.2.1.length) then
 some (Sum.inl (p1.1, (p1.2.1.set p1.2.2.2.1.toNat (IntKind.i64.wrap ((if (IntKind.i64.wrap ((IntKind.i64.wrap (2 * p1.1)) - p1.2.2.2.1)) < p1.2.2.2.1 then (IntKind.i64.wrap ((IntKind.i64.wrap (2 * p1.1)) - p1.2.2.2.1)) else p1.2.2.2.1) + 1))), p1.2.2.1, (IntKind.i64.wrap (p1.2.2.2.1 + 1)), p1.2.2.2.2.1, ()))
 else none
 else
 some (Sum.inr (p1.2.1, p1.2.2.2.2.1, ()))
noncomputable def i9C (a0 : Int) : Option (List Int) :=
 bif (decide (0 ≤ (IntKind.i64.wrap ((IntKind.i64.wrap (2 * a0)) + 1))) && decide ((IntKind.i64.wrap ((IntKind.i64.wrap (2 * a0)) + 1)) ≤ (IntKind.i64.wrap ((IntKind.i64.wrap (2 * a0)) + 1))) && f2A 8 (IntKind.i64.wrap ((IntKind.i64.wrap (2 * a0)) + 1)).toNat) then
 (a1A (n9C) (a0, (List.replicate (IntKind.i64.wrap ((IntKind.i64.wrap (2 * a0)) + 1)).toNat (0 : Int)), ((List.replicate (IntKind.i64.wrap ((IntKind.i64.wrap (2 * a0)) + 1)).toNat (0 : Int)).length : Int), 0, [], ())).bind fun j2 =>
 (c9B j2.1).bind fun y3 =>
 some y3.1
 else none
noncomputable def o0C (p4 : List Int × Int × (Int × List Int × List Int) × List Int × List Int × List Int × List (List Int) × Unit) : Option ((List Int × Int × (Int × List Int × List Int) × List Int × List Int × List Int × List (List Int) × Unit) ⊕ ((List Int × (Int × List Int × List Int) × List Int × List Int × List Int × List (List Int) × Unit))) :=
 bif (decide (p4.2.1 < 6)) then
 bif (a2A p4.2.1 6) then
 bif (a2A p4.2.1 6) then
 some (Sum.inl (p4.1, (IntKind.i64.wrap (p4.2.1 + 1)), (p4.2.2.1.1, (p4.2.2.1.2.1, p4.2.2.1.2.2)), p4.2.2.2.1, (p4.2.2.2.2.1.set p4.2.1.toNat (IntKind.i64.wrap ((p4.2.2.2.2.1.getD p4.2.1.toNat 0) - 8))), p4.2.2.2.2.2.1, p4.2.2.2.2.2.2.1, ()))
 else none
 else none
 else
 some (Sum.inr (p4.1, (p4.2.2.1.1, (p4.2.2.1.2.1, p4.2.2.1.2.2)), p4.2.2.2.1, p4.2.2.2.2.1, p4.2.2.2.2.2.1, p4.2.2.2.2.2.2.1, ()))
noncomputable def o1C (p7 : List Int × Int × (Int × List Int × List Int) × List Int × List Int × List Int × List (List Int) × Unit) : Option ((List Int × Int × (Int × List Int × List Int) × List Int × List Int × List Int × List (List Int) × Unit) ⊕ ((List Int × (Int × List Int × List Int) × List Int × List (List Int) × Unit))) :=
 bif (decide (p7.2.1 < 6)) then
 bif (a2A p7.2.1 6) then
 bif (a2A p7.2.1 6) then
 bif (f2A 8 (p7.2.2.2.2.2.1 ++ [(IntKind.i64.wrap ((p7.2.2.1.2.1.getD p7.2.1.toNat 0) - (p7.2.2.2.2.1.getD p7.2.1.toNat 0)))]).length) then
 bif (f2A 24 (p7.2.2.2.2.2.2.1 ++ [p7.2.2.2.1]).length) then
 bif (a2A p7.2.1 6) then
 bif (a2A p7.2.1 6) then
 some (Sum.inl (p7.1, (IntKind.i64.wrap (p7.2.1 + 1)), (p7.2.2.1.1, ((p7.2.2.1.2.1.set p7.2.1.toNat (IntKind.i64.wrap ((IntKind.i64.wrap ((p7.2.2.1.2.1.getD p7.2.1.toNat 0) - (p7.2.2.2.2.1.getD p7.2.1.toNat 0))) + (p7.2.2.2.2.1.getD p7.2.1.toNat 0)))), p7.2.2.1.2.2)), p7.2.2.2.1, p7.2.2.2.2.1, (p7.2.2.2.2.2.1 ++ [(IntKind.i64.wrap ((p7.2.2.1.2.1.getD p7.2.1.toNat 0) - (p7.2.2.2.2.1.getD p7.2.1.toNat 0)))]), (p7.2.2.2.2.2.2.1 ++ [p7.2.2.2.1]), ()))
 else none
 else none
 else none
 else none
 else none
 else none
 else
 some (Sum.inr (p7.1, (p7.2.2.1.1, (p7.2.2.1.2.1, p7.2.2.1.2.2)), p7.2.2.2.2.2.1, p7.2.2.2.2.2.2.1, ()))
noncomputable def a1C (p10 : List Int × Int × (Int × List Int × List Int) × List Int × List Int × List (List Int) × Unit) : Option ((List Int × Int × (Int × List Int × List Int) × List Int × List Int × List (List Int) × Unit) ⊕ ((List Int × (Int × List Int × List Int) × List Int × List (List Int) × Unit))) :=
 bif (decide (p10.2.1 < 16)) then
 ((y3B p10.2.1).bind fun y11 =>
 bif (a2A y11.1 6) then
 bif ((p10.2.2.2.1.getD y11.1.toNat 0) == 0) then
 some (p10.1, p10.2.1, (p10.2.2.1.1, (p10.2.2.1.2.1, p10.2.2.1.2.2)), p10.2.2.2.1, p10.2.2.2.2.1, p10.2.2.2.2.2.1, ())
 else
 bif (a2A y11.1 6) then
 (y0B (p10.2.2.2.1.getD y11.1.toNat 0)).bind fun y12 =>
 bif (a2A p10.2.1 16) then
 (i9C y12).bind fun y13 =>
 bif (f2A 8 (p10.2.2.2.2.1 ++ [(IntKind.i64.wrap ((p10.2.2.1.2.2.getD p10.2.1.toNat 0) + y12))]).length) then
 bif (f2A 24 (p10.2.2.2.2.2.1 ++ [y13]).length) then
 bif (a2A p10.2.1 16) then
 some (p10.1, p10.2.1, (p10.2.2.1.1, (p10.2.2.1.2.1, (p10.2.2.1.2.2.set p10.2.1.toNat (IntKind.i64.wrap ((IntKind.i64.wrap ((p10.2.2.1.2.2.getD p10.2.1.toNat 0) + y12)) - y12))))), p10.2.2.2.1, (p10.2.2.2.2.1 ++ [(IntKind.i64.wrap ((p10.2.2.1.2.2.getD p10.2.1.toNat 0) + y12))]), (p10.2.2.2.2.2.1 ++ [y13]), ())
 else none
 else none
 else none
 else none
 else none
 else none : Option ((List Int × Int × (Int × List Int × List Int) × List Int × List Int × List (List Int) × Unit))).bind fun j14 =>
 some (Sum.inl (j14.1, (IntKind.i64.wrap (j14.2.1 + 1)), (j14.2.2.1.1, (j14.2.2.1.2.1, j14.2.2.1.2.2)), j14.2.2.2.1, j14.2.2.2.2.1, j14.2.2.2.2.2.1, ()))
 else
 some (Sum.inr (p10.1, (p10.2.2.1.1, (p10.2.2.1.2.1, p10.2.2.1.2.2)), p10.2.2.2.2.1, p10.2.2.2.2.2.1, ()))
noncomputable def y4B (a0 : Int × List Int × List Int) (a1 : List Int) : Option (List Int × List (List Int)) :=
 ((y2B).bind fun y1 =>
 bif (f2A 8 [a0.1].length) then
 bif (f2A 24 [y1].length) then
 (i7C).bind fun y2 =>
 (bif (a0.1 == 1) then
 (i8C).bind fun y3 =>
 (a1A (o0C) (a1, 0, (a0.1, (a0.2.1, a0.2.2)), y3, a1, [a0.1], [y1], ())).bind fun j5 =>
 some (j5.1, (j5.2.1.1, (j5.2.1.2.1, j5.2.1.2.2)), j5.2.2.1, j5.2.2.2.1, j5.2.2.2.2.1, j5.2.2.2.2.2.1, ())
 else
 some (a1, (a0.1, (a0.2.1, a0.2.2)), y2, (List.replicate 6 0), [a0.1], [y1], ()) : Option ((List Int × (Int × List Int × List Int) × List Int × List Int × List Int × List (List Int) × Unit))).bind fun j6 =>
 (a1A (o1C) (j6.1, 0, (j6.2.1.1, (j6.2.1.2.1, j6.2.1.2.2)), j6.2.2.1, j6.2.2.2.1, j6.2.2.2.2.1, j6.2.2.2.2.2.1, ())).bind fun j8 =>
 bif (j8.2.1.1 == 2) then
 some (j8.2.2.1, j8.2.2.2.1, ())
 else
 (y1A j8.2.1.2.1 120).bind fun y9 =>
 bif (y9.2 != 0) then
 some (j8.2.2.1, j8.2.2.2.1, ())
 else
 (a1A (a1C) (j8.1, 0, (j8.2.1.1, (j8.2.1.2.1, j8.2.1.2.2)), y9.1, j8.2.2.1, j8.2.2.2.1, ())).bind fun j15 =>
 some (j15.2.2.1, j15.2.2.2.1, ())
 else none
 else none : Option ((List Int × List (List Int) × Unit))).bind fun j16 =>
 some (j16.1, j16.2.1)
noncomputable def p2D : Option (Int × Int × Int × List Int × Int) :=
 some (0, (4294967295, (0, ([], 0))))
noncomputable def d0B (a0 : Int × Int) : Option (Int × Int) :=
 bif (decide (a0.2 < 2147483648)) then
 some (0, 0)
 else
 bif (decide (a0.1 ≥ 2147483648)) then
 some (2147483648, 1)
 else
 (bif (decide (a0.1 ≥ 1073741824)) then
 some ((decide (a0.2 < 3221225472)), ())
 else
 some (false, ()) : Option ((Bool × Unit))).bind fun j1 =>
 bif j1.1 then
 some (1073741824, 2)
 else
 some (0, 3)
noncomputable def d1B (a0 : Int × Int) : Option (Bool) :=
 (d0B (a0.1, a0.2)).bind fun y1 =>
 bif (decide (a0.1 < a0.2)) then
 some (y1.2 == 3)
 else
 some false
noncomputable def v9A (a0 : List Int × Int) : Option (Int) :=
 (bif (decide (a0.2 < 0)) then
 some (true, (a0.1, a0.2), ())
 else
 bif (decide (a0.2 > 65536)) then
 some (true, (a0.1, a0.2), ())
 else
 some (((a0.1.length : Int) != (IntKind.i64.wrap ((IntKind.i64.wrap (a0.2 + 7)).tdiv 8))), (a0.1, a0.2), ()) : Option ((Bool × (List Int × Int) × Unit))).bind fun j1 =>
 bif j1.1 then
 some 1
 else
 (bif (decide ((j1.2.1.2.tmod 8) > 0)) then
 bif (a2A (IntKind.i64.wrap ((j1.2.1.1.length : Int) - 1)) j1.2.1.1.length) then
 bif (decide (0 ≤ (j1.2.1.2.tmod 8))) then
 some (((c9A .u8 (j1.2.1.1.getD ((IntKind.i64.wrap ((j1.2.1.1.length : Int) - 1)).toNat) 0) (j1.2.1.2.tmod 8)) != 0), ())
 else none
 else none
 else
 some (false, ()) : Option ((Bool × Unit))).bind fun j2 =>
 bif j2.1 then
 some 1
 else
 some 0
noncomputable def o2C (p3 : List Int × Int × Int × List Int × Unit) : Option ((List Int × Int × Int × List Int × Unit) ⊕ (Unit ⊕ (Int × Unit))) :=
 bif (decide (p3.2.2.1 < p3.2.1)) then
 bif (a2A p3.2.2.1 p3.1.length) then
 bif (a2A p3.2.2.1 p3.2.2.2.1.length) then
 bif (decide ((p3.1.getD p3.2.2.1.toNat 0) ≤ (p3.2.2.2.1.getD p3.2.2.1.toNat 0))) then
 some (Sum.inr (Sum.inr (1, ())))
 else
 some (Sum.inl (p3.1, p3.2.1, (IntKind.i64.wrap (p3.2.2.1 + 1)), p3.2.2.2.1, ()))
 else none
 else none
 else
 some (Sum.inr (Sum.inl ()))
noncomputable def y2A (a0 : List Int) : Option (Int) :=
 (bif (decide ((a0.length : Int) < 2)) then
 some (true, a0, ())
 else
 bif (decide ((a0.length : Int) > 257)) then
 some (true, a0, ())
 else
 bif (a2A 0 a0.length) then
 bif ((a0.getD 0 0) != 0) then
 some (true, a0, ())
 else
 (h7B a0).bind fun y1 =>
 some ((decide (y1 > 16384)), a0, ())
 else none : Option ((Bool × List Int × Unit))).bind fun j2 =>
 bif j2.1 then
 some 1
 else
 bif (w0A 1 (j2.2.1.length : Int) j2.2.1.length) then
 (a1A (o2C) (((j2.2.1.take (j2.2.1.length : Int).toNat).drop 1), (((j2.2.1.take (j2.2.1.length : Int).toNat).drop 1).length : Int), 0, j2.2.1, ())).bind fun j4 =>
 (match j4 with
 | .inl j5 =>
 (some 0)
 | .inr j6 =>
 (some j6.1))
 else none
noncomputable def r2B (a0 : List Int) (a1 : Int) : Option (Int × Int × Int) :=
 ((y2A a0).bind fun y1 =>
 bif (y1 != 0) then
 some (a1, true, a0, ())
 else
 bif (decide (a1 < 0)) then
 some (a1, true, a0, ())
 else
 some (a1, (decide (a1 > (IntKind.i64.wrap ((a0.length : Int) - 2)))), a0, ()) : Option ((Int × Bool × List Int × Unit))).bind fun j2 =>
 bif j2.2.1 then
 some (0, (0, 1))
 else
 bif (a2A j2.1 j2.2.2.1.length) then
 bif (a2A (IntKind.i64.wrap (j2.1 + 1)) j2.2.2.1.length) then
 some ((j2.2.2.1.getD j2.1.toNat 0), ((j2.2.2.1.getD ((IntKind.i64.wrap (j2.1 + 1)).toNat) 0), 0))
 else none
 else none
noncomputable def y5B (a0 : List Int) : Option (Int) :=
 (y2A a0).bind fun y1 =>
 bif (y1 != 0) then
 some 0
 else
 (h7B a0).bind fun y2 =>
 some y2
noncomputable def z1C (a0 : Int) (a1 : Int) : Option (Bool) :=
 bif (decide (a1 ≥ 0)) then
 bif (decide (a1 ≤ 64)) then
 (l5B a0).bind fun y1 =>
 some (decide (y1 ≤ a1))
 else
 some false
 else
 some false
noncomputable def l8B (a0 : List Int) : Option (List Int) :=
 bif f2A 1 ([] ++ a0).length then some ([] ++ a0) else none
noncomputable def a2C (p1 : Int × Int × (List Int × Int) × (List Int × Int) × Unit) : Option ((Int × Int × (List Int × Int) × (List Int × Int) × Unit) ⊕ (((List Int × Int) × (List Int × Int) × Unit))) :=
 bif (decide (p1.2.1 > 0)) then
 (bif ((d4A .and .i64 (IntKind.i64.wrap (0 - p1.2.2.1.2)) 7) == 0) then
 bif (f2A 1 (p1.2.2.1.1 ++ [0]).length) then
 some (p1.1, p1.2.1, 8, ((p1.2.2.1.1 ++ [0]), p1.2.2.1.2), (p1.2.2.2.1.1, p1.2.2.2.1.2), ())
 else none
 else
 some (p1.1, p1.2.1, (d4A .and .i64 (IntKind.i64.wrap (0 - p1.2.2.1.2)) 7), (p1.2.2.1.1, p1.2.2.1.2), (p1.2.2.2.1.1, p1.2.2.2.1.2), ()) : Option ((Int × Int × Int × (List Int × Int) × (List Int × Int) × Unit))).bind fun j2 =>
 bif (decide (0 ≤ (IntKind.i64.wrap (j2.2.1 - (if j2.2.1 < j2.2.2.1 then j2.2.1 else j2.2.2.1))))) then
 bif (decide (0 ≤ (if j2.2.1 < j2.2.2.1 then j2.2.1 else j2.2.2.1))) then
 bif (a2A (IntKind.i64.wrap ((j2.2.2.2.1.1.length : Int) - 1)) j2.2.2.2.1.1.length) then
 bif (decide (0 ≤ (IntKind.i64.wrap (j2.2.2.1 - (if j2.2.1 < j2.2.2.1 then j2.2.1 else j2.2.2.1))))) then
 bif (a2A (IntKind.i64.wrap ((j2.2.2.2.1.1.length : Int) - 1)) j2.2.2.2.1.1.length) then
 some (Sum.inl (j2.1, (IntKind.i64.wrap (j2.2.1 - (if j2.2.1 < j2.2.2.1 then j2.2.1 else j2.2.2.1))), ((j2.2.2.2.1.1.set ((IntKind.i64.wrap ((j2.2.2.2.1.1.length : Int) - 1)).toNat) (d4A .or .u8 (j2.2.2.2.1.1.getD ((IntKind.i64.wrap ((j2.2.2.2.1.1.length : Int) - 1)).toNat) 0) (c9A .u8 (IntKind.u8.wrap (d4A .and .u64 (c5A .u64 j2.1 (IntKind.i64.wrap (j2.2.1 - (if j2.2.1 < j2.2.2.1 then j2.2.1 else j2.2.2.1)))) (IntKind.u64.wrap ((c9A .u64 1 (if j2.2.1 < j2.2.2.1 then j2.2.1 else j2.2.2.1)) - 1)))) (IntKind.i64.wrap (j2.2.2.1 - (if j2.2.1 < j2.2.2.1 then j2.2.1 else j2.2.2.1)))))), (IntKind.i64.wrap (j2.2.2.2.1.2 + (if j2.2.1 < j2.2.2.1 then j2.2.1 else j2.2.2.1)))), (j2.2.2.2.2.1.1, j2.2.2.2.2.1.2), ()))
 else none
 else none
 else none
 else none
 else none
 else
 some (Sum.inr ((p1.2.2.1.1, p1.2.2.1.2), (p1.2.2.2.1.1, p1.2.2.2.1.2), ()))
noncomputable def z2C (a0 : List Int × Int) (a1 : Int) (a2 : Int) : Option (List Int × Int) :=
 (a1A (a2C) (a1, a2, (a0.1, a0.2), ([], 0), ())).bind fun j3 =>
 some (j3.1.1, j3.1.2)
noncomputable def u0A (a0 : List Int × Int) (a1 : Int) (a2 : Int) : Option ((List Int × Int) × Int) :=
 ((v9A (a0.1, a0.2)).bind fun y1 =>
 bif (y1 != 0) then
 some (a1, a2, true, (a0.1, a0.2), ([], 0), ())
 else
 (z1C a1 a2).bind fun y2 =>
 some (a1, a2, (!y2), (a0.1, a0.2), ([], 0), ()) : Option ((Int × Int × Bool × (List Int × Int) × (List Int × Int) × Unit))).bind fun j3 =>
 bif j3.2.2.1 then
 some (([], 0), 1)
 else
 bif (decide (j3.2.1 > (IntKind.i64.wrap (65536 - j3.2.2.2.1.2)))) then
 some (([], 0), 2)
 else
 (l8B j3.2.2.2.1.1).bind fun y4 =>
 (z2C (y4, j3.2.2.2.1.2) j3.1 j3.2.1).bind fun y5 =>
 some ((y5.1, y5.2), 0)
noncomputable def y6B (a0 : List Int × Int) : Option (List Int × Int) :=
 (l8B a0.1).bind fun y1 =>
 some (y1, a0.2)
noncomputable def d9B (p10 : Int × Int × ((Int × Int) × Int × (List Int × Int) × Int) × Unit) : Option ((Int × Int × ((Int × Int) × Int × (List Int × Int) × Int) × Unit) ⊕ ((Int × ((Int × Int) × Int × (List Int × Int) × Int) × Unit))) :=
 (bif (decide (p10.2.1 > 0)) then
 some (p10.1, p10.2.1, (p10.2.2.1.2.2.2 == 0), ((p10.2.2.1.1.1, p10.2.2.1.1.2), (p10.2.2.1.2.1, ((p10.2.2.1.2.2.1.1, p10.2.2.1.2.2.1.2), p10.2.2.1.2.2.2))), ())
 else
 some (p10.1, p10.2.1, false, ((p10.2.2.1.1.1, p10.2.2.1.1.2), (p10.2.2.1.2.1, ((p10.2.2.1.2.2.1.1, p10.2.2.1.2.2.1.2), p10.2.2.1.2.2.2))), ()) : Option ((Int × Int × Bool × ((Int × Int) × Int × (List Int × Int) × Int) × Unit))).bind fun j11 =>
 bif j11.2.2.1 then
 bif (decide (0 ≤ (if 32 < j11.2.1 then 32 else j11.2.1))) then
 (u0A (j11.2.2.2.1.2.2.1.1, j11.2.2.2.1.2.2.1.2) (IntKind.u64.wrap ((IntKind.u64.wrap (1 - j11.1)) * (IntKind.u64.wrap ((c9A .u64 1 (if 32 < j11.2.1 then 32 else j11.2.1)) - 1)))) (if 32 < j11.2.1 then 32 else j11.2.1)).bind fun y12 =>
 some (Sum.inl (j11.1, (IntKind.i64.wrap (j11.2.1 - 32)), ((j11.2.2.2.1.1.1, j11.2.2.2.1.1.2), (j11.2.2.2.1.2.1, ((y12.1.1, y12.1.2), y12.2))), ()))
 else none
 else
 some (Sum.inr (j11.1, ((j11.2.2.2.1.1.1, j11.2.2.2.1.1.2), (j11.2.2.2.1.2.1, ((j11.2.2.2.1.2.2.1.1, j11.2.2.2.1.2.2.1.2), j11.2.2.2.1.2.2.2))), ()))
noncomputable def j0B (p7 : ((Int × Int) × Int × (List Int × Int) × Int) × Unit) : Option ((((Int × Int) × Int × (List Int × Int) × Int) × Unit) ⊕ ((((Int × Int) × Int × (List Int × Int) × Int) × Unit) ⊕ (((Int × Int) × Int × (List Int × Int) × Int) × Unit))) :=
 bif (p7.1.2.2.2 == 0) then
 (d0B (p7.1.1.1, p7.1.1.2)).bind fun y8 =>
 (bif (y8.2 == 3) then
 some (Sum.inr (((p7.1.1.1, p7.1.1.2), (p7.1.2.1, ((p7.1.2.2.1.1, p7.1.2.2.1.2), p7.1.2.2.2))), ()))
 else
 bif (y8.2 == 2) then
 some (Sum.inl (y8.1, ((p7.1.1.1, p7.1.1.2), ((IntKind.i64.wrap (p7.1.2.1 + 1)), ((p7.1.2.2.1.1, p7.1.2.2.1.2), p7.1.2.2.2))), ()))
 else
 bif (decide ((IntKind.i64.wrap (p7.1.2.1 + 1)) > (IntKind.i64.wrap (65536 - p7.1.2.2.1.2)))) then
 some (Sum.inl (y8.1, ((p7.1.1.1, p7.1.1.2), (p7.1.2.1, ((p7.1.2.2.1.1, p7.1.2.2.1.2), 2))), ()))
 else
 (u0A (p7.1.2.2.1.1, p7.1.2.2.1.2) (IntKind.u64.wrap y8.2) 1).bind fun y9 =>
 (a1A (d9B) ((IntKind.u64.wrap y8.2), p7.1.2.1, ((p7.1.1.1, p7.1.1.2), (p7.1.2.1, ((y9.1.1, y9.1.2), y9.2))), ())).bind fun j13 =>
 some (Sum.inl (y8.1, ((j13.2.1.1.1, j13.2.1.1.2), (0, ((j13.2.1.2.2.1.1, j13.2.1.2.2.1.2), j13.2.1.2.2.2))), ())) : Option ((Int × ((Int × Int) × Int × (List Int × Int) × Int) × Unit) ⊕ (((Int × Int) × Int × (List Int × Int) × Int) × Unit))).bind fun j14 =>
 (match j14 with
 | .inl j15 =>
 (some (Sum.inl ((((c9A .u64 (IntKind.u64.wrap (j15.2.1.1.1 - j15.1)) 1), (d4A .or .u64 (c9A .u64 (IntKind.u64.wrap (j15.2.1.1.2 - j15.1)) 1) 1)), (j15.2.1.2.1, ((j15.2.1.2.2.1.1, j15.2.1.2.2.1.2), j15.2.1.2.2.2))), ())))
 | .inr j16 =>
 (some (Sum.inr (Sum.inr (((j16.1.1.1, j16.1.1.2), (j16.1.2.1, ((j16.1.2.2.1.1, j16.1.2.2.1.2), j16.1.2.2.2))), ())))))
 else
 some (Sum.inr (Sum.inl (((p7.1.1.1, p7.1.1.2), (p7.1.2.1, ((p7.1.2.2.1.1, p7.1.2.2.1.2), p7.1.2.2.2))), ())))
noncomputable def s9A (a0 : Int × Int × Int × List Int × Int) (a1 : List Int) (a2 : Int) : Option ((Int × Int × Int × List Int × Int) × Int) :=
 ((d1B ((IntKind.u64.wrap a0.1), (IntKind.u64.wrap a0.2.1))).bind fun y1 =>
 bif y1 then
 bif (decide (a0.2.2.1 ≥ 0)) then
 bif (decide (a0.2.2.1 ≤ 65536)) then
 (v9A (a0.2.2.2.1, a0.2.2.2.2)).bind fun y2 =>
 some ((a0.1, (a0.2.1, (a0.2.2.1, (a0.2.2.2.1, a0.2.2.2.2)))), (y2 == 0), (((IntKind.u64.wrap a0.1), (IntKind.u64.wrap a0.2.1)), (a0.2.2.1, ((a0.2.2.2.1, a0.2.2.2.2), 0))), ())
 else
 some ((a0.1, (a0.2.1, (a0.2.2.1, (a0.2.2.2.1, a0.2.2.2.2)))), false, (((IntKind.u64.wrap a0.1), (IntKind.u64.wrap a0.2.1)), (a0.2.2.1, ((a0.2.2.2.1, a0.2.2.2.2), 0))), ())
 else
 some ((a0.1, (a0.2.1, (a0.2.2.1, (a0.2.2.2.1, a0.2.2.2.2)))), false, (((IntKind.u64.wrap a0.1), (IntKind.u64.wrap a0.2.1)), (a0.2.2.1, ((a0.2.2.2.1, a0.2.2.2.2), 0))), ())
 else
 some ((a0.1, (a0.2.1, (a0.2.2.1, (a0.2.2.2.1, a0.2.2.2.2)))), false, (((IntKind.u64.wrap a0.1), (IntKind.u64.wrap a0.2.1)), (a0.2.2.1, ((a0.2.2.2.1, a0.2.2.2.2), 0))), ()) : Option (((Int × Int × Int × List Int × Int) × Bool × ((Int × Int) × Int × (List Int × Int) × Int) × Unit))).bind fun j3 =>
 (r2B a1 a2).bind fun y4 =>
 (bif (!j3.2.1) then
 some (y4.1, y4.2.1, true, a1, (0, (0, (0, ([], 0)))), ((j3.2.2.1.1.1, j3.2.2.1.1.2), (j3.2.2.1.2.1, ((j3.2.2.1.2.2.1.1, j3.2.2.1.2.2.1.2), j3.2.2.1.2.2.2))), ())
 else
 some (y4.1, y4.2.1, (y4.2.2 != 0), a1, (0, (0, (0, ([], 0)))), ((j3.2.2.1.1.1, j3.2.2.1.1.2), (j3.2.2.1.2.1, ((j3.2.2.1.2.2.1.1, j3.2.2.1.2.2.1.2), j3.2.2.1.2.2.2))), ()) : Option ((Int × Int × Bool × List Int × (Int × Int × Int × List Int × Int) × ((Int × Int) × Int × (List Int × Int) × Int) × Unit))).bind fun j5 =>
 bif j5.2.2.1 then
 some ((0, (0, (0, ([], 0)))), 1)
 else
 (y5B j5.2.2.2.1).bind fun y6 =>
 bif ((IntKind.u64.wrap y6) != 0) then
 bif ((IntKind.u64.wrap y6) != 0) then
 ((a1A (j0B) ((((IntKind.u64.wrap (j5.2.2.2.2.2.1.1.1 + (IntKind.u64.wrap ((IntKind.u64.wrap ((IntKind.u64.wrap ((IntKind.u64.wrap (j5.2.2.2.2.2.1.1.2 - j5.2.2.2.2.2.1.1.1)) + 1)) * (IntKind.u64.wrap j5.1))).tdiv (IntKind.u64.wrap y6))))), (IntKind.u64.wrap ((IntKind.u64.wrap (j5.2.2.2.2.2.1.1.1 + (IntKind.u64.wrap ((IntKind.u64.wrap ((IntKind.u64.wrap ((IntKind.u64.wrap (j5.2.2.2.2.2.1.1.2 - j5.2.2.2.2.2.1.1.1)) + 1)) * (IntKind.u64.wrap j5.2.1))).tdiv (IntKind.u64.wrap y6))))) - 1))), (j5.2.2.2.2.2.1.2.1, ((j5.2.2.2.2.2.1.2.2.1.1, j5.2.2.2.2.2.1.2.2.1.2), j5.2.2.2.2.2.1.2.2.2))), ())).bind fun j17 =>
 (match j17 with
 | .inl j18 =>
 (some ((j5.2.2.2.2.1.1, (j5.2.2.2.2.1.2.1, (j5.2.2.2.2.1.2.2.1, (j5.2.2.2.2.1.2.2.2.1, j5.2.2.2.2.1.2.2.2.2)))), ((j18.1.1.1, j18.1.1.2), (j18.1.2.1, ((j18.1.2.2.1.1, j18.1.2.2.1.2), j18.1.2.2.2))), ()))
 | .inr j19 =>
 (some ((j5.2.2.2.2.1.1, (j5.2.2.2.2.1.2.1, (j5.2.2.2.2.1.2.2.1, (j5.2.2.2.2.1.2.2.2.1, j5.2.2.2.2.1.2.2.2.2)))), ((j19.1.1.1, j19.1.1.2), (j19.1.2.1, ((j19.1.2.2.1.1, j19.1.2.2.1.2), j19.1.2.2.2))), ()))) : Option (((Int × Int × Int × List Int × Int) × ((Int × Int) × Int × (List Int × Int) × Int) × Unit))).bind fun j20 =>
 ((bif (j20.2.1.2.2.2 == 0) then
 some ((decide (j20.2.1.2.1 > 65536)), (j20.1.1, (j20.1.2.1, (j20.1.2.2.1, (j20.1.2.2.2.1, j20.1.2.2.2.2)))), ((j20.2.1.1.1, j20.2.1.1.2), (j20.2.1.2.1, ((j20.2.1.2.2.1.1, j20.2.1.2.2.1.2), j20.2.1.2.2.2))), ())
 else
 some (false, (j20.1.1, (j20.1.2.1, (j20.1.2.2.1, (j20.1.2.2.2.1, j20.1.2.2.2.2)))), ((j20.2.1.1.1, j20.2.1.1.2), (j20.2.1.2.1, ((j20.2.1.2.2.1.1, j20.2.1.2.2.1.2), j20.2.1.2.2.2))), ()) : Option ((Bool × (Int × Int × Int × List Int × Int) × ((Int × Int) × Int × (List Int × Int) × Int) × Unit))).bind fun j21 =>
 bif j21.1 then
 some ((j21.2.1.1, (j21.2.1.2.1, (j21.2.1.2.2.1, (j21.2.1.2.2.2.1, j21.2.1.2.2.2.2)))), ((j21.2.2.1.1.1, j21.2.2.1.1.2), (j21.2.2.1.2.1, ((j21.2.2.1.2.2.1.1, j21.2.2.1.2.2.1.2), 2))), ())
 else
 some ((j21.2.1.1, (j21.2.1.2.1, (j21.2.1.2.2.1, (j21.2.1.2.2.2.1, j21.2.1.2.2.2.2)))), ((j21.2.2.1.1.1, j21.2.2.1.1.2), (j21.2.2.1.2.1, ((j21.2.2.1.2.2.1.1, j21.2.2.1.2.2.1.2), j21.2.2.1.2.2.2))), ()) : Option (((Int × Int × Int × List Int × Int) × ((Int × Int) × Int × (List Int × Int) × Int) × Unit))).bind fun j22 =>
 bif (j22.2.1.2.2.2 != 0) then
 some ((0, (0, (0, ([], 0)))), j22.2.1.2.2.2)
 else
 (y6B (j22.2.1.2.2.1.1, j22.2.1.2.2.1.2)).bind fun y23 =>
 some (((IntKind.u32.wrap j22.2.1.1.1), ((IntKind.u32.wrap j22.2.1.1.2), (j22.2.1.2.1, (y23.1, y23.2)))), 0)
 else none
 else none
noncomputable def k9E (p5 : Int × Int × ((Int × Int) × Int × (List Int × Int) × Int) × Unit) : Option ((Int × Int × ((Int × Int) × Int × (List Int × Int) × Int) × Unit) ⊕ ((Int × ((Int × Int) × Int × (List Int × Int) × Int) × Unit))) :=
 (bif (decide (p5.2.1 > 0)) then
 some (p5.1, p5.2.1, (p5.2.2.1.2.2.2 == 0), ((p5.2.2.1.1.1, p5.2.2.1.1.2), (p5.2.2.1.2.1, ((p5.2.2.1.2.2.1.1, p5.2.2.1.2.2.1.2), p5.2.2.1.2.2.2))), ())
 else
 some (p5.1, p5.2.1, false, ((p5.2.2.1.1.1, p5.2.2.1.1.2), (p5.2.2.1.2.1, ((p5.2.2.1.2.2.1.1, p5.2.2.1.2.2.1.2), p5.2.2.1.2.2.2))), ()) : Option ((Int × Int × Bool × ((Int × Int) × Int × (List Int × Int) × Int) × Unit))).bind fun j6 =>
 bif j6.2.2.1 then
 bif (decide (0 ≤ (if 32 < j6.2.1 then 32 else j6.2.1))) then
 (u0A (j6.2.2.2.1.2.2.1.1, j6.2.2.2.1.2.2.1.2) (IntKind.u64.wrap ((IntKind.u64.wrap (1 - j6.1)) * (IntKind.u64.wrap ((c9A .u64 1 (if 32 < j6.2.1 then 32 else j6.2.1)) - 1)))) (if 32 < j6.2.1 then 32 else j6.2.1)).bind fun y7 =>
 some (Sum.inl (j6.1, (IntKind.i64.wrap (j6.2.1 - 32)), ((j6.2.2.2.1.1.1, j6.2.2.2.1.1.2), (j6.2.2.2.1.2.1, ((y7.1.1, y7.1.2), y7.2))), ()))
 else none
 else
 some (Sum.inr (j6.1, ((j6.2.2.2.1.1.1, j6.2.2.2.1.1.2), (j6.2.2.2.1.2.1, ((j6.2.2.2.1.2.2.1.1, j6.2.2.2.1.2.2.1.2), j6.2.2.2.1.2.2.2))), ()))
noncomputable def l0E (p10 : Int × Int × ((Int × Int) × Int × (List Int × Int) × Int) × Unit) : Option ((Int × Int × ((Int × Int) × Int × (List Int × Int) × Int) × Unit) ⊕ ((Int × ((Int × Int) × Int × (List Int × Int) × Int) × Unit))) :=
 (bif (decide (p10.2.1 > 0)) then
 some (p10.1, p10.2.1, (p10.2.2.1.2.2.2 == 0), ((p10.2.2.1.1.1, p10.2.2.1.1.2), (p10.2.2.1.2.1, ((p10.2.2.1.2.2.1.1, p10.2.2.1.2.2.1.2), p10.2.2.1.2.2.2))), ())
 else
 some (p10.1, p10.2.1, false, ((p10.2.2.1.1.1, p10.2.2.1.1.2), (p10.2.2.1.2.1, ((p10.2.2.1.2.2.1.1, p10.2.2.1.2.2.1.2), p10.2.2.1.2.2.2))), ()) : Option ((Int × Int × Bool × ((Int × Int) × Int × (List Int × Int) × Int) × Unit))).bind fun j11 =>
 bif j11.2.2.1 then
 bif (decide (0 ≤ (if 32 < j11.2.1 then 32 else j11.2.1))) then
 (u0A (j11.2.2.2.1.2.2.1.1, j11.2.2.2.1.2.2.1.2) (IntKind.u64.wrap ((IntKind.u64.wrap (1 - j11.1)) * (IntKind.u64.wrap ((c9A .u64 1 (if 32 < j11.2.1 then 32 else j11.2.1)) - 1)))) (if 32 < j11.2.1 then 32 else j11.2.1)).bind fun y12 =>
 some (Sum.inl (j11.1, (IntKind.i64.wrap (j11.2.1 - 32)), ((j11.2.2.2.1.1.1, j11.2.2.2.1.1.2), (j11.2.2.2.1.2.1, ((y12.1.1, y12.1.2), y12.2))), ()))
 else none
 else
 some (Sum.inr (j11.1, ((j11.2.2.2.1.1.1, j11.2.2.2.1.1.2), (j11.2.2.2.1.2.1, ((j11.2.2.2.1.2.2.1.1, j11.2.2.2.1.2.2.1.2), j11.2.2.2.1.2.2.2))), ()))
noncomputable def t0A (a0 : Int × Int × Int × List Int × Int) : Option ((List Int × Int) × Int) :=
 ((d1B ((IntKind.u64.wrap a0.1), (IntKind.u64.wrap a0.2.1))).bind fun y1 =>
 bif y1 then
 bif (decide (a0.2.2.1 ≥ 0)) then
 bif (decide (a0.2.2.1 ≤ 65536)) then
 (v9A (a0.2.2.2.1, a0.2.2.2.2)).bind fun y2 =>
 some ((a0.1, (a0.2.1, (a0.2.2.1, (a0.2.2.2.1, a0.2.2.2.2)))), (y2 == 0), (((IntKind.u64.wrap a0.1), (IntKind.u64.wrap a0.2.1)), (a0.2.2.1, ((a0.2.2.2.1, a0.2.2.2.2), 0))), ())
 else
 some ((a0.1, (a0.2.1, (a0.2.2.1, (a0.2.2.2.1, a0.2.2.2.2)))), false, (((IntKind.u64.wrap a0.1), (IntKind.u64.wrap a0.2.1)), (a0.2.2.1, ((a0.2.2.2.1, a0.2.2.2.2), 0))), ())
 else
 some ((a0.1, (a0.2.1, (a0.2.2.1, (a0.2.2.2.1, a0.2.2.2.2)))), false, (((IntKind.u64.wrap a0.1), (IntKind.u64.wrap a0.2.1)), (a0.2.2.1, ((a0.2.2.2.1, a0.2.2.2.2), 0))), ())
 else
 some ((a0.1, (a0.2.1, (a0.2.2.1, (a0.2.2.2.1, a0.2.2.2.2)))), false, (((IntKind.u64.wrap a0.1), (IntKind.u64.wrap a0.2.1)), (a0.2.2.1, ((a0.2.2.2.1, a0.2.2.2.2), 0))), ()) : Option (((Int × Int × Int × List Int × Int) × Bool × ((Int × Int) × Int × (List Int × Int) × Int) × Unit))).bind fun j3 =>
 bif (!j3.2.1) then
 some (([], 0), 1)
 else
 bif (decide (j3.2.2.1.1.1 < 1073741824)) then
 bif (decide ((IntKind.i64.wrap ((IntKind.i64.wrap (j3.2.2.1.2.1 + 1)) + 1)) > (IntKind.i64.wrap (65536 - j3.2.2.1.2.2.1.2)))) then
 some (([], 0), 2)
 else
 (u0A (j3.2.2.1.2.2.1.1, j3.2.2.1.2.2.1.2) 0 1).bind fun y4 =>
 (a1A (k9E) (0, (IntKind.i64.wrap (j3.2.2.1.2.1 + 1)), ((j3.2.2.1.1.1, j3.2.2.1.1.2), ((IntKind.i64.wrap (j3.2.2.1.2.1 + 1)), ((y4.1.1, y4.1.2), y4.2))), ())).bind fun j8 =>
 bif (j8.2.1.2.2.2 != 0) then
 some (([], 0), j8.2.1.2.2.2)
 else
 some ((j8.2.1.2.2.1.1, j8.2.1.2.2.1.2), 0)
 else
 bif (decide ((IntKind.i64.wrap ((IntKind.i64.wrap (j3.2.2.1.2.1 + 1)) + 1)) > (IntKind.i64.wrap (65536 - j3.2.2.1.2.2.1.2)))) then
 some (([], 0), 2)
 else
 (u0A (j3.2.2.1.2.2.1.1, j3.2.2.1.2.2.1.2) 1 1).bind fun y9 =>
 (a1A (l0E) (1, (IntKind.i64.wrap (j3.2.2.1.2.1 + 1)), ((j3.2.2.1.1.1, j3.2.2.1.1.2), ((IntKind.i64.wrap (j3.2.2.1.2.1 + 1)), ((y9.1.1, y9.1.2), y9.2))), ())).bind fun j13 =>
 bif (j13.2.1.2.2.2 != 0) then
 some (([], 0), j13.2.1.2.2.2)
 else
 some ((j13.2.1.2.2.1.1, j13.2.1.2.2.1.2), 0)
noncomputable def o3C (p2 : List (List Int) × List Int × Int × Int × (List Int × Int) × (Int × Int × Int × List Int × Int) × Unit) : Option ((List (List Int) × List Int × Int × Int × (List Int × Int) × (Int × Int × Int × List Int × Int) × Unit) ⊕ (((List Int × Int) × (Int × Int × Int × List Int × Int) × Unit) ⊕ (Int × (List Int × Int) × Unit))) :=
 bif (decide (p2.2.2.2.1 < p2.2.2.1)) then
 bif (a2A p2.2.2.2.1 p2.2.1.length) then
 bif (a2A p2.2.2.2.1 p2.1.length) then
 (s9A (p2.2.2.2.2.2.1.1, (p2.2.2.2.2.2.1.2.1, (p2.2.2.2.2.2.1.2.2.1, (p2.2.2.2.2.2.1.2.2.2.1, p2.2.2.2.2.2.1.2.2.2.2)))) (p2.1.getD p2.2.2.2.1.toNat []) (p2.2.1.getD p2.2.2.2.1.toNat 0)).bind fun y3 =>
 bif (y3.2 != 0) then
 some (Sum.inr (Sum.inr (y3.2, ([], 0), ())))
 else
 some (Sum.inl (p2.1, p2.2.1, p2.2.2.1, (IntKind.i64.wrap (p2.2.2.2.1 + 1)), (p2.2.2.2.2.1.1, p2.2.2.2.2.1.2), (y3.1.1, (y3.1.2.1, (y3.1.2.2.1, (y3.1.2.2.2.1, y3.1.2.2.2.2)))), ()))
 else none
 else none
 else
 some (Sum.inr (Sum.inl ((p2.2.2.2.2.1.1, p2.2.2.2.2.1.2), (p2.2.2.2.2.2.1.1, (p2.2.2.2.2.2.1.2.1, (p2.2.2.2.2.2.1.2.2.1, (p2.2.2.2.2.2.1.2.2.2.1, p2.2.2.2.2.2.1.2.2.2.2)))), ())))
noncomputable def r3B (a0 : List Int) (a1 : List (List Int)) : Option ((List Int × Int) × Int) :=
 bif ((a0.length : Int) != (a1.length : Int)) then
 some (([], 0), 1)
 else
 (p2D).bind fun y1 =>
 (a1A (o3C) (a1, a0, (a0.length : Int), 0, ([], 0), (y1.1, (y1.2.1, (y1.2.2.1, (y1.2.2.2.1, y1.2.2.2.2)))), ())).bind fun j4 =>
 (match j4 with
 | .inl j5 =>
 ((t0A (j5.2.1.1, (j5.2.1.2.1, (j5.2.1.2.2.1, (j5.2.1.2.2.2.1, j5.2.1.2.2.2.2))))).bind fun y7 =>
 some ((y7.1.1, y7.1.2), y7.2))
 | .inr j6 =>
 (some ((j6.2.1.1, j6.2.1.2), j6.1)))
noncomputable def h8B (a0 : Int × List Int × List Int) (a1 : List Int) : Option (List Int × Int) :=
 (q9A (a0.1, (a0.2.1, a0.2.2)) a1).bind fun y1 =>
 bif (y1 != 0) then
 some ([], y1)
 else
 (y4B (a0.1, (a0.2.1, a0.2.2)) a1).bind fun y2 =>
 (r3B y2.1 y2.2).bind fun y3 =>
 bif (y3.2 != 0) then
 some ([], y3.2)
 else
 some (y3.1.1, 0)
noncomputable def j1C (a0 : List Int) : Option (List Int × Int) :=
 bif (decide ((a0.length : Int) > 8192)) then
 some ([], 0)
 else
 (l8B a0).bind fun y1 =>
 some (y1, (IntKind.i64.wrap (8 * (a0.length : Int))))
noncomputable def r4B (a0 : List Int × Int) (a1 : Int) : Option (Int) :=
 bif (decide (a1 ≥ a0.2)) then
 some 0
 else
 bif (a2A (IntKind.i64.wrap (a1.tdiv 8)) a0.1.length) then
 bif (decide (0 ≤ (IntKind.i64.wrap (7 - (a1.tmod 8))))) then
 some (d4A .and .u64 (IntKind.u64.wrap (c5A .u8 (a0.1.getD ((IntKind.i64.wrap (a1.tdiv 8)).toNat) 0) (IntKind.i64.wrap (7 - (a1.tmod 8))))) 1)
 else none
 else none
noncomputable def c2D (p2 : Int × Int × (List Int × Int) × (Int × Int × Int × (List Int × Int) × Int) × Unit) : Option ((Int × Int × (List Int × Int) × (Int × Int × Int × (List Int × Int) × Int) × Unit) ⊕ ((Int × (List Int × Int) × (Int × Int × Int × (List Int × Int) × Int) × Unit))) :=
 bif (decide (p2.2.1 < 32)) then
 (r4B (p2.2.2.1.1, p2.2.2.1.2) p2.2.1).bind fun y3 =>
 some (Sum.inl ((d4A .or .u64 (c9A .u64 p2.1 1) y3), (IntKind.i64.wrap (p2.2.1 + 1)), (p2.2.2.1.1, p2.2.2.1.2), (p2.2.2.2.1.1, (p2.2.2.2.1.2.1, (p2.2.2.2.1.2.2.1, ((p2.2.2.2.1.2.2.2.1.1, p2.2.2.2.1.2.2.2.1.2), p2.2.2.2.1.2.2.2.2)))), ()))
 else
 some (Sum.inr (p2.1, (p2.2.2.1.1, p2.2.2.1.2), (p2.2.2.2.1.1, (p2.2.2.2.1.2.1, (p2.2.2.2.1.2.2.1, ((p2.2.2.2.1.2.2.2.1.1, p2.2.2.2.1.2.2.2.1.2), p2.2.2.2.1.2.2.2.2)))), ()))
noncomputable def h9B (a0 : List Int × Int) : Option ((Int × Int × Int × (List Int × Int) × Int) × Int) :=
 (v9A (a0.1, a0.2)).bind fun y1 =>
 bif (y1 != 0) then
 some ((0, (0, (0, (([], 0), 0)))), y1)
 else
 (a1A (c2D) (0, 0, (a0.1, a0.2), (0, (0, (0, (([], 0), 0)))), ())).bind fun j4 =>
 (y6B (j4.2.1.1, j4.2.1.2)).bind fun y5 =>
 some ((0, (4294967295, ((IntKind.u32.wrap j4.1), ((y5.1, y5.2), 32)))), 0)
noncomputable def z3C (a0 : Int) : Option (Bool) :=
 some (a0 != a0)
noncomputable def z4C (a0 : Int) (a1 : Int) : Option (Bool) :=
 (z3C a0).bind fun y1 =>
 bif y1 then
 (z3C a1).bind fun y2 =>
 bif (!y2) then
 some true
 else
 some (decide (a0 < a1))
 else
 some (decide (a0 < a1))
noncomputable def z5C (a0 : Int) : Option (Bool) :=
 some (a0 != a0)
noncomputable def o4C (p1 : List Int × Int × Int × Int × Int × Unit) : Option ((List Int × Int × Int × Int × Int × Unit) ⊕ ((List Int × Int × Int × Int × Unit))) :=
 bif (decide (p1.2.2.2.1 < p1.2.2.2.2.1)) then
 bif (a2A (IntKind.i64.wrap (c5A .u64 (IntKind.u64.wrap (IntKind.i64.wrap (p1.2.2.2.1 + p1.2.2.2.2.1))) 1)) p1.1.length) then
 (z4C (p1.1.getD ((IntKind.i64.wrap (c5A .u64 (IntKind.u64.wrap (IntKind.i64.wrap (p1.2.2.2.1 + p1.2.2.2.2.1))) 1)).toNat) 0) p1.2.1).bind fun y2 =>
 bif y2 then
 some (Sum.inl (p1.1, p1.2.1, p1.2.2.1, (IntKind.i64.wrap ((IntKind.i64.wrap (c5A .u64 (IntKind.u64.wrap (IntKind.i64.wrap (p1.2.2.2.1 + p1.2.2.2.2.1))) 1)) + 1)), p1.2.2.2.2.1, ()))
 else
 some (Sum.inl (p1.1, p1.2.1, p1.2.2.1, p1.2.2.2.1, (IntKind.i64.wrap (c5A .u64 (IntKind.u64.wrap (IntKind.i64.wrap (p1.2.2.2.1 + p1.2.2.2.2.1))) 1)), ()))
 else none
 else
 some (Sum.inr (p1.1, p1.2.1, p1.2.2.1, p1.2.2.2.1, ()))
noncomputable def j2C (a0 : List Int) (a1 : Int) : Option (Int × Bool) :=
 (a1A (o4C) (a0, a1, (a0.length : Int), 0, (a0.length : Int), ())).bind fun j3 =>
 bif (decide (j3.2.2.2.1 < j3.2.2.1)) then
 bif (a2A j3.2.2.2.1 j3.1.length) then
 bif ((j3.1.getD j3.2.2.2.1.toNat 0) == j3.2.1) then
 some (j3.2.2.2.1, true)
 else
 bif (a2A j3.2.2.2.1 j3.1.length) then
 (z5C (j3.1.getD j3.2.2.2.1.toNat 0)).bind fun y4 =>
 bif y4 then
 (z5C j3.2.1).bind fun y5 =>
 some (j3.2.2.2.1, y5)
 else
 some (j3.2.2.2.1, false)
 else none
 else none
 else
 some (j3.2.2.2.1, false)
noncomputable def j3C (a0 : List Int) (a1 : Int) : Option (Int × Int) :=
 ((y2A a0).bind fun y1 =>
 bif (y1 != 0) then
 some (a1, true, a0, ())
 else
 bif (decide (a1 < 0)) then
 some (a1, true, a0, ())
 else
 (h7B a0).bind fun y2 =>
 some (a1, (decide (a1 ≥ y2)), a0, ()) : Option ((Int × Bool × List Int × Unit))).bind fun j3 =>
 bif j3.2.1 then
 some (0, 1)
 else
 (j2C j3.2.2.1 j3.1).bind fun y4 =>
 (bif (!y4.2) then
 some ((IntKind.i64.wrap (y4.1 - 1)), ())
 else
 some (y4.1, ()) : Option ((Int × Unit))).bind fun j5 =>
 some (j5.1, 0)
noncomputable def s7B (p7 : Int × Int × Int × (Int × Int × Int × (List Int × Int) × Int) × (Int × Int × Int × (List Int × Int) × Int) × (Int × Int) × Unit) : Option ((Int × Int × Int × (Int × Int × Int × (List Int × Int) × Int) × (Int × Int × Int × (List Int × Int) × Int) × (Int × Int) × Unit) ⊕ ((Int × Int × Int × (Int × Int × Int × (List Int × Int) × Int) × (Int × Int × Int × (List Int × Int) × Int) × (Int × Int) × Unit))) :=
 (d0B (p7.2.2.2.2.2.1.1, p7.2.2.2.2.2.1.2)).bind fun y8 =>
 bif (y8.2 == 3) then
 some (Sum.inr (p7.1, p7.2.1, p7.2.2.1, (p7.2.2.2.1.1, (p7.2.2.2.1.2.1, (p7.2.2.2.1.2.2.1, ((p7.2.2.2.1.2.2.2.1.1, p7.2.2.2.1.2.2.2.1.2), p7.2.2.2.1.2.2.2.2)))), (p7.2.2.2.2.1.1, (p7.2.2.2.2.1.2.1, (p7.2.2.2.2.1.2.2.1, ((p7.2.2.2.2.1.2.2.2.1.1, p7.2.2.2.2.1.2.2.2.1.2), p7.2.2.2.2.1.2.2.2.2)))), (p7.2.2.2.2.2.1.1, p7.2.2.2.2.2.1.2), ()))
 else
 (r4B (p7.2.2.2.1.2.2.2.1.1, p7.2.2.2.1.2.2.2.1.2) p7.2.1).bind fun y9 =>
 some (Sum.inl ((d4A .or .u64 (c9A .u64 (IntKind.u64.wrap (p7.1 - y8.1)) 1) y9), (IntKind.i64.wrap (p7.2.1 + 1)), p7.2.2.1, (p7.2.2.2.1.1, (p7.2.2.2.1.2.1, (p7.2.2.2.1.2.2.1, ((p7.2.2.2.1.2.2.2.1.1, p7.2.2.2.1.2.2.2.1.2), p7.2.2.2.1.2.2.2.2)))), (p7.2.2.2.2.1.1, (p7.2.2.2.2.1.2.1, (p7.2.2.2.2.1.2.2.1, ((p7.2.2.2.2.1.2.2.2.1.1, p7.2.2.2.2.1.2.2.2.1.2), p7.2.2.2.2.1.2.2.2.2)))), ((c9A .u64 (IntKind.u64.wrap (p7.2.2.2.2.2.1.1 - y8.1)) 1), (d4A .or .u64 (c9A .u64 (IntKind.u64.wrap (p7.2.2.2.2.2.1.2 - y8.1)) 1) 1)), ()))
noncomputable def n6A (a0 : Int × Int × Int × (List Int × Int) × Int) (a1 : List Int) : Option ((Int × Int × Int × (List Int × Int) × Int) × Int × Int) :=
 ((d1B ((IntKind.u64.wrap a0.1), (IntKind.u64.wrap a0.2.1))).bind fun y1 =>
 bif (!y1) then
 some ((IntKind.u64.wrap a0.2.2.1), a0.2.2.2.2, true, (a0.1, (a0.2.1, (a0.2.2.1, ((a0.2.2.2.1.1, a0.2.2.2.1.2), a0.2.2.2.2)))), a1, (0, (0, (0, (([], 0), 0)))), ((IntKind.u64.wrap a0.1), (IntKind.u64.wrap a0.2.1)), ())
 else
 bif (decide ((IntKind.u64.wrap a0.2.2.1) < (IntKind.u64.wrap a0.1))) then
 some ((IntKind.u64.wrap a0.2.2.1), a0.2.2.2.2, true, (a0.1, (a0.2.1, (a0.2.2.1, ((a0.2.2.2.1.1, a0.2.2.2.1.2), a0.2.2.2.2)))), a1, (0, (0, (0, (([], 0), 0)))), ((IntKind.u64.wrap a0.1), (IntKind.u64.wrap a0.2.1)), ())
 else
 bif (decide ((IntKind.u64.wrap a0.2.2.1) > (IntKind.u64.wrap a0.2.1))) then
 some ((IntKind.u64.wrap a0.2.2.1), a0.2.2.2.2, true, (a0.1, (a0.2.1, (a0.2.2.1, ((a0.2.2.2.1.1, a0.2.2.2.1.2), a0.2.2.2.2)))), a1, (0, (0, (0, (([], 0), 0)))), ((IntKind.u64.wrap a0.1), (IntKind.u64.wrap a0.2.1)), ())
 else
 (v9A (a0.2.2.2.1.1, a0.2.2.2.1.2)).bind fun y2 =>
 bif (y2 != 0) then
 some ((IntKind.u64.wrap a0.2.2.1), a0.2.2.2.2, true, (a0.1, (a0.2.1, (a0.2.2.1, ((a0.2.2.2.1.1, a0.2.2.2.1.2), a0.2.2.2.2)))), a1, (0, (0, (0, (([], 0), 0)))), ((IntKind.u64.wrap a0.1), (IntKind.u64.wrap a0.2.1)), ())
 else
 bif (decide (a0.2.2.2.2 < 32)) then
 some ((IntKind.u64.wrap a0.2.2.1), a0.2.2.2.2, true, (a0.1, (a0.2.1, (a0.2.2.1, ((a0.2.2.2.1.1, a0.2.2.2.1.2), a0.2.2.2.2)))), a1, (0, (0, (0, (([], 0), 0)))), ((IntKind.u64.wrap a0.1), (IntKind.u64.wrap a0.2.1)), ())
 else
 bif (decide (a0.2.2.2.2 > 65600)) then
 some ((IntKind.u64.wrap a0.2.2.1), a0.2.2.2.2, true, (a0.1, (a0.2.1, (a0.2.2.1, ((a0.2.2.2.1.1, a0.2.2.2.1.2), a0.2.2.2.2)))), a1, (0, (0, (0, (([], 0), 0)))), ((IntKind.u64.wrap a0.1), (IntKind.u64.wrap a0.2.1)), ())
 else
 (y2A a1).bind fun y3 =>
 some ((IntKind.u64.wrap a0.2.2.1), a0.2.2.2.2, (y3 != 0), (a0.1, (a0.2.1, (a0.2.2.1, ((a0.2.2.2.1.1, a0.2.2.2.1.2), a0.2.2.2.2)))), a1, (0, (0, (0, (([], 0), 0)))), ((IntKind.u64.wrap a0.1), (IntKind.u64.wrap a0.2.1)), ()) : Option ((Int × Int × Bool × (Int × Int × Int × (List Int × Int) × Int) × List Int × (Int × Int × Int × (List Int × Int) × Int) × (Int × Int) × Unit))).bind fun j4 =>
 bif j4.2.2.1 then
 some ((0, (0, (0, (([], 0), 0)))), (0, 1))
 else
 bif (decide (j4.2.1 > (IntKind.i64.wrap (j4.2.2.2.1.2.2.2.1.2 + 32)))) then
 some ((0, (0, (0, (([], 0), 0)))), (0, 20))
 else
 (y5B j4.2.2.2.2.1).bind fun y5 =>
 bif ((IntKind.u64.wrap ((IntKind.u64.wrap (j4.2.2.2.2.2.2.1.2 - j4.2.2.2.2.2.2.1.1)) + 1)) != 0) then
 (j3C j4.2.2.2.2.1 (IntKind.i64.wrap (IntKind.u64.wrap ((IntKind.u64.wrap ((IntKind.u64.wrap ((IntKind.u64.wrap ((IntKind.u64.wrap (j4.1 - j4.2.2.2.2.2.2.1.1)) + 1)) * (IntKind.u64.wrap y5))) - 1)).tdiv (IntKind.u64.wrap ((IntKind.u64.wrap (j4.2.2.2.2.2.2.1.2 - j4.2.2.2.2.2.2.1.1)) + 1)))))).bind fun y6 =>
 bif (y6.2 != 0) then
 some ((0, (0, (0, (([], 0), 0)))), (0, y6.2))
 else
 bif (a2A y6.1 j4.2.2.2.2.1.length) then
 bif (a2A (IntKind.i64.wrap (y6.1 + 1)) j4.2.2.2.2.1.length) then
 bif ((IntKind.u64.wrap y5) != 0) then
 bif ((IntKind.u64.wrap y5) != 0) then
 (a1A (s7B) (j4.1, j4.2.1, y6.1, (j4.2.2.2.1.1, (j4.2.2.2.1.2.1, (j4.2.2.2.1.2.2.1, ((j4.2.2.2.1.2.2.2.1.1, j4.2.2.2.1.2.2.2.1.2), j4.2.2.2.1.2.2.2.2)))), (j4.2.2.2.2.2.1.1, (j4.2.2.2.2.2.1.2.1, (j4.2.2.2.2.2.1.2.2.1, ((j4.2.2.2.2.2.1.2.2.2.1.1, j4.2.2.2.2.2.1.2.2.2.1.2), j4.2.2.2.2.2.1.2.2.2.2)))), ((IntKind.u64.wrap (j4.2.2.2.2.2.2.1.1 + (IntKind.u64.wrap ((IntKind.u64.wrap ((IntKind.u64.wrap ((IntKind.u64.wrap (j4.2.2.2.2.2.2.1.2 - j4.2.2.2.2.2.2.1.1)) + 1)) * (IntKind.u64.wrap (j4.2.2.2.2.1.getD y6.1.toNat 0)))).tdiv (IntKind.u64.wrap y5))))), (IntKind.u64.wrap ((IntKind.u64.wrap (j4.2.2.2.2.2.2.1.1 + (IntKind.u64.wrap ((IntKind.u64.wrap ((IntKind.u64.wrap ((IntKind.u64.wrap (j4.2.2.2.2.2.2.1.2 - j4.2.2.2.2.2.2.1.1)) + 1)) * (IntKind.u64.wrap (j4.2.2.2.2.1.getD ((IntKind.i64.wrap (y6.1 + 1)).toNat) 0)))).tdiv (IntKind.u64.wrap y5))))) - 1))), ())).bind fun j10 =>
 (y6B (j10.2.2.2.1.2.2.2.1.1, j10.2.2.2.1.2.2.2.1.2)).bind fun y11 =>
 some (((IntKind.u32.wrap j10.2.2.2.2.2.1.1), ((IntKind.u32.wrap j10.2.2.2.2.2.1.2), ((IntKind.u32.wrap j10.1), ((y11.1, y11.2), j10.2.1)))), (j10.2.2.1, 0))
 else none
 else none
 else none
 else none
 else none
noncomputable def s8B (p1 : List Int × List Int × Int × Int × Unit) : Option ((List Int × List Int × Int × Int × Unit) ⊕ (Unit ⊕ (Bool × Unit))) :=
 bif (decide (p1.2.2.2.1 < p1.2.2.1)) then
 bif (a2A p1.2.2.2.1 p1.1.length) then
 bif (a2A p1.2.2.2.1 p1.2.1.length) then
 bif ((p1.1.getD p1.2.2.2.1.toNat 0) != (p1.2.1.getD p1.2.2.2.1.toNat 0)) then
 some (Sum.inr (Sum.inr (false, ())))
 else
 some (Sum.inl (p1.1, p1.2.1, p1.2.2.1, (IntKind.i64.wrap (p1.2.2.2.1 + 1)), ()))
 else none
 else none
 else
 some (Sum.inr (Sum.inl ()))
noncomputable def r5B (a0 : List Int) (a1 : List Int) : Option (Bool) :=
 bif ((a0.length : Int) != (a1.length : Int)) then
 some false
 else
 (a1A (s8B) (a0, a1, (a0.length : Int), 0, ())).bind fun j2 =>
 (match j2 with
 | .inl j3 =>
 (some true)
 | .inr j4 =>
 (some j4.1))
noncomputable def o5C (p10 : List Int × Int × (Int × List Int × List Int) × List Int × List Int × ((Int × Int × Int × (List Int × Int) × Int) × Int) × Unit) : Option ((List Int × Int × (Int × List Int × List Int) × List Int × List Int × ((Int × Int × Int × (List Int × Int) × Int) × Int) × Unit) ⊕ ((List Int × (Int × List Int × List Int) × List Int × List Int × ((Int × Int × Int × (List Int × Int) × Int) × Int) × Unit))) :=
 bif (decide (p10.2.1 < 6)) then
 bif (a2A p10.2.1 6) then
 bif (a2A p10.2.1 6) then
 some (Sum.inl (p10.1, (IntKind.i64.wrap (p10.2.1 + 1)), (p10.2.2.1.1, (p10.2.2.1.2.1, p10.2.2.1.2.2)), p10.2.2.2.1, (p10.2.2.2.2.1.set p10.2.1.toNat (IntKind.i64.wrap ((p10.2.2.2.2.1.getD p10.2.1.toNat 0) - 8))), ((p10.2.2.2.2.2.1.1.1, (p10.2.2.2.2.2.1.1.2.1, (p10.2.2.2.2.2.1.1.2.2.1, ((p10.2.2.2.2.2.1.1.2.2.2.1.1, p10.2.2.2.2.2.1.1.2.2.2.1.2), p10.2.2.2.2.2.1.1.2.2.2.2)))), p10.2.2.2.2.2.1.2), ()))
 else none
 else none
 else
 some (Sum.inr (p10.1, (p10.2.2.1.1, (p10.2.2.1.2.1, p10.2.2.1.2.2)), p10.2.2.2.1, p10.2.2.2.2.1, ((p10.2.2.2.2.2.1.1.1, (p10.2.2.2.2.2.1.1.2.1, (p10.2.2.2.2.2.1.1.2.2.1, ((p10.2.2.2.2.2.1.1.2.2.2.1.1, p10.2.2.2.2.2.1.1.2.2.2.1.2), p10.2.2.2.2.2.1.1.2.2.2.2)))), p10.2.2.2.2.2.1.2), ()))
noncomputable def j1B (p13 : List Int × Int × (Int × List Int × List Int) × List Int × List Int × ((Int × Int × Int × (List Int × Int) × Int) × Int) × Unit) : Option ((List Int × Int × (Int × List Int × List Int) × List Int × List Int × ((Int × Int × Int × (List Int × Int) × Int) × Int) × Unit) ⊕ ((List Int × (Int × List Int × List Int) × ((Int × Int × Int × (List Int × Int) × Int) × Int) × Unit) ⊕ (List Int × Bool × (Int × List Int × List Int) × ((Int × Int × Int × (List Int × Int) × Int) × Int) × Unit))) :=
 bif (decide (p13.2.1 < 6)) then
 bif (a2A p13.2.1 6) then
 bif (a2A p13.2.1 6) then
 (bif (p13.2.2.2.2.2.1.2 == 0) then
 (n6A (p13.2.2.2.2.2.1.1.1, (p13.2.2.2.2.2.1.1.2.1, (p13.2.2.2.2.2.1.1.2.2.1, ((p13.2.2.2.2.2.1.1.2.2.2.1.1, p13.2.2.2.2.2.1.1.2.2.2.1.2), p13.2.2.2.2.2.1.1.2.2.2.2)))) p13.2.2.2.1).bind fun y14 =>
 some (p13.1, p13.2.1, p13.2.1, (!(y14.2.2 == 0)), (p13.2.2.1.1, (p13.2.2.1.2.1, p13.2.2.1.2.2)), p13.2.2.2.1, p13.2.2.2.2.1, y14.2.1, ((y14.1.1, (y14.1.2.1, (y14.1.2.2.1, ((y14.1.2.2.2.1.1, y14.1.2.2.2.1.2), y14.1.2.2.2.2)))), y14.2.2), ())
 else
 some (p13.1, p13.2.1, p13.2.1, (!(p13.2.2.2.2.2.1.2 == 0)), (p13.2.2.1.1, (p13.2.2.1.2.1, p13.2.2.1.2.2)), p13.2.2.2.1, p13.2.2.2.2.1, (IntKind.i64.wrap ((p13.2.2.1.2.1.getD p13.2.1.toNat 0) - (p13.2.2.2.2.1.getD p13.2.1.toNat 0))), ((p13.2.2.2.2.2.1.1.1, (p13.2.2.2.2.2.1.1.2.1, (p13.2.2.2.2.2.1.1.2.2.1, ((p13.2.2.2.2.2.1.1.2.2.2.1.1, p13.2.2.2.2.2.1.1.2.2.2.1.2), p13.2.2.2.2.2.1.1.2.2.2.2)))), p13.2.2.2.2.2.1.2), ()) : Option ((List Int × Int × Int × Bool × (Int × List Int × List Int) × List Int × List Int × Int × ((Int × Int × Int × (List Int × Int) × Int) × Int) × Unit))).bind fun j15 =>
 bif j15.2.2.2.1 then
 some (Sum.inr (Sum.inr (j15.1, false, (j15.2.2.2.2.1.1, (j15.2.2.2.2.1.2.1, j15.2.2.2.2.1.2.2)), ((j15.2.2.2.2.2.2.2.2.1.1.1, (j15.2.2.2.2.2.2.2.2.1.1.2.1, (j15.2.2.2.2.2.2.2.2.1.1.2.2.1, ((j15.2.2.2.2.2.2.2.2.1.1.2.2.2.1.1, j15.2.2.2.2.2.2.2.2.1.1.2.2.2.1.2), j15.2.2.2.2.2.2.2.2.1.1.2.2.2.2)))), j15.2.2.2.2.2.2.2.2.1.2), ())))
 else
 bif (a2A j15.2.1 6) then
 bif (a2A j15.2.1 6) then
 some (Sum.inl (j15.1, (IntKind.i64.wrap (j15.2.2.1 + 1)), (j15.2.2.2.2.1.1, ((j15.2.2.2.2.1.2.1.set j15.2.1.toNat (IntKind.i64.wrap (j15.2.2.2.2.2.2.2.1 + (j15.2.2.2.2.2.2.1.getD j15.2.1.toNat 0)))), j15.2.2.2.2.1.2.2)), j15.2.2.2.2.2.1, j15.2.2.2.2.2.2.1, ((j15.2.2.2.2.2.2.2.2.1.1.1, (j15.2.2.2.2.2.2.2.2.1.1.2.1, (j15.2.2.2.2.2.2.2.2.1.1.2.2.1, ((j15.2.2.2.2.2.2.2.2.1.1.2.2.2.1.1, j15.2.2.2.2.2.2.2.2.1.1.2.2.2.1.2), j15.2.2.2.2.2.2.2.2.1.1.2.2.2.2)))), j15.2.2.2.2.2.2.2.2.1.2), ()))
 else none
 else none
 else none
 else none
 else
 some (Sum.inr (Sum.inl (p13.1, (p13.2.2.1.1, (p13.2.2.1.2.1, p13.2.2.1.2.2)), ((p13.2.2.2.2.2.1.1.1, (p13.2.2.2.2.2.1.1.2.1, (p13.2.2.2.2.2.1.1.2.2.1, ((p13.2.2.2.2.2.1.1.2.2.2.1.1, p13.2.2.2.2.2.1.1.2.2.2.1.2), p13.2.2.2.2.2.1.1.2.2.2.2)))), p13.2.2.2.2.2.1.2), ())))
noncomputable def e0B (p20 : List Int × Int × (Int × List Int × List Int) × List Int × ((Int × Int × Int × (List Int × Int) × Int) × Int) × Unit) : Option ((List Int × Int × (Int × List Int × List Int) × List Int × ((Int × Int × Int × (List Int × Int) × Int) × Int) × Unit) ⊕ ((List Int × (Int × List Int × List Int) × ((Int × Int × Int × (List Int × Int) × Int) × Int) × Unit) ⊕ (List Int × Bool × (Int × List Int × List Int) × ((Int × Int × Int × (List Int × Int) × Int) × Int) × Unit))) :=
 bif (decide (p20.2.1 < 16)) then
 ((y3B p20.2.1).bind fun y21 =>
 bif (a2A y21.1 6) then
 bif ((p20.2.2.2.1.getD y21.1.toNat 0) == 0) then
 some (Sum.inl (p20.1, p20.2.1, (p20.2.2.1.1, (p20.2.2.1.2.1, p20.2.2.1.2.2)), p20.2.2.2.1, ((p20.2.2.2.2.1.1.1, (p20.2.2.2.2.1.1.2.1, (p20.2.2.2.2.1.1.2.2.1, ((p20.2.2.2.2.1.1.2.2.2.1.1, p20.2.2.2.2.1.1.2.2.2.1.2), p20.2.2.2.2.1.1.2.2.2.2)))), p20.2.2.2.2.1.2), ()))
 else
 bif (a2A y21.1 6) then
 (y0B (p20.2.2.2.1.getD y21.1.toNat 0)).bind fun y22 =>
 bif (a2A p20.2.1 16) then
 ((i9C y22).bind fun y23 =>
 bif (p20.2.2.2.2.1.2 == 0) then
 (n6A (p20.2.2.2.2.1.1.1, (p20.2.2.2.2.1.1.2.1, (p20.2.2.2.2.1.1.2.2.1, ((p20.2.2.2.2.1.1.2.2.2.1.1, p20.2.2.2.2.1.1.2.2.2.1.2), p20.2.2.2.2.1.1.2.2.2.2)))) y23).bind fun y24 =>
 some (p20.1, p20.2.1, y22, p20.2.1, (!(y24.2.2 == 0)), (p20.2.2.1.1, (p20.2.2.1.2.1, p20.2.2.1.2.2)), p20.2.2.2.1, y24.2.1, ((y24.1.1, (y24.1.2.1, (y24.1.2.2.1, ((y24.1.2.2.2.1.1, y24.1.2.2.2.1.2), y24.1.2.2.2.2)))), y24.2.2), ())
 else
 some (p20.1, p20.2.1, y22, p20.2.1, (!(p20.2.2.2.2.1.2 == 0)), (p20.2.2.1.1, (p20.2.2.1.2.1, p20.2.2.1.2.2)), p20.2.2.2.1, (IntKind.i64.wrap ((p20.2.2.1.2.2.getD p20.2.1.toNat 0) + y22)), ((p20.2.2.2.2.1.1.1, (p20.2.2.2.2.1.1.2.1, (p20.2.2.2.2.1.1.2.2.1, ((p20.2.2.2.2.1.1.2.2.2.1.1, p20.2.2.2.2.1.1.2.2.2.1.2), p20.2.2.2.2.1.1.2.2.2.2)))), p20.2.2.2.2.1.2), ()) : Option ((List Int × Int × Int × Int × Bool × (Int × List Int × List Int) × List Int × Int × ((Int × Int × Int × (List Int × Int) × Int) × Int) × Unit))).bind fun j25 =>
 bif j25.2.2.2.2.1 then
 some (Sum.inr (j25.1, false, (j25.2.2.2.2.2.1.1, (j25.2.2.2.2.2.1.2.1, j25.2.2.2.2.2.1.2.2)), ((j25.2.2.2.2.2.2.2.2.1.1.1, (j25.2.2.2.2.2.2.2.2.1.1.2.1, (j25.2.2.2.2.2.2.2.2.1.1.2.2.1, ((j25.2.2.2.2.2.2.2.2.1.1.2.2.2.1.1, j25.2.2.2.2.2.2.2.2.1.1.2.2.2.1.2), j25.2.2.2.2.2.2.2.2.1.1.2.2.2.2)))), j25.2.2.2.2.2.2.2.2.1.2), ()))
 else
 bif (a2A j25.2.1 16) then
 some (Sum.inl (j25.1, j25.2.2.2.1, (j25.2.2.2.2.2.1.1, (j25.2.2.2.2.2.1.2.1, (j25.2.2.2.2.2.1.2.2.set j25.2.1.toNat (IntKind.i64.wrap (j25.2.2.2.2.2.2.2.1 - j25.2.2.1))))), j25.2.2.2.2.2.2.1, ((j25.2.2.2.2.2.2.2.2.1.1.1, (j25.2.2.2.2.2.2.2.2.1.1.2.1, (j25.2.2.2.2.2.2.2.2.1.1.2.2.1, ((j25.2.2.2.2.2.2.2.2.1.1.2.2.2.1.1, j25.2.2.2.2.2.2.2.2.1.1.2.2.2.1.2), j25.2.2.2.2.2.2.2.2.1.1.2.2.2.2)))), j25.2.2.2.2.2.2.2.2.1.2), ()))
 else none
 else none
 else none
 else none : Option ((List Int × Int × (Int × List Int × List Int) × List Int × ((Int × Int × Int × (List Int × Int) × Int) × Int) × Unit) ⊕ (List Int × Bool × (Int × List Int × List Int) × ((Int × Int × Int × (List Int × Int) × Int) × Int) × Unit))).bind fun j26 =>
 (match j26 with
 | .inl j27 =>
 (some (Sum.inl (j27.1, (IntKind.i64.wrap (j27.2.1 + 1)), (j27.2.2.1.1, (j27.2.2.1.2.1, j27.2.2.1.2.2)), j27.2.2.2.1, ((j27.2.2.2.2.1.1.1, (j27.2.2.2.2.1.1.2.1, (j27.2.2.2.2.1.1.2.2.1, ((j27.2.2.2.2.1.1.2.2.2.1.1, j27.2.2.2.2.1.1.2.2.2.1.2), j27.2.2.2.2.1.1.2.2.2.2)))), j27.2.2.2.2.1.2), ())))
 | .inr j28 =>
 (some (Sum.inr (Sum.inr (j28.1, j28.2.1, (j28.2.2.1.1, (j28.2.2.1.2.1, j28.2.2.1.2.2)), ((j28.2.2.2.1.1.1, (j28.2.2.2.1.1.2.1, (j28.2.2.2.1.1.2.2.1, ((j28.2.2.2.1.1.2.2.2.1.1, j28.2.2.2.1.1.2.2.2.1.2), j28.2.2.2.1.1.2.2.2.2)))), j28.2.2.2.1.2), ())))))
 else
 some (Sum.inr (Sum.inl (p20.1, (p20.2.2.1.1, (p20.2.2.1.2.1, p20.2.2.1.2.2)), ((p20.2.2.2.2.1.1.1, (p20.2.2.2.2.1.1.2.1, (p20.2.2.2.2.1.1.2.2.1, ((p20.2.2.2.2.1.1.2.2.2.1.1, p20.2.2.2.2.1.1.2.2.2.1.2), p20.2.2.2.2.1.1.2.2.2.2)))), p20.2.2.2.2.1.2), ())))
noncomputable def l9B (a0 : List Int) (a1 : List Int) : Option ((Int × List Int × List Int) × Int) :=
 (a9B a1).bind fun y1 =>
 bif (y1 != 0) then
 some ((0, ((List.replicate 6 0), (List.replicate 16 0))), y1)
 else
 ((bif (decide ((a0.length : Int) > 40)) then
 some (a0, ((0, (0, (0, (([], 0), 0)))), 21), ())
 else
 (j1C a0).bind fun y2 =>
 (h9B (y2.1, y2.2)).bind fun y3 =>
 some (a0, ((y3.1.1, (y3.1.2.1, (y3.1.2.2.1, ((y3.1.2.2.2.1.1, y3.1.2.2.2.1.2), y3.1.2.2.2.2)))), y3.2), ()) : Option ((List Int × ((Int × Int × Int × (List Int × Int) × Int) × Int) × Unit))).bind fun j4 =>
 ((y2B).bind fun y5 =>
 bif (j4.2.1.2 == 0) then
 (n6A (j4.2.1.1.1, (j4.2.1.1.2.1, (j4.2.1.1.2.2.1, ((j4.2.1.1.2.2.2.1.1, j4.2.1.1.2.2.2.1.2), j4.2.1.1.2.2.2.2)))) y5).bind fun y6 =>
 some (a1, (!(y6.2.2 == 0)), (y6.2.1, ((List.replicate 6 0), (List.replicate 16 0))), a1, ((y6.1.1, (y6.1.2.1, (y6.1.2.2.1, ((y6.1.2.2.2.1.1, y6.1.2.2.2.1.2), y6.1.2.2.2.2)))), y6.2.2), ())
 else
 some (a1, (!(j4.2.1.2 == 0)), (0, ((List.replicate 6 0), (List.replicate 16 0))), a1, ((j4.2.1.1.1, (j4.2.1.1.2.1, (j4.2.1.1.2.2.1, ((j4.2.1.1.2.2.2.1.1, j4.2.1.1.2.2.2.1.2), j4.2.1.1.2.2.2.2)))), j4.2.1.2), ()) : Option ((List Int × Bool × (Int × List Int × List Int) × List Int × ((Int × Int × Int × (List Int × Int) × Int) × Int) × Unit))).bind fun j7 =>
 bif j7.2.1 then
 some (a0, true, a1, (j7.2.2.1.1, (j7.2.2.1.2.1, j7.2.2.1.2.2)), ())
 else
 (i7C).bind fun y8 =>
 (bif (j7.2.2.1.1 == 1) then
 (i8C).bind fun y9 =>
 (a1A (o5C) (j7.1, 0, (j7.2.2.1.1, (j7.2.2.1.2.1, j7.2.2.1.2.2)), y9, j7.2.2.2.1, ((j7.2.2.2.2.1.1.1, (j7.2.2.2.2.1.1.2.1, (j7.2.2.2.2.1.1.2.2.1, ((j7.2.2.2.2.1.1.2.2.2.1.1, j7.2.2.2.2.1.1.2.2.2.1.2), j7.2.2.2.2.1.1.2.2.2.2)))), j7.2.2.2.2.1.2), ())).bind fun j11 =>
 some (j11.1, (j11.2.1.1, (j11.2.1.2.1, j11.2.1.2.2)), j11.2.2.1, j11.2.2.2.1, ((j11.2.2.2.2.1.1.1, (j11.2.2.2.2.1.1.2.1, (j11.2.2.2.2.1.1.2.2.1, ((j11.2.2.2.2.1.1.2.2.2.1.1, j11.2.2.2.2.1.1.2.2.2.1.2), j11.2.2.2.2.1.1.2.2.2.2)))), j11.2.2.2.2.1.2), ())
 else
 some (j7.1, (j7.2.2.1.1, (j7.2.2.1.2.1, j7.2.2.1.2.2)), y8, (List.replicate 6 0), ((j7.2.2.2.2.1.1.1, (j7.2.2.2.2.1.1.2.1, (j7.2.2.2.2.1.1.2.2.1, ((j7.2.2.2.2.1.1.2.2.2.1.1, j7.2.2.2.2.1.1.2.2.2.1.2), j7.2.2.2.2.1.1.2.2.2.2)))), j7.2.2.2.2.1.2), ()) : Option ((List Int × (Int × List Int × List Int) × List Int × List Int × ((Int × Int × Int × (List Int × Int) × Int) × Int) × Unit))).bind fun j12 =>
 (a1A (j1B) (j12.1, 0, (j12.2.1.1, (j12.2.1.2.1, j12.2.1.2.2)), j12.2.2.1, j12.2.2.2.1, ((j12.2.2.2.2.1.1.1, (j12.2.2.2.2.1.1.2.1, (j12.2.2.2.2.1.1.2.2.1, ((j12.2.2.2.2.1.1.2.2.2.1.1, j12.2.2.2.2.1.1.2.2.2.1.2), j12.2.2.2.2.1.1.2.2.2.2)))), j12.2.2.2.2.1.2), ())).bind fun j16 =>
 (match j16 with
 | .inl j17 =>
 (bif (j17.2.1.1 == 2) then
 some (a0, false, a1, (j17.2.1.1, (j17.2.1.2.1, j17.2.1.2.2)), ())
 else
 (y1A j17.2.1.2.1 120).bind fun y19 =>
 bif (y19.2 != 0) then
 some (a0, true, a1, (j17.2.1.1, (j17.2.1.2.1, j17.2.1.2.2)), ())
 else
 (a1A (e0B) (j17.1, 0, (j17.2.1.1, (j17.2.1.2.1, j17.2.1.2.2)), y19.1, ((j17.2.2.1.1.1, (j17.2.2.1.1.2.1, (j17.2.2.1.1.2.2.1, ((j17.2.2.1.1.2.2.2.1.1, j17.2.2.1.1.2.2.2.1.2), j17.2.2.1.1.2.2.2.2)))), j17.2.2.1.2), ())).bind fun j29 =>
 (match j29 with
 | .inl j30 =>
 (some (a0, false, a1, (j30.2.1.1, (j30.2.1.2.1, j30.2.1.2.2)), ()))
 | .inr j31 =>
 (some (a0, (!j31.2.1), a1, (j31.2.2.1.1, (j31.2.2.1.2.1, j31.2.2.1.2.2)), ()))))
 | .inr j18 =>
 (some (a0, (!j18.2.1), a1, (j18.2.2.1.1, (j18.2.2.1.2.1, j18.2.2.1.2.2)), ()))) : Option ((List Int × Bool × List Int × (Int × List Int × List Int) × Unit))).bind fun j32 =>
 bif j32.2.1 then
 some ((0, ((List.replicate 6 0), (List.replicate 16 0))), 21)
 else
 (h8B (j32.2.2.2.1.1, (j32.2.2.2.1.2.1, j32.2.2.2.1.2.2)) j32.2.2.1).bind fun y33 =>
 (bif (y33.2 != 0) then
 some (true, (j32.2.2.2.1.1, (j32.2.2.2.1.2.1, j32.2.2.2.1.2.2)), ())
 else
 (r5B y33.1 j32.1).bind fun y34 =>
 some ((!y34), (j32.2.2.2.1.1, (j32.2.2.2.1.2.1, j32.2.2.2.1.2.2)), ()) : Option ((Bool × (Int × List Int × List Int) × Unit))).bind fun j35 =>
 bif j35.1 then
 some ((0, ((List.replicate 6 0), (List.replicate 16 0))), 21)
 else
 some ((j35.2.1.1, (j35.2.1.2.1, j35.2.1.2.2)), 0)
noncomputable def z6C (a0 : Int) : Option (Int) :=
 some (if (-67108864) < (if 67108864 < a0 then 67108864 else a0) then (if 67108864 < a0 then 67108864 else a0) else (-67108864))
noncomputable def a3C (p2 : Int × Int × List Int × List Int × Unit) : Option ((Int × Int × List Int × List Int × Unit) ⊕ ((Int × List Int × Unit))) :=
 bif (decide (p2.2.1 < 16)) then
 ((y3B p2.2.1).bind fun y3 =>
 bif (a2A y3.1 6) then
 (x9B (p2.2.2.1.getD y3.1.toNat 0)).bind fun y4 =>
 bif (a2A y3.1 6) then
 bif (decide ((p2.2.2.1.getD y3.1.toNat 0) > 0)) then
 (m4A (IntKind.i64.wrap ((IntKind.i64.wrap ((IntKind.i64.wrap (c5A .u32 (IntKind.u32.wrap ((IntKind.u32.wrap (p2.1 * 1664525)) + 1013904223)) 16)) - 32768)) * y4.1)) 18).bind fun y5 =>
 (z6C y5).bind fun y6 =>
 bif (a2A p2.2.1 16) then
 some ((IntKind.u32.wrap ((IntKind.u32.wrap (p2.1 * 1664525)) + 1013904223)), p2.2.1, p2.2.2.1, (p2.2.2.2.1.set p2.2.1.toNat y6), ())
 else none
 else
 some ((IntKind.u32.wrap ((IntKind.u32.wrap (p2.1 * 1664525)) + 1013904223)), p2.2.1, p2.2.2.1, p2.2.2.2.1, ())
 else none
 else none : Option ((Int × Int × List Int × List Int × Unit))).bind fun j7 =>
 some (Sum.inl (j7.1, (IntKind.i64.wrap (j7.2.1 + 1)), j7.2.2.1, j7.2.2.2.1, ()))
 else
 some (Sum.inr (p2.1, p2.2.2.2.1, ()))
noncomputable def y7B (a0 : Int) (a1 : List Int) : Option (List Int × Int × Int) :=
 (a9B a1).bind fun y1 =>
 bif (y1 != 0) then
 some ((List.replicate 16 0), (0, y1))
 else
 (a1A (a3C) (a0, 0, a1, (List.replicate 16 0), ())).bind fun j8 =>
 some (j8.2.1, (j8.1, 0))
noncomputable def o6C (p4 : Int × List (List Int) × Int × List Int × Int × Int × List Int × List Int × (List Int × List (List Int)) × Unit) : Option ((Int × List (List Int) × Int × List Int × Int × Int × List Int × List Int × (List Int × List (List Int)) × Unit) ⊕ ((List (List Int) × Int × List Int × List Int × (List Int × List (List Int)) × Unit))) :=
 bif (decide (p4.2.2.2.2.2.1 < p4.2.2.2.2.1)) then
 bif (a2A p4.2.2.2.2.2.1 p4.2.2.2.1.length) then
 bif (a2A p4.2.2.2.2.2.1 32) then
 bif (a2A p4.1 16) then
 bif (a2A p4.2.2.2.2.2.1 32) then
 some (Sum.inl (p4.1, p4.2.1, p4.2.2.1, p4.2.2.2.1, p4.2.2.2.2.1, (IntKind.i64.wrap (p4.2.2.2.2.2.1 + 1)), p4.2.2.2.2.2.2.1, (p4.2.2.2.2.2.2.2.1.set p4.2.2.2.2.2.1.toNat (IntKind.i64.wrap ((p4.2.2.2.2.2.2.2.1.getD p4.2.2.2.2.2.1.toNat 0) + (IntKind.i64.wrap ((p4.2.2.2.2.2.2.1.getD p4.1.toNat 0) * (p4.2.2.2.1.getD p4.2.2.2.2.2.1.toNat 0)))))), p4.2.2.2.2.2.2.2.2.1, ()))
 else none
 else none
 else none
 else none
 else
 some (Sum.inr (p4.2.1, p4.2.2.1, p4.2.2.2.2.2.2.1, p4.2.2.2.2.2.2.2.1, p4.2.2.2.2.2.2.2.2.1, ()))
noncomputable def o7C (p3 : List (List Int) × Int × List Int × List Int × (List Int × List (List Int)) × Unit) : Option ((List (List Int) × Int × List Int × List Int × (List Int × List (List Int)) × Unit) ⊕ ((List Int × (List Int × List (List Int)) × Unit))) :=
 bif (decide (p3.2.1 < 16)) then
 bif (a2A p3.2.1 16) then
 (a1A (o6C) (p3.2.1, p3.1, p3.2.1, (p3.1.getD p3.2.1.toNat []), ((p3.1.getD p3.2.1.toNat []).length : Int), 0, p3.2.2.1, p3.2.2.2.1, p3.2.2.2.2.1, ())).bind fun j5 =>
 some (Sum.inl (j5.1, (IntKind.i64.wrap (j5.2.1 + 1)), j5.2.2.1, j5.2.2.2.1, j5.2.2.2.2.1, ()))
 else none
 else
 some (Sum.inr (p3.2.2.2.1, p3.2.2.2.2.1, ()))
noncomputable def o8C (p7 : Int × List Int × (List Int × List (List Int)) × Unit) : Option ((Int × List Int × (List Int × List (List Int)) × Unit) ⊕ ((List Int × Unit))) :=
 bif (decide (p7.1 < 32)) then
 bif (a2A p7.1 32) then
 (m4A (p7.2.1.getD p7.1.toNat 0) 20).bind fun y8 =>
 bif (a2A p7.1 32) then
 (m4A (IntKind.i64.wrap (y8 * (p7.2.2.1.1.getD p7.1.toNat 0))) 27).bind fun y9 =>
 bif (a2A p7.1 32) then
 some (Sum.inl ((IntKind.i64.wrap (p7.1 + 1)), (p7.2.1.set p7.1.toNat y9), p7.2.2.1, ()))
 else none
 else none
 else none
 else
 some (Sum.inr (p7.2.1, ()))
noncomputable def i0B (a0 : List Int) : Option (List Int × Int) :=
 (q9B ((a0.drop 0).take 16) 67108864).bind fun y1 =>
 bif (!y1) then
 some ((List.replicate 32 0), 1)
 else
 (h9C).bind fun y2 =>
 bif (y2.2 != 0) then
 some ((List.replicate 32 0), y2.2)
 else
 (a1A (o7C) (y2.1.2, 0, a0, (List.replicate 32 0), y2.1, ())).bind fun j6 =>
 (a1A (o8C) (0, j6.1, j6.2.1, ())).bind fun j10 =>
 some (j10.1, 0)
noncomputable def o9C (p3 : Int × Int × List Int × List Int × (List (Int × Int)) × Unit) : Option ((Int × Int × List Int × List Int × (List (Int × Int)) × Unit) ⊕ ((Int × List Int × Unit))) :=
 bif (decide (p3.2.1 < 16)) then
 bif (a2A p3.2.1 16) then
 bif (a2A p3.2.1 16) then
 (z6C (IntKind.i64.wrap ((p3.2.2.1.getD p3.2.1.toNat 0) * (((p3.2.2.2.2.1.getD p3.2.1.toNat (0, 0))).1)))).bind fun y4 =>
 bif (a2A p3.2.1 16) then
 some (Sum.inl (p3.1, (IntKind.i64.wrap (p3.2.1 + 1)), p3.2.2.1, (p3.2.2.2.1.set p3.2.1.toNat y4), p3.2.2.2.2.1, ()))
 else none
 else none
 else none
 else
 some (Sum.inr (p3.1, p3.2.2.2.1, ()))
noncomputable def j4C (a0 : List Int) (a1 : List Int) : Option (List Int × Int) :=
 (y1B a0 a1).bind fun y1 =>
 bif (!y1) then
 some ((List.replicate 16 0), 1)
 else
 (l7B a1).bind fun y2 =>
 (a1A (o9C) (y2.2.2, 0, a0, (List.replicate 16 0), y2.1, ())).bind fun j5 =>
 some (j5.2.1, j5.1)
noncomputable def i1B (a0 : List Int × List Int × Bool × Bool × Int) (a1 : List Int) : Option ((List Int × List Int × Bool × Bool × Int) × List Int × Int) :=
 (x8B a0).bind fun y1 =>
 bif (y1 != 0) then
 bif (y1 != 0) then
 some (((List.replicate 16 0), ((List.replicate 6 0), (false, (false, 0)))), ([0, 0, 0, 0, 0, 0, 0, 0, 0, 0, 0, 0, 0, 0, 0, 0], y1))
 else
 some (a0, ((List.replicate 16 0), 0))
 else
 (l9B a1 a0.2.1).bind fun y2 =>
 ((bif (y2.2 == 0) then
 bif (y2.1.1 == 1) then
 some (y2.2, (!a0.2.2.1), ((List.replicate 16 0), ((List.replicate 6 0), (false, (false, 0)))), (List.replicate 16 0), (a0, ((List.replicate 16 0), y1)), y2.1, ())
 else
 some (y2.2, false, ((List.replicate 16 0), ((List.replicate 6 0), (false, (false, 0)))), (List.replicate 16 0), (a0, ((List.replicate 16 0), y1)), y2.1, ())
 else
 some (y2.2, false, ((List.replicate 16 0), ((List.replicate 6 0), (false, (false, 0)))), (List.replicate 16 0), (a0, ((List.replicate 16 0), y1)), y2.1, ()) : Option ((Int × Bool × (List Int × List Int × Bool × Bool × Int) × List Int × ((List Int × List Int × Bool × Bool × Int) × List Int × Int) × (Int × List Int × List Int) × Unit))).bind fun j3 =>
 bif j3.2.1 then
 some (40, j3.2.2.1, j3.2.2.2.1, j3.2.2.2.2.1, j3.2.2.2.2.2.1, ())
 else
 some (j3.1, j3.2.2.1, j3.2.2.2.1, j3.2.2.2.2.1, j3.2.2.2.2.2.1, ()) : Option ((Int × (List Int × List Int × Bool × Bool × Int) × List Int × ((List Int × List Int × Bool × Bool × Int) × List Int × Int) × (Int × List Int × List Int) × Unit))).bind fun j4 =>
 (bif (j4.2.2.2.1.2.2 == 0) then
 some (j4.1, (j4.2.2.2.1.1, (j4.2.2.2.1.2.1, j4.1)), ())
 else
 some (j4.1, j4.2.2.2.1, ()) : Option ((Int × ((List Int × List Int × Bool × Bool × Int) × List Int × Int) × Unit))).bind fun j5 =>
 bif (j5.2.1.2.2 != 0) then
 bif (j5.2.1.2.2 != 0) then
 some (((List.replicate 16 0), ((List.replicate 6 0), (false, (false, 0)))), ([0, 0, 0, 0, 0, 0, 0, 0, 0, 0, 0, 0, 0, 0, 0, 0], j5.2.1.2.2))
 else
 some (j5.2.1.1, (j5.2.1.2.1, 0))
 else
 (bif (j4.2.2.2.2.1.1 == 2) then
 (y7B j5.2.1.1.2.2.2.2 j4.2.2.2.2.1.2.1).bind fun y6 =>
 (bif (j5.2.1.2.2 == 0) then
 some (y6.2.2, ((j5.2.1.1.1, (j4.2.2.2.2.1.2.1, ((j4.2.2.2.2.1.1 != 2), ((j4.2.2.2.2.1.1 == 2), y6.2.1)))), (j5.2.1.2.1, y6.2.2)), ())
 else
 some (y6.2.2, ((j5.2.1.1.1, (j4.2.2.2.2.1.2.1, ((j4.2.2.2.2.1.1 != 2), ((j4.2.2.2.2.1.1 == 2), y6.2.1)))), j5.2.1.2), ()) : Option ((Int × ((List Int × List Int × Bool × Bool × Int) × List Int × Int) × Unit))).bind fun j7 =>
 bif (j7.2.1.2.2 != 0) then
 some (j4.2.1, j4.2.2.1, j7.2.1, ())
 else
 (i0B y6.1).bind fun y8 =>
 (bif (j7.2.1.2.2 == 0) then
 some (y8.2, (j7.2.1.1, (j7.2.1.2.1, y8.2)), ())
 else
 some (y8.2, j7.2.1, ()) : Option ((Int × ((List Int × List Int × Bool × Bool × Int) × List Int × Int) × Unit))).bind fun j9 =>
 bif (j9.2.1.2.2 != 0) then
 some (j4.2.1, j4.2.2.1, j9.2.1, ())
 else
 (y0A j9.2.1.1.1 y8.1).bind fun y10 =>
 (bif (j9.2.1.2.2 == 0) then
 some (y10.2.2, ((y10.2.1, j9.2.1.1.2), (y10.1, y10.2.2)), ())
 else
 some (y10.2.2, ((y10.2.1, j9.2.1.1.2), (y10.1, j9.2.1.2.2)), ()) : Option ((Int × ((List Int × List Int × Bool × Bool × Int) × List Int × Int) × Unit))).bind fun j11 =>
 some (j4.2.1, j4.2.2.1, j11.2.1, ())
 else
 (j4C j4.2.2.2.2.1.2.2 j4.2.2.2.2.1.2.1).bind fun y12 =>
 (bif (j5.2.1.2.2 == 0) then
 some (y12.2, ((j5.2.1.1.1, (j4.2.2.2.2.1.2.1, ((j4.2.2.2.2.1.1 != 2), ((j4.2.2.2.2.1.1 == 2), j5.2.1.1.2.2.2.2)))), (j5.2.1.2.1, y12.2)), ())
 else
 some (y12.2, ((j5.2.1.1.1, (j4.2.2.2.2.1.2.1, ((j4.2.2.2.2.1.1 != 2), ((j4.2.2.2.2.1.1 == 2), j5.2.1.1.2.2.2.2)))), j5.2.1.2), ()) : Option ((Int × ((List Int × List Int × Bool × Bool × Int) × List Int × Int) × Unit))).bind fun j13 =>
 bif (j13.2.1.2.2 != 0) then
 some (j4.2.1, j4.2.2.1, j13.2.1, ())
 else
 (i0B y12.1).bind fun y14 =>
 (bif (j13.2.1.2.2 == 0) then
 some (y14.2, (j13.2.1.1, (j13.2.1.2.1, y14.2)), ())
 else
 some (y14.2, j13.2.1, ()) : Option ((Int × ((List Int × List Int × Bool × Bool × Int) × List Int × Int) × Unit))).bind fun j15 =>
 bif (j15.2.1.2.2 != 0) then
 some (j4.2.1, j4.2.2.1, j15.2.1, ())
 else
 (y0A j15.2.1.1.1 y14.1).bind fun y16 =>
 (bif (j15.2.1.2.2 == 0) then
 some (y16.2.2, ((y16.2.1, j15.2.1.1.2), (y16.1, y16.2.2)), ())
 else
 some (y16.2.2, ((y16.2.1, j15.2.1.1.2), (y16.1, j15.2.1.2.2)), ()) : Option ((Int × ((List Int × List Int × Bool × Bool × Int) × List Int × Int) × Unit))).bind fun j17 =>
 some (j4.2.1, j4.2.2.1, j17.2.1, ()) : Option (((List Int × List Int × Bool × Bool × Int) × List Int × ((List Int × List Int × Bool × Bool × Int) × List Int × Int) × Unit))).bind fun j18 =>
 bif (j18.2.2.1.2.2 != 0) then
 some (((List.replicate 16 0), ((List.replicate 6 0), (false, (false, 0)))), ([0, 0, 0, 0, 0, 0, 0, 0, 0, 0, 0, 0, 0, 0, 0, 0], j18.2.2.1.2.2))
 else
 some (j18.2.2.1.1, (j18.2.2.1.2.1, 0))
noncomputable def j5C (a0 : List Int × List Int × Bool × Bool × Int) : Option ((List Int × List Int × Bool × Bool × Int) × List Int × Int) :=
 (x8B a0).bind fun y1 =>
 (bif (y1 != 0) then
 some (((List.replicate 16 0), ((List.replicate 6 0), (false, (false, 0)))), (List.replicate 16 0), (a0, ((List.replicate 16 0), y1)), ())
 else
 bif a0.2.2.2.1 then
 (y7B a0.2.2.2.2 a0.2.1).bind fun y2 =>
 (bif (y1 == 0) then
 some (y2.2.2, ((a0.1, (a0.2.1, (a0.2.2.1, (a0.2.2.2.1, y2.2.1)))), ((List.replicate 16 0), y2.2.2)), ())
 else
 some (y2.2.2, ((a0.1, (a0.2.1, (a0.2.2.1, (a0.2.2.2.1, y2.2.1)))), ((List.replicate 16 0), y1)), ()) : Option ((Int × ((List Int × List Int × Bool × Bool × Int) × List Int × Int) × Unit))).bind fun j3 =>
 bif (j3.2.1.2.2 != 0) then
 some (((List.replicate 16 0), ((List.replicate 6 0), (false, (false, 0)))), (List.replicate 16 0), j3.2.1, ())
 else
 (i0B y2.1).bind fun y4 =>
 (bif (j3.2.1.2.2 == 0) then
 some (y4.2, (j3.2.1.1, (j3.2.1.2.1, y4.2)), ())
 else
 some (y4.2, j3.2.1, ()) : Option ((Int × ((List Int × List Int × Bool × Bool × Int) × List Int × Int) × Unit))).bind fun j5 =>
 bif (j5.2.1.2.2 != 0) then
 some (((List.replicate 16 0), ((List.replicate 6 0), (false, (false, 0)))), (List.replicate 16 0), j5.2.1, ())
 else
 (y0A j5.2.1.1.1 y4.1).bind fun y6 =>
 (bif (j5.2.1.2.2 == 0) then
 some (y6.2.2, ((y6.2.1, j5.2.1.1.2), (y6.1, y6.2.2)), ())
 else
 some (y6.2.2, ((y6.2.1, j5.2.1.1.2), (y6.1, j5.2.1.2.2)), ()) : Option ((Int × ((List Int × List Int × Bool × Bool × Int) × List Int × Int) × Unit))).bind fun j7 =>
 some (((List.replicate 16 0), ((List.replicate 6 0), (false, (false, 0)))), (List.replicate 16 0), j7.2.1, ())
 else
 (bif (y1 == 0) then
 some (0, ((a0.1, (a0.2.1, (false, a0.2.2.2))), ((List.replicate 16 0), 0)), ())
 else
 some (0, ((a0.1, (a0.2.1, (false, a0.2.2.2))), ((List.replicate 16 0), y1)), ()) : Option ((Int × ((List Int × List Int × Bool × Bool × Int) × List Int × Int) × Unit))).bind fun j8 =>
 bif (j8.2.1.2.2 != 0) then
 some (((List.replicate 16 0), ((List.replicate 6 0), (false, (false, 0)))), (List.replicate 16 0), j8.2.1, ())
 else
 (i0B [0, 0, 0, 0, 0, 0, 0, 0, 0, 0, 0, 0, 0, 0, 0, 0]).bind fun y9 =>
 (bif (j8.2.1.2.2 == 0) then
 some (y9.2, (j8.2.1.1, (j8.2.1.2.1, y9.2)), ())
 else
 some (y9.2, j8.2.1, ()) : Option ((Int × ((List Int × List Int × Bool × Bool × Int) × List Int × Int) × Unit))).bind fun j10 =>
 bif (j10.2.1.2.2 != 0) then
 some (((List.replicate 16 0), ((List.replicate 6 0), (false, (false, 0)))), (List.replicate 16 0), j10.2.1, ())
 else
 (y0A j10.2.1.1.1 y9.1).bind fun y11 =>
 (bif (j10.2.1.2.2 == 0) then
 some (y11.2.2, ((y11.2.1, j10.2.1.1.2), (y11.1, y11.2.2)), ())
 else
 some (y11.2.2, ((y11.2.1, j10.2.1.1.2), (y11.1, j10.2.1.2.2)), ()) : Option ((Int × ((List Int × List Int × Bool × Bool × Int) × List Int × Int) × Unit))).bind fun j12 =>
 some (((List.replicate 16 0), ((List.replicate 6 0), (false, (false, 0)))), (List.replicate 16 0), j12.2.1, ()) : Option (((List Int × List Int × Bool × Bool × Int) × List Int × ((List Int × List Int × Bool × Bool × Int) × List Int × Int) × Unit))).bind fun j13 =>
 bif (j13.2.2.1.2.2 != 0) then
 some (((List.replicate 16 0), ((List.replicate 6 0), (false, (false, 0)))), ([0, 0, 0, 0, 0, 0, 0, 0, 0, 0, 0, 0, 0, 0, 0, 0], j13.2.2.1.2.2))
 else
 some (j13.2.2.1.1, (j13.2.2.1.2.1, 0))
noncomputable def m0B (a0 : List Int × Int × Int × Int × List Int × List Int × Bool × Bool × Int) (a1 : List Int) : Option ((List Int × Int × Int × Int × List Int × List Int × Bool × Bool × Int) × List Int × Int) :=
 (r0B a0.1 a1).bind fun y1 =>
 (bif (y1.2.2 != 0) then
 some (true, a0, a1, ((List.replicate 16 0), (0, (0, (0, ((List.replicate 16 0), ((List.replicate 6 0), (false, (false, 0)))))))), y1.1, y1.2.1, ())
 else
 (i4C a0).bind fun y2 =>
 some ((y2 != 0), a0, a1, ((List.replicate 16 0), (0, (0, (0, ((List.replicate 16 0), ((List.replicate 6 0), (false, (false, 0)))))))), y1.1, y1.2.1, ()) : Option ((Bool × (List Int × Int × Int × Int × List Int × List Int × Bool × Bool × Int) × List Int × (List Int × Int × Int × Int × List Int × List Int × Bool × Bool × Int) × List Int × List Int × Unit))).bind fun j3 =>
 bif j3.1 then
 some (((List.replicate 16 0), (0, (0, (0, ((List.replicate 16 0), ((List.replicate 6 0), (false, (false, 0)))))))), ([], 1))
 else
 (i5C j3.2.2.2.2.2.1).bind fun y4 =>
 ((bif (decide (y4 ≥ 100)) then
 some ((decide (y4 ≥ 100)), [], true, j3.2.1, j3.2.2.2.1, ((j3.2.2.1, j3.2.1.2), (j3.2.2.2.2.1, j3.2.2.2.2.2.1)), ())
 else
 some ((decide (y4 ≥ 100)), [], (decide (j3.2.1.2.1 > 0)), j3.2.1, j3.2.2.2.1, ((j3.2.2.1, j3.2.1.2), (j3.2.2.2.2.1, j3.2.2.2.2.2.1)), ()) : Option ((Bool × List Int × Bool × (List Int × Int × Int × Int × List Int × List Int × Bool × Bool × Int) × (List Int × Int × Int × Int × List Int × List Int × Bool × Bool × Int) × ((List Int × Int × Int × Int × List Int × List Int × Bool × Bool × Int) × List Int × List Int) × Unit))).bind fun j5 =>
 bif j5.2.2.1 then
 ((bif (!j5.2.2.2.2.2.1.1.2.2.2.2.2.2.1) then
 some (true, j5.2.2.2.2.2.1, (1, (j5.2.2.2.2.2.1.2.2, (List.replicate 16 0))), ())
 else
 bif ((j5.2.2.2.2.2.1.1.2.2.1.tmod 8) == 0) then
 some (true, j5.2.2.2.2.2.1, (1, (j5.2.2.2.2.2.1.2.2, (List.replicate 16 0))), ())
 else
 (r1B j5.2.2.2.2.2.1.2.2 j5.2.2.2.2.2.1.1.2.2.2.2.2.1).bind fun y6 =>
 some ((!y6), j5.2.2.2.2.2.1, (1, (j5.2.2.2.2.2.1.2.2, (List.replicate 16 0))), ()) : Option ((Bool × ((List Int × Int × Int × Int × List Int × List Int × Bool × Bool × Int) × List Int × List Int) × (Int × List Int × List Int) × Unit))).bind fun j7 =>
 bif j7.1 then
 some (j7.2.1, (0, j7.2.2.1.2), ())
 else
 some (j7.2.1, j7.2.2.1, ()) : Option ((((List Int × Int × Int × Int × List Int × List Int × Bool × Bool × Int) × List Int × List Int) × (Int × List Int × List Int) × Unit))).bind fun j8 =>
 (y5C j8.1.2.1 j8.1.2.2).bind fun y9 =>
 bif (y9.2.2 == 0) then
 ((h8B (j8.2.1.1, (j8.2.1.2.1, y9.1)) j8.1.1.2.2.2.2.2.1).bind fun y10 =>
 bif (y10.2 == 0) then
 (i1B j8.1.1.2.2.2.2 y10.1).bind fun y11 =>
 some ((j8.2.1.1, (j8.2.1.2.1, y9.1)), y10.1, y11.2.2, ((j8.1.1.1, (j8.1.1.2.1, ((IntKind.i64.wrap (j8.1.1.2.2.1 + 1)), (0, y11.1)))), j8.1.2), ())
 else
 some ((j8.2.1.1, (j8.2.1.2.1, y9.1)), y10.1, y10.2, ((j8.1.1.1, (j8.1.1.2.1, ((IntKind.i64.wrap (j8.1.1.2.2.1 + 1)), (0, j8.1.1.2.2.2.2)))), j8.1.2), ()) : Option (((Int × List Int × List Int) × List Int × Int × ((List Int × Int × Int × Int × List Int × List Int × Bool × Bool × Int) × List Int × List Int) × Unit))).bind fun j12 =>
 some (j12.2.2.1, j5.1, j12.2.1, j5.2.2.2.1, j5.2.2.2.2.1, j12.2.2.2.1, ())
 else
 some (y9.2.2, j5.1, j5.2.1, j5.2.2.2.1, j5.2.2.2.2.1, ((j8.1.1.1, (j8.1.1.2.1, ((IntKind.i64.wrap (j8.1.1.2.2.1 + 1)), (0, j8.1.1.2.2.2.2)))), j8.1.2), ())
 else
 bif ((j5.2.2.2.2.2.1.1.2.2.2.1.tmod 8) == 0) then
 ((h8B (2, (j5.2.2.2.2.2.1.2.2, (List.replicate 16 0))) j5.2.2.2.2.2.1.1.2.2.2.2.2.1).bind fun y13 =>
 bif (y13.2 == 0) then
 (i1B j5.2.2.2.2.2.1.1.2.2.2.2 y13.1).bind fun y14 =>
 some ((2, (j5.2.2.2.2.2.1.2.2, (List.replicate 16 0))), y13.1, y14.2.2, ((j5.2.2.2.2.2.1.1.1, (j5.2.2.2.2.2.1.1.2.1, (0, ((IntKind.i64.wrap (j5.2.2.2.2.2.1.1.2.2.2.1 + 1)), y14.1)))), j5.2.2.2.2.2.1.2), ())
 else
 some ((2, (j5.2.2.2.2.2.1.2.2, (List.replicate 16 0))), y13.1, y13.2, ((j5.2.2.2.2.2.1.1.1, (j5.2.2.2.2.2.1.1.2.1, (0, ((IntKind.i64.wrap (j5.2.2.2.2.2.1.1.2.2.2.1 + 1)), j5.2.2.2.2.2.1.1.2.2.2.2)))), j5.2.2.2.2.2.1.2), ()) : Option (((Int × List Int × List Int) × List Int × Int × ((List Int × Int × Int × Int × List Int × List Int × Bool × Bool × Int) × List Int × List Int) × Unit))).bind fun j15 =>
 some (j15.2.2.1, j5.1, j15.2.1, j5.2.2.2.1, j5.2.2.2.2.1, j15.2.2.2.1, ())
 else
 (j5C j5.2.2.2.2.2.1.1.2.2.2.2).bind fun y16 =>
 some (y16.2.2, j5.1, j5.2.1, j5.2.2.2.1, j5.2.2.2.2.1, ((j5.2.2.2.2.2.1.1.1, (j5.2.2.2.2.2.1.1.2.1, (0, ((IntKind.i64.wrap (j5.2.2.2.2.2.1.1.2.2.2.1 + 1)), y16.1)))), j5.2.2.2.2.2.1.2), ()) : Option ((Int × Bool × List Int × (List Int × Int × Int × Int × List Int × List Int × Bool × Bool × Int) × (List Int × Int × Int × Int × List Int × List Int × Bool × Bool × Int) × ((List Int × Int × Int × Int × List Int × List Int × Bool × Bool × Int) × List Int × List Int) × Unit))).bind fun j17 =>
 (bif j17.2.1 then
 some (j17.1, j17.2.2.1, j17.2.2.2.2.1, ((j17.2.2.2.2.2.1.1.1, (4, j17.2.2.2.2.2.1.1.2.2)), j17.2.2.2.2.2.1.2), ())
 else
 some (j17.1, j17.2.2.1, j17.2.2.2.2.1, ((j17.2.2.2.2.2.1.1.1, ((if 0 < (IntKind.i64.wrap (j17.2.2.2.1.2.1 - 1)) then (IntKind.i64.wrap (j17.2.2.2.1.2.1 - 1)) else 0), j17.2.2.2.2.2.1.1.2.2)), j17.2.2.2.2.2.1.2), ()) : Option ((Int × List Int × (List Int × Int × Int × Int × List Int × List Int × Bool × Bool × Int) × ((List Int × Int × Int × Int × List Int × List Int × Bool × Bool × Int) × List Int × List Int) × Unit))).bind fun j18 =>
 bif (j18.1 != 0) then
 some (((List.replicate 16 0), (0, (0, (0, ((List.replicate 16 0), ((List.replicate 6 0), (false, (false, 0)))))))), ([], j18.1))
 else
 some (j18.2.2.2.1.1, (j18.2.1, 0))
noncomputable def m1B (a0 : List Int) : Option (Int × Int) :=
 (bif ((a0.length : Int) == 0) then
 some (true, 0, ())
 else
 (bif (decide ((a0.length : Int) > 40)) then
 some (a0, ((0, (0, (0, (([], 0), 0)))), 21), ())
 else
 (j1C a0).bind fun y1 =>
 (h9B (y1.1, y1.2)).bind fun y2 =>
 some (a0, ((y2.1.1, (y2.1.2.1, (y2.1.2.2.1, ((y2.1.2.2.2.1.1, y2.1.2.2.2.1.2), y2.1.2.2.2.2)))), y2.2), ()) : Option ((List Int × ((Int × Int × Int × (List Int × Int) × Int) × Int) × Unit))).bind fun j3 =>
 (y2B).bind fun y4 =>
 bif (j3.2.1.2 == 0) then
 (n6A (j3.2.1.1.1, (j3.2.1.1.2.1, (j3.2.1.1.2.2.1, ((j3.2.1.1.2.2.2.1.1, j3.2.1.1.2.2.2.1.2), j3.2.1.1.2.2.2.2)))) y4).bind fun y5 =>
 some ((!(y5.2.2 == 0)), y5.2.1, ())
 else
 some ((!(j3.2.1.2 == 0)), 0, ()) : Option ((Bool × Int × Unit))).bind fun j6 =>
 bif j6.1 then
 some (0, 21)
 else
 some (j6.2.1, 0)
noncomputable def z7C : Option (Bool) :=
 (x3C).bind fun y1 =>
 (m0B y1 [0, 0, 0, 0, 0, 0, 0, 0, 0, 0, 0, 0, 0, 0, 0, 0]).bind fun y2 =>
 (m1B y2.2.1).bind fun y3 =>
 (m0B y2.1 [0, 0, 0, 0, 0, 0, 0, 0, 0, 0, 0, 0, 0, 0, 0, 0]).bind fun y4 =>
 bif (y2.2.2 == 0) then
 bif (y3.1 == 2) then
 bif (y3.2 == 0) then
 bif ((y4.2.1.length : Int) == 0) then
 bif (y4.2.2 == 0) then
 bif (y2.1.2.2.2.1 == 1) then
 some y2.1.2.2.2.2.2.2.2.1
 else
 some false
 else
 some false
 else
 some false
 else
 some false
 else
 some false
 else
 some false
noncomputable def m7B (p1 : List Int × Int × Unit) : Option ((List Int × Int × Unit) ⊕ (Unit ⊕ (Int × Unit))) :=
 bif (decide (p1.2.1 < 16)) then
 bif (a2A p1.2.1 16) then
 (bif (decide ((p1.1.getD p1.2.1.toNat 0) < (-32768))) then
 some (p1.1, p1.2.1, true, ())
 else
 some (p1.1, p1.2.1, (decide ((p1.1.getD p1.2.1.toNat 0) > 32767)), ()) : Option ((List Int × Int × Bool × Unit))).bind fun j2 =>
 bif j2.2.2.1 then
 some (Sum.inr (Sum.inr (1, ())))
 else
 some (Sum.inl (j2.1, (IntKind.i64.wrap (j2.2.1 + 1)), ()))
 else none
 else
 some (Sum.inr (Sum.inl ()))
noncomputable def y8B (a0 : List Int) : Option (Int) :=
 (a1A (m7B) (a0, 0, ())).bind fun j3 =>
 (match j3 with
 | .inl j4 =>
 (some 0)
 | .inr j5 =>
 (some j5.1))
noncomputable def e1B (p1 : Int × Int × Int × Unit) : Option ((Int × Int × Int × Unit) ⊕ ((Int × Unit))) :=
 bif (decide (p1.2.2.1 ≥ 0)) then
 (bif (decide (0 ≤ (IntKind.u64.wrap p1.2.2.1))) then
 bif (decide ((IntKind.u64.wrap ((d4A .or .u64 p1.2.1 (c9A .u64 1 (IntKind.u64.wrap p1.2.2.1))) * (d4A .or .u64 p1.2.1 (c9A .u64 1 (IntKind.u64.wrap p1.2.2.1))))) ≤ p1.1)) then
 some (p1.1, (d4A .or .u64 p1.2.1 (c9A .u64 1 (IntKind.u64.wrap p1.2.2.1))), p1.2.2.1, ())
 else
 some (p1.1, p1.2.1, p1.2.2.1, ())
 else none : Option ((Int × Int × Int × Unit))).bind fun j2 =>
 some (Sum.inl (j2.1, j2.2.1, (IntKind.i64.wrap (j2.2.2.1 - 1)), ()))
 else
 some (Sum.inr (p1.2.1, ()))
noncomputable def m5A (a0 : Int) : Option (Int) :=
 (a1A (e1B) (a0, 0, 31, ())).bind fun j3 =>
 some j3.1
noncomputable def r7A (rec : (Int) → Option (Int × Int)) (a0 : Int) : Option (Int × Int) :=
 bif (a0 == 1) then
 some ((IntKind.i64.wrap (0 - 1073741824)), 0)
 else
 bif (a0 == 2) then
 some (0, 1073741824)
 else
 (rec (IntKind.i64.wrap (a0 - 1))).bind fun y1 =>
 (m5A (c9A .u64 (IntKind.u64.wrap (IntKind.i64.wrap (1073741824 + y1.1))) 29)).bind fun y2 =>
 (m5A (c9A .u64 (IntKind.u64.wrap (IntKind.i64.wrap (1073741824 - y1.1))) 29)).bind fun y3 =>
 some ((IntKind.i64.wrap y2), (IntKind.i64.wrap y3))
noncomputable def z8C (a0 : Int) : Option (Int × Int) :=
 r6B (fun rec x => r7A rec x) a0
noncomputable def l6A (a0 : Int) (a1 : Int) : Option (Int) :=
 bif (decide (a1 < 1)) then
 some a0
 else
 bif (decide (a1 > 62)) then
 some 0
 else
 bif (decide (0 ≤ (IntKind.u64.wrap a1))) then
 bif (decide (0 ≤ (IntKind.u64.wrap a1))) then
 (bif (decide (0 ≤ (IntKind.u64.wrap (IntKind.i64.wrap (a1 - 1))))) then
 bif (decide ((IntKind.i64.wrap (a0 - (c9A .i64 (c5A .i64 a0 (IntKind.u64.wrap a1)) (IntKind.u64.wrap a1)))) ≥ (c9A .i64 1 (IntKind.u64.wrap (IntKind.i64.wrap (a1 - 1)))))) then
 some ((IntKind.i64.wrap ((c5A .i64 a0 (IntKind.u64.wrap a1)) + 1)), ())
 else
 some ((c5A .i64 a0 (IntKind.u64.wrap a1)), ())
 else none : Option ((Int × Unit))).bind fun j1 =>
 some j1.1
 else none
 else none
noncomputable def a4C (p1 : Int × Int × Int × Int × Unit) : Option ((Int × Int × Int × Int × Unit) ⊕ ((Int × Int × Unit))) :=
 bif (decide (p1.2.2.2.1 ≤ 7)) then
 (bif (decide (0 ≤ (IntKind.u64.wrap (IntKind.i64.wrap (7 - p1.2.2.2.1))))) then
 bif ((d4A .and .i64 (c5A .i64 p1.1 (IntKind.u64.wrap (IntKind.i64.wrap (7 - p1.2.2.2.1)))) 1) == 0) then
 some (p1.1, p1.2.1, p1.2.2.1, p1.2.2.2.1, ())
 else
 (z8C p1.2.2.2.1).bind fun y2 =>
 (l6A (IntKind.i64.wrap ((IntKind.i64.wrap (p1.2.1 * y2.1)) - (IntKind.i64.wrap (p1.2.2.1 * y2.2)))) 30).bind fun y3 =>
 (l6A (IntKind.i64.wrap ((IntKind.i64.wrap (p1.2.1 * y2.2)) + (IntKind.i64.wrap (p1.2.2.1 * y2.1)))) 30).bind fun y4 =>
 some (p1.1, y3, y4, p1.2.2.2.1, ())
 else none : Option ((Int × Int × Int × Int × Unit))).bind fun j5 =>
 some (Sum.inl (j5.1, j5.2.1, j5.2.2.1, (IntKind.i64.wrap (j5.2.2.2.1 + 1)), ()))
 else
 some (Sum.inr (p1.2.1, p1.2.2.1, ()))
noncomputable def j6C (a0 : Int) : Option (Int × Int) :=
 (a1A (a4C) (((IntKind.i64.wrap ((a0.tmod 128) + 128)).tmod 128), 1073741824, 0, 1, ())).bind fun j6 =>
 some (j6.1, j6.2.1)
noncomputable def z9C (a0 : Int) : Option (Int) :=
 (j6C a0).bind fun y1 =>
 (l6A y1.1 6).bind fun y2 =>
 some y2
noncomputable def a0D (a0 : Int) : Option (Int) :=
 (j6C a0).bind fun y1 =>
 (l6A y1.2 6).bind fun y2 =>
 some y2
noncomputable def c3D (p1 : Int × (List Int × List Int) × (List Int × List Int) × Unit) : Option ((Int × (List Int × List Int) × (List Int × List Int) × Unit) ⊕ (((List Int × List Int) × (List Int × List Int) × Unit))) :=
 bif (decide (p1.1 < 128)) then
 (z9C p1.1).bind fun y2 =>
 bif (a2A p1.1 128) then
 (a0D p1.1).bind fun y3 =>
 bif (a2A p1.1 128) then
 some (Sum.inl ((IntKind.i64.wrap (p1.1 + 1)), p1.2.1, ((p1.2.2.1.1.set p1.1.toNat y2), (p1.2.2.1.2.set p1.1.toNat y3)), ()))
 else none
 else none
 else
 some (Sum.inr (p1.2.1, p1.2.2.1, ()))
noncomputable def j7C : Option (List Int × List Int) :=
 (a1A (c3D) (0, ((List.replicate 128 0), (List.replicate 128 0)), ((List.replicate 128 0), (List.replicate 128 0)), ())).bind fun j4 =>
 some j4.2.1
noncomputable def j8C (a0 : List Int × List Int) (a1 : Int) : Option (Int) :=
 bif (a2A (IntKind.i64.wrap ((IntKind.i64.wrap (2 * a1)) + 1)) 128) then
 some (a0.2.getD ((IntKind.i64.wrap ((IntKind.i64.wrap (2 * a1)) + 1)).toNat) 0)
 else none
noncomputable def j9C (a0 : List Int × List Int) (a1 : Int) (a2 : Int) : Option (Int) :=
 bif (a2A ((IntKind.i64.wrap ((IntKind.i64.wrap ((IntKind.i64.wrap (2 * a1)) + 17)) * (IntKind.i64.wrap ((IntKind.i64.wrap (2 * a2)) + 1)))).tmod 128) 128) then
 some (a0.1.getD (((IntKind.i64.wrap ((IntKind.i64.wrap ((IntKind.i64.wrap (2 * a1)) + 17)) * (IntKind.i64.wrap ((IntKind.i64.wrap (2 * a2)) + 1)))).tmod 128).toNat) 0)
 else none
noncomputable def a5C (p6 : Int × Int × Int × Int × List Int × List Int × List Int × List Int × (List Int × List Int) × Unit) : Option ((Int × Int × Int × Int × List Int × List Int × List Int × List Int × (List Int × List Int) × Unit) ⊕ ((Int × Int × Int × List Int × List Int × List Int × List Int × (List Int × List Int) × Unit))) :=
 bif (decide (p6.2.2.2.1 < 32)) then
 (bif (decide (p6.2.2.2.1 < 16)) then
 bif (a2A p6.2.2.2.1 16) then
 some (p6.1, p6.2.1, p6.2.2.2.1, (p6.2.2.2.2.1.getD p6.2.2.2.1.toNat 0), p6.2.2.1, p6.2.2.2.1, p6.2.2.2.2.1, p6.2.2.2.2.2.1, p6.2.2.2.2.2.2.1, p6.2.2.2.2.2.2.2.1, p6.2.2.2.2.2.2.2.2.1, ())
 else none
 else
 bif (a2A (IntKind.i64.wrap (p6.2.2.2.1 - 16)) 16) then
 some (p6.1, p6.2.1, p6.2.2.2.1, (p6.2.2.2.2.2.1.getD ((IntKind.i64.wrap (p6.2.2.2.1 - 16)).toNat) 0), p6.2.2.1, p6.2.2.2.1, p6.2.2.2.2.1, p6.2.2.2.2.2.1, p6.2.2.2.2.2.2.1, p6.2.2.2.2.2.2.2.1, p6.2.2.2.2.2.2.2.2.1, ())
 else none : Option ((Int × Int × Int × Int × Int × Int × List Int × List Int × List Int × List Int × (List Int × List Int) × Unit))).bind fun j7 =>
 (j8C j7.2.2.2.2.2.2.2.2.2.2.1 j7.2.2.1).bind fun y8 =>
 (l6A (IntKind.i64.wrap (j7.2.2.2.1 * y8)) 16).bind fun y9 =>
 (j9C j7.2.2.2.2.2.2.2.2.2.2.1 j7.2.2.1 j7.1).bind fun y10 =>
 some (Sum.inl (j7.1, (IntKind.i64.wrap (j7.2.1 + (IntKind.i64.wrap (y9 * y10)))), j7.2.2.2.2.1, (IntKind.i64.wrap (j7.2.2.2.2.2.1 + 1)), j7.2.2.2.2.2.2.1, j7.2.2.2.2.2.2.2.1, j7.2.2.2.2.2.2.2.2.1, j7.2.2.2.2.2.2.2.2.2.1, j7.2.2.2.2.2.2.2.2.2.2.1, ()))
 else
 some (Sum.inr (p6.1, p6.2.1, p6.2.2.1, p6.2.2.2.2.1, p6.2.2.2.2.2.1, p6.2.2.2.2.2.2.1, p6.2.2.2.2.2.2.2.1, p6.2.2.2.2.2.2.2.2.1, ()))
noncomputable def p0C (p5 : Int × List Int × List Int × List Int × List Int × (List Int × List Int) × Unit) : Option ((Int × List Int × List Int × List Int × List Int × (List Int × List Int) × Unit) ⊕ ((List Int × List Int × Unit))) :=
 bif (decide (p5.1 < 16)) then
 (a1A (a5C) (p5.1, 0, p5.1, 0, p5.2.1, p5.2.2.1, p5.2.2.2.1, p5.2.2.2.2.1, p5.2.2.2.2.2.1, ())).bind fun j11 =>
 (l6A j11.2.1 28).bind fun y12 =>
 bif (a2A j11.1 16) then
 some (Sum.inl ((IntKind.i64.wrap (j11.2.2.1 + 1)), j11.2.2.2.1, j11.2.2.2.2.1, j11.2.2.2.2.2.1, (j11.2.2.2.2.2.2.1.set j11.1.toNat y12), j11.2.2.2.2.2.2.2.1, ()))
 else none
 else
 some (Sum.inr (p5.2.2.2.1, p5.2.2.2.2.1, ()))
noncomputable def m2B (a0 : List Int) (a1 : List Int) : Option (List Int × Int) :=
 ((y8B a0).bind fun y1 =>
 bif (y1 != 0) then
 some (true, a0, a1, (List.replicate 16 0), (List.replicate 16 0), ())
 else
 (y8B a1).bind fun y2 =>
 some ((y2 != 0), a0, a1, (List.replicate 16 0), (List.replicate 16 0), ()) : Option ((Bool × List Int × List Int × List Int × List Int × Unit))).bind fun j3 =>
 bif j3.1 then
 some (j3.2.2.2.2.1, 1)
 else
 (j7C).bind fun y4 =>
 (a1A (p0C) (0, j3.2.1, j3.2.2.1, j3.2.2.2.1, j3.2.2.2.2.1, y4, ())).bind fun j13 =>
 some (j13.2.1, 0)
noncomputable def r7B (a0 : Int) (a1 : Int) : Option (Bool) :=
 bif (decide (a0 ≥ (IntKind.i64.wrap (0 - a1)))) then
 some (decide (a0 ≤ a1))
 else
 some false
noncomputable def a6C (p1 : List Int × Int × Unit) : Option ((List Int × Int × Unit) ⊕ (Unit ⊕ (Bool × Unit))) :=
 bif (decide (p1.2.1 < 16)) then
 bif (a2A p1.2.1 16) then
 (r7B (p1.1.getD p1.2.1.toNat 0) 1099511627776).bind fun y2 =>
 bif (!y2) then
 some (Sum.inr (Sum.inr (false, ())))
 else
 some (Sum.inl (p1.1, (IntKind.i64.wrap (p1.2.1 + 1)), ()))
 else none
 else
 some (Sum.inr (Sum.inl ()))
noncomputable def k0C (a0 : List Int) : Option (Bool) :=
 (a1A (a6C) (a0, 0, ())).bind fun j3 =>
 (match j3 with
 | .inl j4 =>
 (some true)
 | .inr j5 =>
 (some j5.1))
noncomputable def m8B (p1 : List Int × Int × Unit) : Option ((List Int × Int × Unit) ⊕ (Unit ⊕ (Int × Unit))) :=
 bif (decide (p1.2.1 < 6)) then
 bif (a2A p1.2.1 6) then
 (bif (decide ((p1.1.getD p1.2.1.toNat 0) < 0)) then
 some (p1.1, p1.2.1, true, ())
 else
 some (p1.1, p1.2.1, (decide ((p1.1.getD p1.2.1.toNat 0) > 255)), ()) : Option ((List Int × Int × Bool × Unit))).bind fun j2 =>
 bif j2.2.2.1 then
 some (Sum.inr (Sum.inr (1, ())))
 else
 some (Sum.inl (j2.1, (IntKind.i64.wrap (j2.2.1 + 1)), ()))
 else none
 else
 some (Sum.inr (Sum.inl ()))
noncomputable def y3A (a0 : List Int) : Option (Int) :=
 (a1A (m8B) (a0, 0, ())).bind fun j3 =>
 (match j3 with
 | .inl j4 =>
 (some 0)
 | .inr j5 =>
 (some j5.1))
noncomputable def y9B (a0 : List Int × List Int × Bool × Bool × Int) : Option (Int) :=
 ((k0C a0.1).bind fun y1 =>
 bif (!y1) then
 some (true, ())
 else
 (y3A a0.2.1).bind fun y2 =>
 bif (y2 != 0) then
 some (true, ())
 else
 bif a0.2.2.1 then
 some (a0.2.2.2.1, ())
 else
 some (false, ()) : Option ((Bool × Unit))).bind fun j3 =>
 bif j3.1 then
 some 1
 else
 some 0
noncomputable def k1C (a0 : List Int × Int × Int × Int × List Int × List Int × Bool × Bool × Int) : Option (Int) :=
 ((y8B a0.1).bind fun y1 =>
 bif (y1 != 0) then
 some (true, ())
 else
 bif (decide (a0.2.1 < 0)) then
 some (true, ())
 else
 bif (decide (a0.2.1 > 4)) then
 some (true, ())
 else
 bif (decide (a0.2.2.1 < 0)) then
 some (true, ())
 else
 bif (decide (a0.2.2.1 > 1099511627776)) then
 some (true, ())
 else
 bif (decide (a0.2.2.2.1 < 0)) then
 some (true, ())
 else
 bif (decide (a0.2.2.2.1 > 1099511627776)) then
 some (true, ())
 else
 (y9B a0.2.2.2.2).bind fun y2 =>
 some ((y2 != 0), ()) : Option ((Bool × Unit))).bind fun j3 =>
 bif j3.1 then
 some 1
 else
 some 0
noncomputable def a7C (p1 : List Int × Int × Unit) : Option ((List Int × Int × Unit) ⊕ (Unit ⊕ (Bool × Unit))) :=
 bif (decide (p1.2.1 < 16)) then
 bif (a2A p1.2.1 16) then
 (r7B (p1.1.getD p1.2.1.toNat 0) 67108864).bind fun y2 =>
 bif (!y2) then
 some (Sum.inr (Sum.inr (false, ())))
 else
 some (Sum.inl (p1.1, (IntKind.i64.wrap (p1.2.1 + 1)), ()))
 else none
 else
 some (Sum.inr (Sum.inl ()))
noncomputable def z0B (a0 : List Int) : Option (Bool) :=
 (a1A (a7C) (a0, 0, ())).bind fun j3 =>
 (match j3 with
 | .inl j4 =>
 (some true)
 | .inr j5 =>
 (some j5.1))
noncomputable def i2B (a0 : Int) : Option (Int) :=
 bif (a2A a0 7) then
 some ([0, 1, 2, 4, 6, 10, 16].getD a0.toNat 0)
 else none
noncomputable def p1C (p2 : List Int × List Int × Int × Int × Int × List Int × Int × Int × List Int × Int × Int × Unit) : Option ((List Int × List Int × Int × Int × Int × List Int × Int × Int × List Int × Int × Int × Unit) ⊕ ((List Int × List Int × Int × Int × List Int × Int × Int × Unit))) :=
 bif (decide (p2.2.2.2.2.2.2.2.2.2.2.1 < p2.2.2.2.2.2.2.2.2.2.1)) then
 bif (a2A p2.2.2.2.2.2.2.2.2.2.2.1 p2.2.2.2.2.2.2.2.2.1.length) then
 bif (a2A (IntKind.i64.wrap (p2.2.2.1 + p2.2.2.2.2.2.2.2.2.2.2.1)) p2.2.1.length) then
 bif (a2A (IntKind.i64.wrap (p2.2.2.1 + p2.2.2.2.2.2.2.2.2.2.2.1)) p2.2.1.length) then
 some (Sum.inl (p2.1, (p2.2.1.set ((IntKind.i64.wrap (p2.2.2.1 + p2.2.2.2.2.2.2.2.2.2.2.1)).toNat) (d4A .and .u64 (IntKind.u64.wrap ((IntKind.u64.wrap ((IntKind.u64.wrap (p2.2.2.2.1 * (p2.2.2.2.2.2.2.2.2.1.getD p2.2.2.2.2.2.2.2.2.2.2.1.toNat 0))) + (p2.2.1.getD ((IntKind.i64.wrap (p2.2.2.1 + p2.2.2.2.2.2.2.2.2.2.2.1)).toNat) 0))) + p2.2.2.2.2.1)) 4294967295)), p2.2.2.1, p2.2.2.2.1, (c5A .u64 (IntKind.u64.wrap ((IntKind.u64.wrap ((IntKind.u64.wrap (p2.2.2.2.1 * (p2.2.2.2.2.2.2.2.2.1.getD p2.2.2.2.2.2.2.2.2.2.2.1.toNat 0))) + (p2.2.1.getD ((IntKind.i64.wrap (p2.2.2.1 + p2.2.2.2.2.2.2.2.2.2.2.1)).toNat) 0))) + p2.2.2.2.2.1)) 32), p2.2.2.2.2.2.1, p2.2.2.2.2.2.2.1, p2.2.2.2.2.2.2.2.1, p2.2.2.2.2.2.2.2.2.1, p2.2.2.2.2.2.2.2.2.2.1, (IntKind.i64.wrap (p2.2.2.2.2.2.2.2.2.2.2.1 + 1)), ()))
 else none
 else none
 else none
 else
 some (Sum.inr (p2.1, p2.2.1, p2.2.2.1, p2.2.2.2.2.1, p2.2.2.2.2.2.1, p2.2.2.2.2.2.2.1, p2.2.2.2.2.2.2.2.1, ()))
noncomputable def p2C (p1 : List Int × List Int × List Int × Int × Int × Unit) : Option ((List Int × List Int × List Int × Int × Int × Unit) ⊕ ((List Int × Unit))) :=
 bif (decide (p1.2.2.2.2.1 < p1.2.2.2.1)) then
 bif (a2A p1.2.2.2.2.1 p1.2.2.1.length) then
 (a1A (p1C) (p1.1, p1.2.1, p1.2.2.2.2.1, (p1.2.2.1.getD p1.2.2.2.2.1.toNat 0), 0, p1.2.2.1, p1.2.2.2.1, p1.2.2.2.2.1, p1.1, (p1.1.length : Int), 0, ())).bind fun j3 =>
 bif (a2A (IntKind.i64.wrap (j3.2.2.1 + (j3.1.length : Int))) j3.2.1.length) then
 bif (a2A (IntKind.i64.wrap (j3.2.2.1 + (j3.1.length : Int))) j3.2.1.length) then
 some (Sum.inl (j3.1, (j3.2.1.set ((IntKind.i64.wrap (j3.2.2.1 + (j3.1.length : Int))).toNat) (IntKind.u64.wrap ((j3.2.1.getD ((IntKind.i64.wrap (j3.2.2.1 + (j3.1.length : Int))).toNat) 0) + j3.2.2.2.1))), j3.2.2.2.2.1, j3.2.2.2.2.2.1, (IntKind.i64.wrap (j3.2.2.2.2.2.2.1 + 1)), ()))
 else none
 else none
 else none
 else
 some (Sum.inr (p1.2.1, ()))
noncomputable def y4A (a0 : List Int) : Option (List Int) :=
 bif (decide (0 ≤ (IntKind.i64.wrap (2 * (a0.length : Int)))) && decide ((IntKind.i64.wrap (2 * (a0.length : Int))) ≤ (IntKind.i64.wrap (2 * (a0.length : Int)))) && f2A 8 (IntKind.i64.wrap (2 * (a0.length : Int))).toNat) then
 (a1A (p2C) (a0, (List.replicate (IntKind.i64.wrap (2 * (a0.length : Int))).toNat (0 : Int)), a0, (a0.length : Int), 0, ())).bind fun j4 =>
 some j4.1
 else none
noncomputable def p3C (p2 : Int × Int × Unit) : Option ((Int × Int × Unit) ⊕ ((Int × Unit))) :=
 bif (decide (p2.2.1 > 0)) then
 some (Sum.inl ((IntKind.i64.wrap (p2.1 + 1)), (c5A .u64 p2.2.1 1), ()))
 else
 some (Sum.inr (p2.1, ()))
noncomputable def s9B (p1 : List Int × Int × Unit) : Option ((List Int × Int × Unit) ⊕ (Unit ⊕ (Int × Unit))) :=
 bif (decide (p1.2.1 ≥ 0)) then
 bif (a2A p1.2.1 p1.1.length) then
 bif (decide ((p1.1.getD p1.2.1.toNat 0) > 0)) then
 bif (a2A p1.2.1 p1.1.length) then
 (a1A (p3C) ((IntKind.i64.wrap (32 * p1.2.1)), (p1.1.getD p1.2.1.toNat 0), ())).bind fun j3 =>
 some (Sum.inr (Sum.inr (j3.1, ())))
 else none
 else
 some (Sum.inl (p1.1, (IntKind.i64.wrap (p1.2.1 - 1)), ()))
 else none
 else
 some (Sum.inr (Sum.inl ()))
noncomputable def k2C (a0 : List Int) : Option (Int) :=
 (a1A (s9B) (a0, (IntKind.i64.wrap ((a0.length : Int) - 1)), ())).bind fun j4 =>
 (match j4 with
 | .inl j5 =>
 (some 0)
 | .inr j6 =>
 (some j6.1))
noncomputable def k3C (a0 : Int) : Option (Int) :=
 bif (a0 == 0) then
 some 0
 else
 (y4A [(d4A .and .u64 a0 4294967295), (c5A .u64 a0 32)]).bind fun y1 =>
 (y4A y1).bind fun y2 =>
 (y4A y2).bind fun y3 =>
 (k2C y3).bind fun y4 =>
 some (IntKind.i64.wrap (y4 - 1))
noncomputable def p4C (p4 : Int × Int × Int × Int × List Int × List Int × List Int × Unit) : Option ((Int × Int × Int × Int × List Int × List Int × List Int × Unit) ⊕ ((Int × Int × Int × List Int × List Int × List Int × Unit))) :=
 (i2B (IntKind.i64.wrap (p4.1 + 1))).bind fun y5 =>
 bif (decide (p4.2.2.1 < y5)) then
 bif (a2A p4.2.2.1 16) then
 bif (a2A p4.2.2.1 16) then
 some (Sum.inl (p4.1, (IntKind.u64.wrap (p4.2.1 + (IntKind.u64.wrap (IntKind.i64.wrap ((p4.2.2.2.2.1.getD p4.2.2.1.toNat 0) * (p4.2.2.2.2.1.getD p4.2.2.1.toNat 0)))))), (IntKind.i64.wrap (p4.2.2.1 + 1)), p4.2.2.2.1, p4.2.2.2.2.1, p4.2.2.2.2.2.1, p4.2.2.2.2.2.2.1, ()))
 else none
 else none
 else
 some (Sum.inr (p4.1, p4.2.1, p4.2.2.2.1, p4.2.2.2.2.1, p4.2.2.2.2.2.1, p4.2.2.2.2.2.2.1, ()))
noncomputable def a8C (p2 : Int × List Int × List Int × List Int × Unit) : Option ((Int × List Int × List Int × List Int × Unit) ⊕ ((List Int × List Int × Unit))) :=
 bif (decide (p2.1 < 6)) then
 ((i2B p2.1).bind fun y3 =>
 (a1A (p4C) (p2.1, 0, y3, p2.1, p2.2.1, p2.2.2.1, p2.2.2.2.1, ())).bind fun j6 =>
 bif (decide (j6.2.1 > 0)) then
 (k3C j6.2.1).bind fun y7 =>
 bif (a2A j6.1 6) then
 some (j6.2.2.1, j6.2.2.2.1, j6.2.2.2.2.1, (j6.2.2.2.2.2.1.set j6.1.toNat (if 255 < (IntKind.i64.wrap ((IntKind.i64.wrap (y7.tdiv 2)) + 1)) then 255 else (IntKind.i64.wrap ((IntKind.i64.wrap (y7.tdiv 2)) + 1)))), ())
 else none
 else
 some (j6.2.2.1, j6.2.2.2.1, j6.2.2.2.2.1, j6.2.2.2.2.2.1, ()) : Option ((Int × List Int × List Int × List Int × Unit))).bind fun j8 =>
 some (Sum.inl ((IntKind.i64.wrap (j8.1 + 1)), j8.2.1, j8.2.2.1, j8.2.2.2.1, ()))
 else
 some (Sum.inr (p2.2.2.1, p2.2.2.2.1, ()))
noncomputable def k4C (a0 : List Int) : Option (List Int × Int) :=
 (z0B a0).bind fun y1 =>
 bif (!y1) then
 some ((List.replicate 6 0), 1)
 else
 (a1A (a8C) (0, a0, (List.replicate 6 0), (List.replicate 6 0), ())).bind fun j9 =>
 some (j9.2.1, 0)
noncomputable def p5C (p2 : Int × List Int × Int × Unit) : Option ((Int × List Int × Int × Unit) ⊕ ((Int × Unit))) :=
 bif (decide (p2.2.2.1 < 6)) then
 bif (a2A p2.2.2.1 6) then
 some (Sum.inl ((if p2.1 < (p2.2.1.getD p2.2.2.1.toNat 0) then (p2.2.1.getD p2.2.2.1.toNat 0) else p2.1), p2.2.1, (IntKind.i64.wrap (p2.2.2.1 + 1)), ()))
 else none
 else
 some (Sum.inr (p2.1, ()))
noncomputable def k5C (a0 : List Int) : Option (Int) :=
 (y3A a0).bind fun y1 =>
 bif (y1 != 0) then
 some 0
 else
 (a1A (p5C) (0, a0, 0, ())).bind fun j3 =>
 some j3.1
noncomputable def m9B (p4 : Int × List Int × List Int × Unit) : Option ((Int × List Int × List Int × Unit) ⊕ (Unit ⊕ (Bool × Unit))) :=
 bif (decide (p4.1 < 6)) then
 (bif (a2A p4.1 6) then
 bif (a2A p4.1 6) then
 bif (decide ((p4.2.1.getD p4.1.toNat 0) < (IntKind.i64.wrap ((p4.2.2.1.getD p4.1.toNat 0) - 8)))) then
 some (p4.1, true, p4.2.1, p4.2.2.1, ())
 else
 bif (a2A p4.1 6) then
 bif (a2A p4.1 6) then
 some (p4.1, (decide ((p4.2.1.getD p4.1.toNat 0) > (IntKind.i64.wrap ((p4.2.2.1.getD p4.1.toNat 0) + 7)))), p4.2.1, p4.2.2.1, ())
 else none
 else none
 else none
 else none : Option ((Int × Bool × List Int × List Int × Unit))).bind fun j5 =>
 bif j5.2.1 then
 some (Sum.inr (Sum.inr (false, ())))
 else
 some (Sum.inl ((IntKind.i64.wrap (j5.1 + 1)), j5.2.2.1, j5.2.2.2.1, ()))
 else
 some (Sum.inr (Sum.inl ()))
noncomputable def r8B (a0 : List Int) (a1 : List Int) : Option (Bool) :=
 ((y3A a0).bind fun y1 =>
 bif (y1 != 0) then
 some (true, a0, a1, ())
 else
 (y3A a1).bind fun y2 =>
 some ((y2 != 0), a0, a1, ()) : Option ((Bool × List Int × List Int × Unit))).bind fun j3 =>
 bif j3.1 then
 some false
 else
 (a1A (m9B) (0, j3.2.1, j3.2.2.1, ())).bind fun j6 =>
 (match j6 with
 | .inl j7 =>
 (some true)
 | .inr j8 =>
 (some j8.1))
noncomputable def a9C (p3 : Int × Int × List Int × Int × List Int × List Int × List Int × Unit) : Option ((Int × Int × List Int × Int × List Int × List Int × List Int × Unit) ⊕ ((Int × List Int × List Int × List Int × Unit))) :=
 bif (decide (p3.2.2.2.1 < 6)) then
 (bif (a2A p3.2.2.2.1 6) then
 bif (decide ((if (IntKind.i64.wrap (p3.1 - p3.2.2.2.1)) < (IntKind.i64.wrap (p3.2.2.2.1 - p3.1)) then (IntKind.i64.wrap (p3.2.2.2.1 - p3.1)) else (IntKind.i64.wrap (p3.1 - p3.2.2.2.1))) > 0)) then
 bif (a2A p3.1 6) then
 bif (a2A p3.1 6) then
 some (p3.1, p3.2.1, p3.2.2.1, p3.2.2.2.1, p3.2.2.2.2.1, p3.2.2.2.2.2.1, (p3.2.2.2.2.2.2.1.set p3.1.toNat (if (p3.2.2.2.2.2.2.1.getD p3.1.toNat 0) < (IntKind.i64.wrap ((IntKind.i64.wrap ((p3.2.2.1.getD p3.2.2.2.1.toNat 0) - (IntKind.i64.wrap (12 * (if (IntKind.i64.wrap (p3.1 - p3.2.2.2.1)) < (IntKind.i64.wrap (p3.2.2.2.1 - p3.1)) then (IntKind.i64.wrap (p3.2.2.2.1 - p3.1)) else (IntKind.i64.wrap (p3.1 - p3.2.2.2.1))))))) - 8)) then (IntKind.i64.wrap ((IntKind.i64.wrap ((p3.2.2.1.getD p3.2.2.2.1.toNat 0) - (IntKind.i64.wrap (12 * (if (IntKind.i64.wrap (p3.1 - p3.2.2.2.1)) < (IntKind.i64.wrap (p3.2.2.2.1 - p3.1)) then (IntKind.i64.wrap (p3.2.2.2.1 - p3.1)) else (IntKind.i64.wrap (p3.1 - p3.2.2.2.1))))))) - 8)) else (p3.2.2.2.2.2.2.1.getD p3.1.toNat 0))), ())
 else none
 else none
 else
 some (p3.1, p3.2.1, p3.2.2.1, p3.2.2.2.1, p3.2.2.2.2.1, p3.2.2.2.2.2.1, p3.2.2.2.2.2.2.1, ())
 else none : Option ((Int × Int × List Int × Int × List Int × List Int × List Int × Unit))).bind fun j4 =>
 some (Sum.inl (j4.1, j4.2.1, j4.2.2.1, (IntKind.i64.wrap (j4.2.2.2.1 + 1)), j4.2.2.2.2.1, j4.2.2.2.2.2.1, j4.2.2.2.2.2.2.1, ()))
 else
 some (Sum.inr (p3.2.1, p3.2.2.2.2.1, p3.2.2.2.2.2.1, p3.2.2.2.2.2.2.1, ()))
noncomputable def p6C (p2 : Int × List Int × List Int × List Int × Unit) : Option ((Int × List Int × List Int × List Int × Unit) ⊕ ((List Int × List Int × Unit))) :=
 bif (decide (p2.1 < 6)) then
 (a1A (a9C) (p2.1, p2.1, p2.2.1, 0, p2.2.1, p2.2.2.1, p2.2.2.2.1, ())).bind fun j5 =>
 some (Sum.inl ((IntKind.i64.wrap (j5.1 + 1)), j5.2.1, j5.2.2.1, j5.2.2.2.1, ()))
 else
 some (Sum.inr (p2.2.2.1, p2.2.2.2.1, ()))
noncomputable def k6C (a0 : List Int) : Option (List Int × Int) :=
 (y3A a0).bind fun y1 =>
 bif (y1 != 0) then
 some ((List.replicate 6 0), 1)
 else
 (a1A (p6C) (0, a0, (List.replicate 6 0), (List.replicate 6 0), ())).bind fun j6 =>
 some (j6.2.1, 0)
noncomputable def p7C (p1 : Int × List Int × Int × Unit) : Option ((Int × List Int × Int × Unit) ⊕ ((Int × Unit))) :=
 bif (decide (p1.2.2.1 < 6)) then
 bif (a2A p1.2.2.1 6) then
 (i2B (IntKind.i64.wrap (p1.2.2.1 + 1))).bind fun y2 =>
 (i2B p1.2.2.1).bind fun y3 =>
 some (Sum.inl ((IntKind.i64.wrap (p1.1 + (IntKind.i64.wrap ((p1.2.1.getD p1.2.2.1.toNat 0) * (IntKind.i64.wrap (y2 - y3)))))), p1.2.1, (IntKind.i64.wrap (p1.2.2.1 + 1)), ()))
 else none
 else
 some (Sum.inr (p1.1, ()))
noncomputable def a1D (a0 : List Int) : Option (Int) :=
 (a1A (p7C) (0, a0, 0, ())).bind fun j4 =>
 some j4.1
noncomputable def b0C (p3 : Int × Int × List Int × List Int × List Int × List Int × Unit) : Option ((Int × Int × List Int × List Int × List Int × List Int × Unit) ⊕ ((Int × List Int × List Int × Unit))) :=
 bif (decide (p3.2.1 < 6)) then
 (bif (a2A p3.2.1 6) then
 bif (a2A p3.2.1 6) then
 bif (decide ((p3.2.2.1.getD p3.2.1.toNat 0) > (p3.2.2.2.2.2.1.getD p3.2.1.toNat 0))) then
 bif (a2A p3.2.1 6) then
 bif (a2A p3.2.1 6) then
 bif (a2A p3.2.1 6) then
 some (p3.1, p3.2.1, p3.2.2.1, p3.2.2.2.1, (p3.2.2.2.2.1.set p3.2.1.toNat (if 7 < (IntKind.i64.wrap ((IntKind.i64.wrap ((IntKind.i64.wrap ((p3.2.2.1.getD p3.2.1.toNat 0) - (p3.2.2.2.2.2.1.getD p3.2.1.toNat 0))) + 7)).tdiv 8)) then 7 else (IntKind.i64.wrap ((IntKind.i64.wrap ((IntKind.i64.wrap ((p3.2.2.1.getD p3.2.1.toNat 0) - (p3.2.2.2.2.2.1.getD p3.2.1.toNat 0))) + 7)).tdiv 8)))), p3.2.2.2.2.2.1, ())
 else none
 else none
 else none
 else
 some (p3.1, p3.2.1, p3.2.2.1, p3.2.2.2.1, p3.2.2.2.2.1, p3.2.2.2.2.2.1, ())
 else none
 else none : Option ((Int × Int × List Int × List Int × List Int × List Int × Unit))).bind fun j4 =>
 some (Sum.inl (j4.1, (IntKind.i64.wrap (j4.2.1 + 1)), j4.2.2.1, j4.2.2.2.1, j4.2.2.2.2.1, j4.2.2.2.2.2.1, ()))
 else
 some (Sum.inr (p3.1, p3.2.2.2.1, p3.2.2.2.2.1, ()))
noncomputable def b1C (p8 : Int × Int × List Int × Int × List Int × List Int × Unit) : Option ((Int × Int × List Int × Int × List Int × List Int × Unit) ⊕ ((Int × Int × List Int × List Int × Unit))) :=
 bif (decide (p8.2.2.2.1 < 6)) then
 (bif (a2A p8.2.2.2.1 6) then
 bif (a2A p8.2.1 6) then
 bif (decide ((p8.2.2.1.getD p8.2.2.2.1.toNat 0) ≥ (p8.2.2.2.2.2.1.getD p8.2.1.toNat 0))) then
 some (p8.1, p8.2.2.2.1, p8.2.2.1, p8.2.2.2.1, p8.2.2.2.2.1, p8.2.2.2.2.2.1, ())
 else
 some (p8.1, p8.2.1, p8.2.2.1, p8.2.2.2.1, p8.2.2.2.2.1, p8.2.2.2.2.2.1, ())
 else none
 else none : Option ((Int × Int × List Int × Int × List Int × List Int × Unit))).bind fun j9 =>
 some (Sum.inl (j9.1, j9.2.1, j9.2.2.1, (IntKind.i64.wrap (j9.2.2.2.1 + 1)), j9.2.2.2.2.1, j9.2.2.2.2.2.1, ()))
 else
 some (Sum.inr (p8.1, p8.2.1, p8.2.2.2.2.1, p8.2.2.2.2.2.1, ()))
noncomputable def p8C (p6 : Int × List Int × List Int × Unit) : Option ((Int × List Int × List Int × Unit) ⊕ ((List Int × List Int × Unit))) :=
 (a1D p6.2.2.1).bind fun y7 =>
 bif (decide (y7 > p6.1)) then
 (a1A (b1C) (p6.1, 0, p6.2.2.1, 0, p6.2.1, p6.2.2.1, ())).bind fun j10 =>
 bif (a2A j10.2.1 6) then
 bif (a2A j10.2.1 6) then
 some (Sum.inl (j10.1, j10.2.2.1, (j10.2.2.2.1.set j10.2.1.toNat (IntKind.i64.wrap ((j10.2.2.2.1.getD j10.2.1.toNat 0) - 1))), ()))
 else none
 else none
 else
 some (Sum.inr (p6.2.1, p6.2.2.1, ()))
noncomputable def r9B (a0 : List Int) (a1 : Int) : Option (List Int × Int) :=
 (k6C a0).bind fun y1 =>
 (bif (y1.2 != 0) then
 some (a1, true, a0, (List.replicate 6 0), (List.replicate 6 0), y1.1, ())
 else
 some (a1, (decide (a1 < 0)), a0, (List.replicate 6 0), (List.replicate 6 0), y1.1, ()) : Option ((Int × Bool × List Int × List Int × List Int × List Int × Unit))).bind fun j2 =>
 bif j2.2.1 then
 some (j2.2.2.2.2.1, 1)
 else
 (a1A (b0C) (j2.1, 0, j2.2.2.1, j2.2.2.2.1, j2.2.2.2.2.1, j2.2.2.2.2.2.1, ())).bind fun j5 =>
 (a1A (p8C) (j5.1, j5.2.1, j5.2.2.1, ())).bind fun j11 =>
 some (j11.2.1, 0)
noncomputable def p9C (p2 : Int × Int × Unit) : Option ((Int × Int × Unit) ⊕ ((Int × Unit))) :=
 (i2B (IntKind.i64.wrap (p2.2.1 + 1))).bind fun y3 =>
 bif (decide (y3 ≤ p2.1)) then
 some (Sum.inl (p2.1, (IntKind.i64.wrap (p2.2.1 + 1)), ()))
 else
 some (Sum.inr (p2.2.1, ()))
noncomputable def k7C (a0 : Int) : Option (Int × Int) :=
 (bif (decide (a0 < 0)) then
 some (a0, true, ())
 else
 some (a0, (decide (a0 > 15)), ()) : Option ((Int × Bool × Unit))).bind fun j1 =>
 bif j1.2.1 then
 some (0, 1)
 else
 (a1A (p9C) (j1.1, 0, ())).bind fun j4 =>
 some (j4.1, 0)
noncomputable def q0C (p2 : Int × Int × Int × Unit) : Option ((Int × Int × Int × Unit) ⊕ ((Int × Unit))) :=
 bif (decide (p2.2.2.1 < p2.2.1)) then
 some (Sum.inl ((IntKind.i64.wrap (p2.1 * 2)), p2.2.1, (IntKind.i64.wrap (p2.2.2.1 + 1)), ()))
 else
 some (Sum.inr (p2.1, ()))
noncomputable def z1B (a0 : Int) : Option (Int × Int) :=
 (bif (decide (a0 < 0)) then
 some (a0, true, ())
 else
 some (a0, (decide (a0 > 255)), ()) : Option ((Int × Bool × Unit))).bind fun j1 =>
 bif j1.2.1 then
 some (0, 1)
 else
 (a1A (q0C) ((IntKind.i64.wrap (8 + (j1.1.tmod 8))), (IntKind.i64.wrap (j1.1.tdiv 8)), 0, ())).bind fun j3 =>
 some ((IntKind.i64.wrap ((IntKind.i64.wrap (j3.1.tdiv 8)) + 1)), 0)
noncomputable def w7F (p1 : Int × Int × Int × Unit) : Option ((Int × Int × Int × Unit) ⊕ ((Int × Unit))) :=
 bif (decide (p1.2.2.1 < p1.2.1)) then
 some (Sum.inl ((IntKind.i64.wrap ((IntKind.i64.wrap (2 * p1.1)) + 1)), p1.2.1, (IntKind.i64.wrap (p1.2.2.1 + 1)), ()))
 else
 some (Sum.inr (p1.1, ()))
noncomputable def k8C (a0 : Int) : Option (Int) :=
 (a1A (w7F) (0, (if 7 < (if a0 < 0 then 0 else a0) then 7 else (if a0 < 0 then 0 else a0)), 0, ())).bind fun j2 =>
 some j2.1
noncomputable def a2D (a0 : Int) (a1 : Int) : Option (Int × Int) :=
 (z1B a0).bind fun y1 =>
 (bif (y1.2 != 0) then
 some (a1, y1.1, true, ())
 else
 bif (decide (a1 < 1)) then
 some (a1, y1.1, true, ())
 else
 some (a1, y1.1, (decide (a1 > 7)), ()) : Option ((Int × Int × Bool × Unit))).bind fun j2 =>
 bif j2.2.2.1 then
 some (0, 1)
 else
 (k8C j2.1).bind fun y3 =>
 bif (y3 != 0) then
 some ((IntKind.i64.wrap ((IntKind.i64.wrap ((IntKind.i64.wrap (j2.2.1 + y3)) - 1)).tdiv y3)), 0)
 else none
noncomputable def b2C (p2 : Int × List Int × List Int × List Int × List Int × List Int × List Int × List Int × Unit) : Option ((Int × List Int × List Int × List Int × List Int × List Int × List Int × List Int × Unit) ⊕ ((List Int × List Int × List Int × List Int × List Int × List Int × Unit))) :=
 bif (decide (p2.1 < 16)) then
 ((k7C p2.1).bind fun y3 =>
 bif (a2A y3.1 6) then
 bif (decide ((p2.2.2.2.2.2.2.2.1.getD y3.1.toNat 0) > 0)) then
 bif (a2A y3.1 6) then
 bif (a2A y3.1 6) then
 (a2D (p2.2.1.getD y3.1.toNat 0) (p2.2.2.2.2.2.2.2.1.getD y3.1.toNat 0)).bind fun y4 =>
 bif (a2A p2.1 16) then
 bif (a2A y3.1 6) then
 (k8C (p2.2.2.2.2.2.2.2.1.getD y3.1.toNat 0)).bind fun y5 =>
 bif (a2A p2.1 16) then
 some (p2.1, p2.2.1, p2.2.2.1, p2.2.2.2.1, p2.2.2.2.2.1, (p2.2.2.2.2.2.1.set p2.1.toNat y4.1), (p2.2.2.2.2.2.2.1.set p2.1.toNat y5), p2.2.2.2.2.2.2.2.1, ())
 else none
 else none
 else none
 else none
 else none
 else
 some (p2.1, p2.2.1, p2.2.2.1, p2.2.2.2.1, p2.2.2.2.2.1, p2.2.2.2.2.2.1, p2.2.2.2.2.2.2.1, p2.2.2.2.2.2.2.2.1, ())
 else none : Option ((Int × List Int × List Int × List Int × List Int × List Int × List Int × List Int × Unit))).bind fun j6 =>
 some (Sum.inl ((IntKind.i64.wrap (j6.1 + 1)), j6.2.1, j6.2.2.1, j6.2.2.2.1, j6.2.2.2.2.1, j6.2.2.2.2.2.1, j6.2.2.2.2.2.2.1, j6.2.2.2.2.2.2.2.1, ()))
 else
 some (Sum.inr (p2.2.2.1, p2.2.2.2.1, p2.2.2.2.2.1, p2.2.2.2.2.2.1, p2.2.2.2.2.2.2.1, p2.2.2.2.2.2.2.2.1, ()))
noncomputable def d2B (a0 : List Int) : Option (List Int × List Int × List Int × Bool) :=
 (r9B a0 120).bind fun y1 =>
 bif (y1.2 != 0) then
 some ((List.replicate 16 0), ((List.replicate 16 0), (y1.1, false)))
 else
 (a1A (b2C) (0, a0, (List.replicate 16 0), (List.replicate 16 0), (List.replicate 6 0), (List.replicate 16 0), (List.replicate 16 0), y1.1, ())).bind fun j7 =>
 some (j7.2.2.2.1, (j7.2.2.2.2.1, (j7.2.2.2.2.2.1, true)))
noncomputable def a3D (a0 : Int) (a1 : Int) : Option (Int × Int) :=
 bif (decide (a1 < 1)) then
 some (0, 1)
 else
 bif (a1 != 0) then
 bif (a1 != 0) then
 (bif (decide ((a0.tmod a1) < 0)) then
 some (a0, a1, (IntKind.i64.wrap (a0.tdiv a1)), (IntKind.i64.wrap (0 - (a0.tmod a1))), ())
 else
 some (a0, a1, (IntKind.i64.wrap (a0.tdiv a1)), (a0.tmod a1), ()) : Option ((Int × Int × Int × Int × Unit))).bind fun j1 =>
 (bif (decide (j1.2.2.2.1 ≥ (IntKind.i64.wrap (j1.2.1 - j1.2.2.2.1)))) then
 bif (decide (j1.1 < 0)) then
 some ((IntKind.i64.wrap (j1.2.2.1 - 1)), ())
 else
 some ((IntKind.i64.wrap (j1.2.2.1 + 1)), ())
 else
 some (j1.2.2.1, ()) : Option ((Int × Unit))).bind fun j2 =>
 some (j2.1, 0)
 else none
 else none
noncomputable def b3C (p4 : Int × List Int × List Int × List Int × List Int × List Int × List Int × List Int × Unit) : Option ((Int × List Int × List Int × List Int × List Int × List Int × List Int × List Int × Unit) ⊕ ((List Int × List Int × List Int × List Int × Unit))) :=
 bif (decide (p4.1 < 16)) then
 (bif (a2A p4.1 16) then
 bif (decide ((p4.2.2.2.2.2.1.getD p4.1.toNat 0) > 0)) then
 bif (a2A p4.1 16) then
 bif (a2A p4.1 16) then
 (a3D (p4.2.1.getD p4.1.toNat 0) (p4.2.2.2.2.2.1.getD p4.1.toNat 0)).bind fun y5 =>
 bif (a2A p4.1 16) then
 bif (a2A p4.1 16) then
 bif (a2A p4.1 16) then
 some (p4.1, p4.2.1, p4.2.2.1, p4.2.2.2.1, (p4.2.2.2.2.1.set p4.1.toNat (if (p4.2.2.2.2.2.2.1.getD p4.1.toNat 0) < (if y5.1 < (IntKind.i64.wrap (0 - (p4.2.2.2.2.2.2.1.getD p4.1.toNat 0))) then (IntKind.i64.wrap (0 - (p4.2.2.2.2.2.2.1.getD p4.1.toNat 0))) else y5.1) then (p4.2.2.2.2.2.2.1.getD p4.1.toNat 0) else (if y5.1 < (IntKind.i64.wrap (0 - (p4.2.2.2.2.2.2.1.getD p4.1.toNat 0))) then (IntKind.i64.wrap (0 - (p4.2.2.2.2.2.2.1.getD p4.1.toNat 0))) else y5.1))), p4.2.2.2.2.2.1, p4.2.2.2.2.2.2.1, p4.2.2.2.2.2.2.2.1, ())
 else none
 else none
 else none
 else none
 else none
 else
 some (p4.1, p4.2.1, p4.2.2.1, p4.2.2.2.1, p4.2.2.2.2.1, p4.2.2.2.2.2.1, p4.2.2.2.2.2.2.1, p4.2.2.2.2.2.2.2.1, ())
 else none : Option ((Int × List Int × List Int × List Int × List Int × List Int × List Int × List Int × Unit))).bind fun j6 =>
 some (Sum.inl ((IntKind.i64.wrap (j6.1 + 1)), j6.2.1, j6.2.2.1, j6.2.2.2.1, j6.2.2.2.2.1, j6.2.2.2.2.2.1, j6.2.2.2.2.2.2.1, j6.2.2.2.2.2.2.2.1, ()))
 else
 some (Sum.inr (p4.2.2.1, p4.2.2.2.1, p4.2.2.2.2.1, p4.2.2.2.2.2.2.2.1, ()))
noncomputable def a4D (a0 : List Int) (a1 : List Int) : Option (List Int × List Int × Int) :=
 (d2B a1).bind fun y1 =>
 (bif (!y1.2.2.2) then
 some (true, a0, (List.replicate 16 0), (List.replicate 6 0), (List.replicate 16 0), y1.1, y1.2.1, y1.2.2.1, ())
 else
 (z0B a0).bind fun y2 =>
 some ((!y2), a0, (List.replicate 16 0), (List.replicate 6 0), (List.replicate 16 0), y1.1, y1.2.1, y1.2.2.1, ()) : Option ((Bool × List Int × List Int × List Int × List Int × List Int × List Int × List Int × Unit))).bind fun j3 =>
 bif j3.1 then
 some (j3.2.2.2.2.1, ([0, 0, 0, 0, 0, 0], 1))
 else
 (a1A (b3C) (0, j3.2.1, j3.2.2.1, j3.2.2.2.1, j3.2.2.2.2.1, j3.2.2.2.2.2.1, j3.2.2.2.2.2.2.1, j3.2.2.2.2.2.2.2.1, ())).bind fun j7 =>
 some (j7.2.2.1, (j7.2.2.2.1, 0))
noncomputable def b4C (p2 : Int × Int × List Int × List Int × List Int × Unit) : Option ((Int × Int × List Int × List Int × List Int × Unit) ⊕ ((Int × List Int × List Int × Unit))) :=
 bif (decide (p2.2.1 < 16)) then
 ((k7C p2.2.1).bind fun y3 =>
 bif (a2A y3.1 6) then
 bif (decide ((p2.2.2.1.getD y3.1.toNat 0) > 0)) then
 bif (a2A y3.1 6) then
 (z1B (p2.2.2.1.getD y3.1.toNat 0)).bind fun y4 =>
 (l6A (IntKind.i64.wrap ((IntKind.i64.wrap ((IntKind.i64.wrap (c5A .u32 (IntKind.u32.wrap ((IntKind.u32.wrap (1664525 * p2.1)) + 1013904223)) 16)) - 32768)) * y4.1)) 18).bind fun y5 =>
 bif (a2A p2.2.1 16) then
 some ((IntKind.u32.wrap ((IntKind.u32.wrap (1664525 * p2.1)) + 1013904223)), p2.2.1, p2.2.2.1, p2.2.2.2.1, (p2.2.2.2.2.1.set p2.2.1.toNat (if 67108864 < (if y5 < (-67108864) then (-67108864) else y5) then 67108864 else (if y5 < (-67108864) then (-67108864) else y5))), ())
 else none
 else none
 else
 some ((IntKind.u32.wrap ((IntKind.u32.wrap (1664525 * p2.1)) + 1013904223)), p2.2.1, p2.2.2.1, p2.2.2.2.1, p2.2.2.2.2.1, ())
 else none : Option ((Int × Int × List Int × List Int × List Int × Unit))).bind fun j6 =>
 some (Sum.inl (j6.1, (IntKind.i64.wrap (j6.2.1 + 1)), j6.2.2.1, j6.2.2.2.1, j6.2.2.2.2.1, ()))
 else
 some (Sum.inr (p2.1, p2.2.2.2.1, p2.2.2.2.2.1, ()))
noncomputable def a5D (a0 : Int) (a1 : List Int) : Option (List Int × Int × Int) :=
 (y3A a1).bind fun y1 =>
 bif (y1 != 0) then
 some ((List.replicate 16 0), (0, 1))
 else
 (a1A (b4C) (a0, 0, a1, (List.replicate 16 0), (List.replicate 16 0), ())).bind fun j7 =>
 some (j7.2.2.1, (j7.1, 0))
noncomputable def q1C (p4 : Int × Int × Int × Int × List Int × List Int × List Int × (List Int × List Int) × Unit) : Option ((Int × Int × Int × Int × List Int × List Int × List Int × (List Int × List Int) × Unit) ⊕ ((Int × Int × Int × List Int × List Int × List Int × (List Int × List Int) × Unit))) :=
 bif (decide (p4.2.2.2.1 < 16)) then
 bif (a2A p4.2.2.2.1 16) then
 (j9C p4.2.2.2.2.2.2.2.1 p4.1 p4.2.2.2.1).bind fun y5 =>
 some (Sum.inl (p4.1, (IntKind.i64.wrap (p4.2.1 + (IntKind.i64.wrap ((p4.2.2.2.2.1.getD p4.2.2.2.1.toNat 0) * y5)))), p4.2.2.1, (IntKind.i64.wrap (p4.2.2.2.1 + 1)), p4.2.2.2.2.1, p4.2.2.2.2.2.1, p4.2.2.2.2.2.2.1, p4.2.2.2.2.2.2.2.1, ()))
 else none
 else
 some (Sum.inr (p4.1, p4.2.1, p4.2.2.1, p4.2.2.2.2.1, p4.2.2.2.2.2.1, p4.2.2.2.2.2.2.1, p4.2.2.2.2.2.2.2.1, ()))
noncomputable def q2C (p3 : Int × List Int × List Int × List Int × (List Int × List Int) × Unit) : Option ((Int × List Int × List Int × List Int × (List Int × List Int) × Unit) ⊕ ((List Int × List Int × Unit))) :=
 bif (decide (p3.1 < 32)) then
 (a1A (q1C) (p3.1, 0, p3.1, 0, p3.2.1, p3.2.2.1, p3.2.2.2.1, p3.2.2.2.2.1, ())).bind fun j6 =>
 (l6A j6.2.1 20).bind fun y7 =>
 (j8C j6.2.2.2.2.2.2.1 j6.1).bind fun y8 =>
 (l6A (IntKind.i64.wrap (y7 * y8)) 27).bind fun y9 =>
 bif (a2A j6.1 32) then
 some (Sum.inl ((IntKind.i64.wrap (j6.2.2.1 + 1)), j6.2.2.2.1, j6.2.2.2.2.1, (j6.2.2.2.2.2.1.set j6.1.toNat y9), j6.2.2.2.2.2.2.1, ()))
 else none
 else
 some (Sum.inr (p3.2.2.1, p3.2.2.2.1, ()))
noncomputable def a6D (a0 : List Int) : Option (List Int × Int) :=
 (z0B a0).bind fun y1 =>
 bif (!y1) then
 some ((List.replicate 32 0), 1)
 else
 (j7C).bind fun y2 =>
 (a1A (q2C) (0, a0, (List.replicate 32 0), (List.replicate 32 0), y2, ())).bind fun j10 =>
 some (j10.2.1, 0)
noncomputable def b5C (p1 : List Int × Int × Unit) : Option ((List Int × Int × Unit) ⊕ (Unit ⊕ (Bool × Unit))) :=
 bif (decide (p1.2.1 < 32)) then
 bif (a2A p1.2.1 32) then
 (r7B (p1.1.getD p1.2.1.toNat 0) 1099511627776).bind fun y2 =>
 bif (!y2) then
 some (Sum.inr (Sum.inr (false, ())))
 else
 some (Sum.inl (p1.1, (IntKind.i64.wrap (p1.2.1 + 1)), ()))
 else none
 else
 some (Sum.inr (Sum.inl ()))
noncomputable def a7D (a0 : List Int) : Option (Bool) :=
 (a1A (b5C) (a0, 0, ())).bind fun j3 =>
 (match j3 with
 | .inl j4 =>
 (some true)
 | .inr j5 =>
 (some j5.1))
noncomputable def q3D (p1 : Int × Int × Int × Int × Unit) : Option ((Int × Int × Int × Int × Unit) ⊕ ((Int × Int × Unit))) :=
 bif (decide (p1.2.2.2.1 < p1.2.2.1)) then
 some (Sum.inl (p1.1, (IntKind.i64.wrap (p1.2.1 * 2)), p1.2.2.1, (IntKind.i64.wrap (p1.2.2.2.1 + 1)), ()))
 else
 some (Sum.inr (p1.1, p1.2.1, ()))
noncomputable def a8D (a0 : Int) (a1 : Int) : Option (Int) :=
 (a1A (q3D) (a0, (-1), (IntKind.i64.wrap ((if 62 < (if a1 < 1 then 1 else a1) then 62 else (if a1 < 1 then 1 else a1)) - 1)), 0, ())).bind fun j2 =>
 some (if (IntKind.i64.wrap ((IntKind.i64.wrap (0 - j2.2.1)) - 1)) < (if j2.1 < j2.2.1 then j2.2.1 else j2.1) then (IntKind.i64.wrap ((IntKind.i64.wrap (0 - j2.2.1)) - 1)) else (if j2.1 < j2.2.1 then j2.2.1 else j2.1))
noncomputable def q3C (p4 : Int × List Int × List Int × List Int × List Int × List Int × List Int × Unit) : Option ((Int × List Int × List Int × List Int × List Int × List Int × List Int × Unit) ⊕ ((List Int × List Int × List Int × List Int × Unit))) :=
 bif (decide (p4.1 < 16)) then
 bif (a2A p4.1 16) then
 bif (a2A p4.1 32) then
 (l6A (IntKind.i64.wrap ((p4.2.1.getD p4.1.toNat 0) + (p4.2.2.1.getD p4.1.toNat 0))) 8).bind fun y5 =>
 (a8D y5 16).bind fun y6 =>
 bif (a2A p4.1 16) then
 bif (a2A (IntKind.i64.wrap (16 + p4.1)) 32) then
 bif (a2A p4.1 16) then
 some (Sum.inl ((IntKind.i64.wrap (p4.1 + 1)), p4.2.1, p4.2.2.1, p4.2.2.2.1, p4.2.2.2.2.1, (p4.2.2.2.2.2.1.set p4.1.toNat y6), (p4.2.2.2.2.2.2.1.set p4.1.toNat (p4.2.2.1.getD ((IntKind.i64.wrap (16 + p4.1)).toNat) 0)), ()))
 else none
 else none
 else none
 else none
 else none
 else
 some (Sum.inr (p4.2.2.2.1, p4.2.2.2.2.1, p4.2.2.2.2.2.1, p4.2.2.2.2.2.2.1, ()))
noncomputable def a9D (a0 : List Int) (a1 : List Int) : Option (List Int × List Int × Int) :=
 ((k0C a0).bind fun y1 =>
 bif (!y1) then
 some (true, a0, a1, (List.replicate 16 0), (List.replicate 16 0), (List.replicate 16 0), (List.replicate 16 0), ())
 else
 (a7D a1).bind fun y2 =>
 some ((!y2), a0, a1, (List.replicate 16 0), (List.replicate 16 0), (List.replicate 16 0), (List.replicate 16 0), ()) : Option ((Bool × List Int × List Int × List Int × List Int × List Int × List Int × Unit))).bind fun j3 =>
 bif j3.1 then
 some (j3.2.2.2.2.2.1, (j3.2.2.2.2.2.2.1, 1))
 else
 (a1A (q3C) (0, j3.2.1, j3.2.2.1, j3.2.2.2.1, j3.2.2.2.2.1, j3.2.2.2.2.2.1, j3.2.2.2.2.2.2.1, ())).bind fun j7 =>
 some (j7.2.2.1, (j7.2.2.2.1, 0))
noncomputable def z2B (a0 : List Int × List Int × Bool × Bool × Int) (a1 : List Int) : Option ((List Int × List Int × Bool × Bool × Int) × List Int × Int) :=
 (a6D a1).bind fun y1 =>
 bif (y1.2 != 0) then
 some (((List.replicate 16 0), ((List.replicate 6 0), (false, (false, 0)))), ([0, 0, 0, 0, 0, 0, 0, 0, 0, 0, 0, 0, 0, 0, 0, 0], y1.2))
 else
 (a9D a0.1 y1.1).bind fun y2 =>
 bif (y2.2.2 != 0) then
 some (((List.replicate 16 0), ((List.replicate 6 0), (false, (false, 0)))), ([0, 0, 0, 0, 0, 0, 0, 0, 0, 0, 0, 0, 0, 0, 0, 0], y2.2.2))
 else
 some ((y2.2.1, a0.2), (y2.1, 0))
noncomputable def k9C (a0 : List Int × List Int × Bool × Bool × Int) : Option ((List Int × List Int × Bool × Bool × Int) × List Int × Int) :=
 (a5D a0.2.2.2.2 a0.2.1).bind fun y1 =>
 bif (y1.2.2 != 0) then
 some (((List.replicate 16 0), ((List.replicate 6 0), (false, (false, 0)))), ([0, 0, 0, 0, 0, 0, 0, 0, 0, 0, 0, 0, 0, 0, 0, 0], y1.2.2))
 else
 (z2B (a0.1, (a0.2.1, (a0.2.2.1, (a0.2.2.2.1, y1.2.1)))) y1.1).bind fun y2 =>
 some y2
noncomputable def l0C (a0 : List Int × List Int × Bool × Bool × Int) : Option ((List Int × List Int × Bool × Bool × Int) × List Int × Int) :=
 (y9B a0).bind fun y1 =>
 bif (y1 != 0) then
 some (((List.replicate 16 0), ((List.replicate 6 0), (false, (false, 0)))), ([0, 0, 0, 0, 0, 0, 0, 0, 0, 0, 0, 0, 0, 0, 0, 0], 1))
 else
 bif a0.2.2.2.1 then
 (k9C a0).bind fun y2 =>
 some y2
 else
 (z2B (a0.1, (a0.2.1, (false, a0.2.2.2))) [0, 0, 0, 0, 0, 0, 0, 0, 0, 0, 0, 0, 0, 0, 0, 0]).bind fun y3 =>
 some y3
noncomputable def t1A (p2 : Bool × Int × List Int × List Int × Unit) : Option ((Bool × Int × List Int × List Int × Unit) ⊕ ((Bool × Unit))) :=
 bif (decide (p2.2.1 < 16)) then
 (bif p2.1 then
 bif (a2A p2.2.1 16) then
 bif (a2A p2.2.1 16) then
 bif (decide ((p2.2.2.1.getD p2.2.1.toNat 0) ≥ (IntKind.i64.wrap (0 - (p2.2.2.2.1.getD p2.2.1.toNat 0))))) then
 bif (a2A p2.2.1 16) then
 bif (a2A p2.2.1 16) then
 some ((decide ((p2.2.2.1.getD p2.2.1.toNat 0) ≤ (p2.2.2.2.1.getD p2.2.1.toNat 0))), p2.2.1, p2.2.2.1, p2.2.2.2.1, ())
 else none
 else none
 else
 some (false, p2.2.1, p2.2.2.1, p2.2.2.2.1, ())
 else none
 else none
 else
 some (false, p2.2.1, p2.2.2.1, p2.2.2.2.1, ()) : Option ((Bool × Int × List Int × List Int × Unit))).bind fun j3 =>
 some (Sum.inl (j3.1, (IntKind.i64.wrap (j3.2.1 + 1)), j3.2.2.1, j3.2.2.2.1, ()))
 else
 some (Sum.inr (p2.1, ()))
noncomputable def i3B (a0 : List Int) (a1 : List Int) : Option (Bool) :=
 (d2B a1).bind fun y1 =>
 (a1A (t1A) (y1.2.2.2, 0, a0, y1.2.1, ())).bind fun j4 =>
 some j4.1
noncomputable def q2A (a0 : Int × List Int × List Int) (a1 : List Int) : Option (Int) :=
 (bif (decide (a0.1 < 0)) then
 some (true, (a0.1, (a0.2.1, a0.2.2)), a1, ())
 else
 bif (decide (a0.1 > 2)) then
 some (true, (a0.1, (a0.2.1, a0.2.2)), a1, ())
 else
 (y3A a0.2.1).bind fun y1 =>
 bif (y1 != 0) then
 some (true, (a0.1, (a0.2.1, a0.2.2)), a1, ())
 else
 (y3A a1).bind fun y2 =>
 some ((y2 != 0), (a0.1, (a0.2.1, a0.2.2)), a1, ()) : Option ((Bool × (Int × List Int × List Int) × List Int × Unit))).bind fun j3 =>
 bif j3.1 then
 some 1
 else
 (bif (j3.2.1.1 == 1) then
 (r8B j3.2.1.2.1 j3.2.2.1).bind fun y4 =>
 bif (!y4) then
 some (true, ())
 else
 bif (j3.2.1.1 == 2) then
 bif (!(j3.2.1.2.2 == [0, 0, 0, 0, 0, 0, 0, 0, 0, 0, 0, 0, 0, 0, 0, 0])) then
 some (true, ())
 else
 (i3B j3.2.1.2.2 j3.2.1.2.1).bind fun y5 =>
 some ((!y5), ())
 else
 (i3B j3.2.1.2.2 j3.2.1.2.1).bind fun y6 =>
 some ((!y6), ())
 else
 bif (j3.2.1.1 == 2) then
 bif (!(j3.2.1.2.2 == [0, 0, 0, 0, 0, 0, 0, 0, 0, 0, 0, 0, 0, 0, 0, 0])) then
 some (true, ())
 else
 (i3B j3.2.1.2.2 j3.2.1.2.1).bind fun y7 =>
 some ((!y7), ())
 else
 (i3B j3.2.1.2.2 j3.2.1.2.1).bind fun y8 =>
 some ((!y8), ()) : Option ((Bool × Unit))).bind fun j9 =>
 bif j9.1 then
 some 1
 else
 some 0
noncomputable def q4C (p2 : List Int × List Int × Int × Int × List Int × Unit) : Option ((List Int × List Int × Int × Int × List Int × Unit) ⊕ ((List Int × List Int × Unit) ⊕ (Int × List Int × Unit))) :=
 bif (decide (p2.2.2.2.1 < p2.2.2.1)) then
 bif (a2A p2.2.2.2.1 p2.2.1.length) then
 (bif (decide ((p2.2.1.getD p2.2.2.2.1.toNat 0) < 1)) then
 some (p2.1, (p2.2.1.getD p2.2.2.2.1.toNat 0), p2.2.1, p2.2.2.1, p2.2.2.2.1, true, p2.2.2.2.2.1, ())
 else
 some (p2.1, (p2.2.1.getD p2.2.2.2.1.toNat 0), p2.2.1, p2.2.2.1, p2.2.2.2.1, (decide ((p2.2.1.getD p2.2.2.2.1.toNat 0) > 16384)), p2.2.2.2.2.1, ()) : Option ((List Int × Int × List Int × Int × Int × Bool × List Int × Unit))).bind fun j3 =>
 bif j3.2.2.2.2.2.1 then
 some (Sum.inr (Sum.inr (1, [], ())))
 else
 bif (a2A (IntKind.i64.wrap ((j3.1.length : Int) - 1)) j3.1.length) then
 bif (f2A 8 (j3.1 ++ [(IntKind.i64.wrap ((j3.1.getD ((IntKind.i64.wrap ((j3.1.length : Int) - 1)).toNat) 0) + j3.2.1))]).length) then
 some (Sum.inl ((j3.1 ++ [(IntKind.i64.wrap ((j3.1.getD ((IntKind.i64.wrap ((j3.1.length : Int) - 1)).toNat) 0) + j3.2.1))]), j3.2.2.1, j3.2.2.2.1, (IntKind.i64.wrap (j3.2.2.2.2.1 + 1)), j3.2.2.2.2.2.2.1, ()))
 else none
 else none
 else none
 else
 some (Sum.inr (Sum.inl (p2.1, p2.2.2.2.2.1, ())))
noncomputable def s0B (a0 : List Int) : Option (List Int × Int) :=
 (bif ((a0.length : Int) == 0) then
 some (a0, true, [], ())
 else
 some (a0, (decide ((a0.length : Int) > 256)), [], ()) : Option ((List Int × Bool × List Int × Unit))).bind fun j1 =>
 bif j1.2.1 then
 some ([], 1)
 else
 (a1A (q4C) ([0], j1.1, (j1.1.length : Int), 0, j1.2.2.1, ())).bind fun j4 =>
 (match j4 with
 | .inl j5 =>
 (bif (a2A (IntKind.i64.wrap ((j5.1.length : Int) - 1)) j5.1.length) then
 bif (decide ((j5.1.getD ((IntKind.i64.wrap ((j5.1.length : Int) - 1)).toNat) 0) > 16384)) then
 some ([], 1)
 else
 some (j5.1, 0)
 else none)
 | .inr j6 =>
 (some (j6.2.1, j6.1)))
noncomputable def l1C : Option (List Int) :=
 (s0B [6, 9, 1]).bind fun y1 =>
 some y1.1
noncomputable def l2C : Option (List Int) :=
 (s0B [1, 1, 2, 3, 5, 9, 16, 30, 60, 30, 16, 9, 5, 3, 2, 1]).bind fun y1 =>
 some y1.1
noncomputable def q5C (p2 : List Int × Int × Int × List Int × Unit) : Option ((List Int × Int × Int × List Int × Unit) ⊕ ((List Int × List Int × Unit))) :=
 bif (decide (p2.2.2.1 < p2.2.1)) then
 bif (f2A 8 (p2.1 ++ [1]).length) then
 some (Sum.inl ((p2.1 ++ [1]), p2.2.1, (IntKind.i64.wrap (p2.2.2.1 + 1)), p2.2.2.2.1, ()))
 else none
 else
 some (Sum.inr (p2.1, p2.2.2.2.1, ()))
noncomputable def b1D (a0 : Int) : Option (List Int × Int) :=
 (bif (decide (a0 < 1)) then
 some (a0, true, [], ())
 else
 some (a0, (decide (a0 > 256)), [], ()) : Option ((Int × Bool × List Int × Unit))).bind fun j1 =>
 bif j1.2.1 then
 some ([], 1)
 else
 (a1A (q5C) ([], j1.1, 0, j1.2.2.1, ())).bind fun j3 =>
 (s0B j3.1).bind fun y4 =>
 some (y4.1, y4.2)
noncomputable def l3C : Option (List Int) :=
 (b1D 256).bind fun y1 =>
 some y1.1
noncomputable def q6C (p1 : Int × List Int × Int × List Int × Unit) : Option ((Int × List Int × Int × List Int × Unit) ⊕ ((List Int × List Int × Unit))) :=
 bif (decide (p1.2.2.1 ≤ p1.1)) then
 bif (f2A 8 (p1.2.1 ++ [(IntKind.i64.wrap ((IntKind.i64.wrap (p1.1 + 1)) - (if p1.2.2.1 < (IntKind.i64.wrap (0 - p1.2.2.1)) then (IntKind.i64.wrap (0 - p1.2.2.1)) else p1.2.2.1)))]).length) then
 some (Sum.inl (p1.1, (p1.2.1 ++ [(IntKind.i64.wrap ((IntKind.i64.wrap (p1.1 + 1)) - (if p1.2.2.1 < (IntKind.i64.wrap (0 - p1.2.2.1)) then (IntKind.i64.wrap (0 - p1.2.2.1)) else p1.2.2.1)))]), (IntKind.i64.wrap (p1.2.2.1 + 1)), p1.2.2.2.1, ()))
 else none
 else
 some (Sum.inr (p1.2.1, p1.2.2.2.1, ()))
noncomputable def l4C (a0 : Int) : Option (List Int) :=
 (a1A (q6C) (a0, [], (IntKind.i64.wrap (0 - a0)), [], ())).bind fun j2 =>
 (s0B j2.1).bind fun y3 =>
 some y3.1
noncomputable def b6C (p2 : List Int × List (List Int) × Int × (Int × List Int × List Int) × List Int × Unit) : Option ((List Int × List (List Int) × Int × (Int × List Int × List Int) × List Int × Unit) ⊕ ((List Int × List (List Int) × (Int × List Int × List Int) × Unit))) :=
 bif (decide (p2.2.2.1 < 6)) then
 (bif (p2.2.2.2.1.1 == 1) then
 bif (a2A p2.2.2.1 6) then
 bif (a2A p2.2.2.1 6) then
 bif (f2A 8 (p2.1 ++ [(IntKind.i64.wrap ((IntKind.i64.wrap ((p2.2.2.2.1.2.1.getD p2.2.2.1.toNat 0) - (p2.2.2.2.2.1.getD p2.2.2.1.toNat 0))) + 8))]).length) then
 (l2C).bind fun y3 =>
 bif (f2A 24 (p2.2.1 ++ [y3]).length) then
 some ((p2.1 ++ [(IntKind.i64.wrap ((IntKind.i64.wrap ((p2.2.2.2.1.2.1.getD p2.2.2.1.toNat 0) - (p2.2.2.2.2.1.getD p2.2.2.1.toNat 0))) + 8))]), (p2.2.1 ++ [y3]), p2.2.2.1, (p2.2.2.2.1.1, (p2.2.2.2.1.2.1, p2.2.2.2.1.2.2)), p2.2.2.2.2.1, ())
 else none
 else none
 else none
 else none
 else
 bif (a2A p2.2.2.1 6) then
 bif (f2A 8 (p2.1 ++ [(p2.2.2.2.1.2.1.getD p2.2.2.1.toNat 0)]).length) then
 (l3C).bind fun y4 =>
 bif (f2A 24 (p2.2.1 ++ [y4]).length) then
 some ((p2.1 ++ [(p2.2.2.2.1.2.1.getD p2.2.2.1.toNat 0)]), (p2.2.1 ++ [y4]), p2.2.2.1, (p2.2.2.2.1.1, (p2.2.2.2.1.2.1, p2.2.2.2.1.2.2)), p2.2.2.2.2.1, ())
 else none
 else none
 else none : Option ((List Int × List (List Int) × Int × (Int × List Int × List Int) × List Int × Unit))).bind fun j5 =>
 some (Sum.inl (j5.1, j5.2.1, (IntKind.i64.wrap (j5.2.2.1 + 1)), (j5.2.2.2.1.1, (j5.2.2.2.1.2.1, j5.2.2.2.1.2.2)), j5.2.2.2.2.1, ()))
 else
 some (Sum.inr (p2.1, p2.2.1, (p2.2.2.2.1.1, (p2.2.2.2.1.2.1, p2.2.2.2.1.2.2)), ()))
noncomputable def b7C (p8 : List Int × List (List Int) × List Int × Int × (Int × List Int × List Int) × Unit) : Option ((List Int × List (List Int) × List Int × Int × (Int × List Int × List Int) × Unit) ⊕ ((List Int × List (List Int) × Unit))) :=
 bif (decide (p8.2.2.2.1 < 16)) then
 (bif (a2A p8.2.2.2.1 16) then
 bif (decide ((p8.2.2.1.getD p8.2.2.2.1.toNat 0) > 0)) then
 bif (a2A p8.2.2.2.1 16) then
 bif (f2A 8 (p8.1 ++ [(IntKind.i64.wrap ((p8.2.2.2.2.1.2.2.getD p8.2.2.2.1.toNat 0) + (p8.2.2.1.getD p8.2.2.2.1.toNat 0)))]).length) then
 (l4C (p8.2.2.1.getD p8.2.2.2.1.toNat 0)).bind fun y9 =>
 bif (f2A 24 (p8.2.1 ++ [y9]).length) then
 some ((p8.1 ++ [(IntKind.i64.wrap ((p8.2.2.2.2.1.2.2.getD p8.2.2.2.1.toNat 0) + (p8.2.2.1.getD p8.2.2.2.1.toNat 0)))]), (p8.2.1 ++ [y9]), p8.2.2.1, p8.2.2.2.1, (p8.2.2.2.2.1.1, (p8.2.2.2.2.1.2.1, p8.2.2.2.2.1.2.2)), ())
 else none
 else none
 else none
 else
 some (p8.1, p8.2.1, p8.2.2.1, p8.2.2.2.1, (p8.2.2.2.2.1.1, (p8.2.2.2.2.1.2.1, p8.2.2.2.2.1.2.2)), ())
 else none : Option ((List Int × List (List Int) × List Int × Int × (Int × List Int × List Int) × Unit))).bind fun j10 =>
 some (Sum.inl (j10.1, j10.2.1, j10.2.2.1, (IntKind.i64.wrap (j10.2.2.2.1 + 1)), (j10.2.2.2.2.1.1, (j10.2.2.2.2.1.2.1, j10.2.2.2.2.1.2.2)), ()))
 else
 some (Sum.inr (p8.1, p8.2.1, ()))
noncomputable def l5C (a0 : Int × List Int × List Int) (a1 : List Int) : Option (List Int × List (List Int)) :=
 (l1C).bind fun y1 =>
 (a1A (b6C) ([a0.1], [y1], 0, (a0.1, (a0.2.1, a0.2.2)), a1, ())).bind fun j6 =>
 bif (j6.2.2.1.1 == 2) then
 some (j6.1, j6.2.1)
 else
 (d2B j6.2.2.1.2.1).bind fun y7 =>
 (a1A (b7C) (j6.1, j6.2.1, y7.2.1, 0, (j6.2.2.1.1, (j6.2.2.1.2.1, j6.2.2.1.2.2)), ())).bind fun j11 =>
 some (j11.1, j11.2.1)
noncomputable def p8D : Option (Int × Int × Int × List Int × Int) :=
 some (0, (4294967295, (0, ([], 0))))
noncomputable def q7C (p2 : Int × Int × List Int × Unit) : Option ((Int × Int × List Int × Unit) ⊕ (Unit ⊕ (Int × Unit))) :=
 bif (decide (p2.2.1 < p2.1)) then
 bif (a2A p2.2.1 p2.2.2.1.length) then
 bif (a2A (IntKind.i64.wrap (p2.2.1 - 1)) p2.2.2.1.length) then
 bif (decide ((p2.2.2.1.getD p2.2.1.toNat 0) ≤ (p2.2.2.1.getD ((IntKind.i64.wrap (p2.2.1 - 1)).toNat) 0))) then
 some (Sum.inr (Sum.inr (1, ())))
 else
 some (Sum.inl (p2.1, (IntKind.i64.wrap (p2.2.1 + 1)), p2.2.2.1, ()))
 else none
 else none
 else
 some (Sum.inr (Sum.inl ()))
noncomputable def y5A (a0 : List Int) : Option (Int) :=
 (bif (decide ((a0.length : Int) < 2)) then
 some ((a0.length : Int), true, a0, ())
 else
 bif (decide ((a0.length : Int) > 257)) then
 some ((a0.length : Int), true, a0, ())
 else
 bif (a2A 0 a0.length) then
 bif ((a0.getD 0 0) != 0) then
 some ((a0.length : Int), true, a0, ())
 else
 bif (a2A (IntKind.i64.wrap ((a0.length : Int) - 1)) a0.length) then
 some ((a0.length : Int), (decide ((a0.getD ((IntKind.i64.wrap ((a0.length : Int) - 1)).toNat) 0) > 16384)), a0, ())
 else none
 else none : Option ((Int × Bool × List Int × Unit))).bind fun j1 =>
 bif j1.2.1 then
 some 1
 else
 (a1A (q7C) (j1.1, 1, j1.2.2.1, ())).bind fun j3 =>
 (match j3 with
 | .inl j4 =>
 (some 0)
 | .inr j5 =>
 (some j5.1))
noncomputable def m3B (a0 : List Int) (a1 : Int) : Option (Int × Int × Int) :=
 ((y5A a0).bind fun y1 =>
 bif (y1 != 0) then
 some (a1, true, a0, ())
 else
 bif (decide (a1 < 0)) then
 some (a1, true, a0, ())
 else
 some (a1, (decide (a1 ≥ (IntKind.i64.wrap ((a0.length : Int) - 1)))), a0, ()) : Option ((Int × Bool × List Int × Unit))).bind fun j2 =>
 bif j2.2.1 then
 some (0, (0, 1))
 else
 bif (a2A j2.1 j2.2.2.1.length) then
 bif (a2A (IntKind.i64.wrap (j2.1 + 1)) j2.2.2.1.length) then
 some ((j2.2.2.1.getD j2.1.toNat 0), ((j2.2.2.1.getD ((IntKind.i64.wrap (j2.1 + 1)).toNat) 0), 0))
 else none
 else none
noncomputable def d3B (a0 : Int) (a1 : Int) : Option (Bool) :=
 (bif (decide (a0 ≥ a1)) then
 some (a0, a1, true, ())
 else
 some (a0, a1, (decide (a1 ≥ 4294967296)), ()) : Option ((Int × Int × Bool × Unit))).bind fun j1 =>
 bif j1.2.2.1 then
 some false
 else
 bif (decide (j1.2.1 ≥ 2147483648)) then
 bif (decide (j1.1 < 2147483648)) then
 bif (decide (j1.1 ≥ 1073741824)) then
 some (!(decide (j1.2.1 < 3221225472)))
 else
 some true
 else
 some false
 else
 some false
noncomputable def z3B (a0 : List Int × Int) (a1 : Int) : Option (Int) :=
 bif (a2A (IntKind.i64.wrap (a1.tdiv 8)) a0.1.length) then
 bif (decide (0 ≤ (IntKind.u64.wrap (IntKind.i64.wrap (7 - (a1.tmod 8)))))) then
 some (d4A .and .u64 (IntKind.u64.wrap (c5A .u8 (a0.1.getD ((IntKind.i64.wrap (a1.tdiv 8)).toNat) 0) (IntKind.u64.wrap (IntKind.i64.wrap (7 - (a1.tmod 8)))))) 1)
 else none
 else none
noncomputable def q8C (p2 : Int × (List Int × Int) × Unit) : Option ((Int × (List Int × Int) × Unit) ⊕ (Unit ⊕ (Int × Unit))) :=
 bif (decide (p2.1 < (IntKind.i64.wrap (8 * (p2.2.1.1.length : Int))))) then
 (z3B (p2.2.1.1, p2.2.1.2) p2.1).bind fun y3 =>
 bif (y3 != 0) then
 some (Sum.inr (Sum.inr (1, ())))
 else
 some (Sum.inl ((IntKind.i64.wrap (p2.1 + 1)), (p2.2.1.1, p2.2.1.2), ()))
 else
 some (Sum.inr (Sum.inl ()))
noncomputable def y6A (a0 : List Int × Int) : Option (Int) :=
 (bif (decide (a0.2 < 0)) then
 some (true, (a0.1, a0.2), ())
 else
 bif (decide (a0.2 > 65536)) then
 some (true, (a0.1, a0.2), ())
 else
 some (((a0.1.length : Int) != (IntKind.i64.wrap ((IntKind.i64.wrap (a0.2 + 7)).tdiv 8))), (a0.1, a0.2), ()) : Option ((Bool × (List Int × Int) × Unit))).bind fun j1 =>
 bif j1.1 then
 some 1
 else
 (a1A (q8C) (j1.2.1.2, (j1.2.1.1, j1.2.1.2), ())).bind fun j4 =>
 (match j4 with
 | .inl j5 =>
 (some 0)
 | .inr j6 =>
 (some j6.1))
noncomputable def d4B (a0 : Int × Int × Int × List Int × Int) : Option (Bool) :=
 (d3B (IntKind.u64.wrap a0.1) (IntKind.u64.wrap a0.2.1)).bind fun y1 =>
 bif y1 then
 bif (decide (a0.2.2.1 ≥ 0)) then
 bif (decide (a0.2.2.1 ≤ 65536)) then
 (y6A (a0.2.2.2.1, a0.2.2.2.2)).bind fun y2 =>
 some (y2 == 0)
 else
 some false
 else
 some false
 else
 some false
noncomputable def s1B (a0 : List Int) : Option (Int) :=
 (y5A a0).bind fun y1 =>
 bif (y1 != 0) then
 some 0
 else
 bif (a2A (IntKind.i64.wrap ((a0.length : Int) - 1)) a0.length) then
 some (a0.getD ((IntKind.i64.wrap ((a0.length : Int) - 1)).toNat) 0)
 else none
noncomputable def l7C (a0 : Int) (a1 : Int) (a2 : Int) (a3 : Int) (a4 : Int) : Option (Int × Int) :=
 bif ((IntKind.u64.wrap a4) != 0) then
 bif ((IntKind.u64.wrap a4) != 0) then
 some ((IntKind.u64.wrap (a0 + (IntKind.u64.wrap ((IntKind.u64.wrap ((IntKind.u64.wrap ((IntKind.u64.wrap (a1 - a0)) + 1)) * (IntKind.u64.wrap a2))).tdiv (IntKind.u64.wrap a4))))), (IntKind.u64.wrap ((IntKind.u64.wrap (a0 + (IntKind.u64.wrap ((IntKind.u64.wrap ((IntKind.u64.wrap ((IntKind.u64.wrap (a1 - a0)) + 1)) * (IntKind.u64.wrap a3))).tdiv (IntKind.u64.wrap a4))))) - 1)))
 else none
 else none
noncomputable def d5B (a0 : List Int × Int) : Option (List Int × Int) :=
 bif (f2A 1 a0.1.length) then
 some (a0.1, a0.2)
 else none
noncomputable def l8C (a0 : List Int × Int) (a1 : Int) : Option (List Int × Int) :=
 (bif ((a0.2.tmod 8) == 0) then
 bif (f2A 1 (a0.1 ++ [0]).length) then
 some (a1, ((a0.1 ++ [0]), a0.2), ([], 0), ())
 else none
 else
 some (a1, (a0.1, a0.2), ([], 0), ()) : Option ((Int × (List Int × Int) × (List Int × Int) × Unit))).bind fun j1 =>
 bif (a2A (IntKind.i64.wrap (j1.2.1.2.tdiv 8)) j1.2.1.1.length) then
 bif (decide (0 ≤ (IntKind.u64.wrap (IntKind.i64.wrap (7 - (j1.2.1.2.tmod 8)))))) then
 bif (a2A (IntKind.i64.wrap (j1.2.1.2.tdiv 8)) j1.2.1.1.length) then
 some ((j1.2.1.1.set ((IntKind.i64.wrap (j1.2.1.2.tdiv 8)).toNat) (d4A .or .u8 (j1.2.1.1.getD ((IntKind.i64.wrap (j1.2.1.2.tdiv 8)).toNat) 0) (IntKind.u8.wrap (c9A .u64 j1.1 (IntKind.u64.wrap (IntKind.i64.wrap (7 - (j1.2.1.2.tmod 8)))))))), (IntKind.i64.wrap (j1.2.1.2 + 1)))
 else none
 else none
 else none
noncomputable def q9C (p4 : Int × Int × (List Int × Int) × (List Int × Int) × Unit) : Option ((Int × Int × (List Int × Int) × (List Int × Int) × Unit) ⊕ (((List Int × Int) × (List Int × Int) × Unit))) :=
 bif (decide (p4.2.1 ≥ 0)) then
 bif (decide (0 ≤ (IntKind.u64.wrap p4.2.1))) then
 (l8C (p4.2.2.2.1.1, p4.2.2.2.1.2) (d4A .and .u64 (c5A .u64 p4.1 (IntKind.u64.wrap p4.2.1)) 1)).bind fun y5 =>
 some (Sum.inl (p4.1, (IntKind.i64.wrap (p4.2.1 - 1)), (p4.2.2.1.1, p4.2.2.1.2), (y5.1, y5.2), ()))
 else none
 else
 some (Sum.inr ((p4.2.2.1.1, p4.2.2.1.2), (p4.2.2.2.1.1, p4.2.2.2.1.2), ()))
noncomputable def b0B (a0 : List Int × Int) (a1 : Int) (a2 : Int) : Option ((List Int × Int) × Int) :=
 ((y6A (a0.1, a0.2)).bind fun y1 =>
 bif (y1 != 0) then
 some (a1, a2, true, (a0.1, a0.2), ([], 0), ())
 else
 bif (decide (a2 < 0)) then
 some (a1, a2, true, (a0.1, a0.2), ([], 0), ())
 else
 bif (decide (a2 > 64)) then
 some (a1, a2, true, (a0.1, a0.2), ([], 0), ())
 else
 bif (decide (a2 < 64)) then
 bif (decide (0 ≤ (IntKind.u64.wrap a2))) then
 some (a1, a2, ((c5A .u64 a1 (IntKind.u64.wrap a2)) != 0), (a0.1, a0.2), ([], 0), ())
 else none
 else
 some (a1, a2, false, (a0.1, a0.2), ([], 0), ()) : Option ((Int × Int × Bool × (List Int × Int) × (List Int × Int) × Unit))).bind fun j2 =>
 bif j2.2.2.1 then
 some (([], 0), 1)
 else
 bif (decide ((IntKind.i64.wrap (j2.2.2.2.1.2 + j2.2.1)) > 65536)) then
 some (([], 0), 2)
 else
 (d5B (j2.2.2.2.1.1, j2.2.2.2.1.2)).bind fun y3 =>
 (a1A (q9C) (j2.1, (IntKind.i64.wrap (j2.2.1 - 1)), (j2.2.2.2.2.1.1, j2.2.2.2.2.1.2), (y3.1, y3.2), ())).bind fun j6 =>
 some ((j6.2.1.1, j6.2.1.2), 0)
noncomputable def e2B (p2 : Int × Int × Int × (List Int × Int) × (List Int × Int) × Unit) : Option ((Int × Int × Int × (List Int × Int) × (List Int × Int) × Unit) ⊕ ((Int × (List Int × Int) × (List Int × Int) × Unit))) :=
 (bif (decide (p2.2.1 > 0)) then
 some (p2.1, p2.2.1, p2.2.2.1, (p2.2.2.1 == 0), (p2.2.2.2.1.1, p2.2.2.2.1.2), (p2.2.2.2.2.1.1, p2.2.2.2.2.1.2), ())
 else
 some (p2.1, p2.2.1, p2.2.2.1, false, (p2.2.2.2.1.1, p2.2.2.2.1.2), (p2.2.2.2.2.1.1, p2.2.2.2.2.1.2), ()) : Option ((Int × Int × Int × Bool × (List Int × Int) × (List Int × Int) × Unit))).bind fun j3 =>
 bif j3.2.2.2.1 then
 (b0B (j3.2.2.2.2.1.1, j3.2.2.2.2.1.2) (IntKind.u64.wrap (1 - j3.1)) 1).bind fun y4 =>
 some (Sum.inl (j3.1, (IntKind.i64.wrap (j3.2.1 - 1)), y4.2, (y4.1.1, y4.1.2), (j3.2.2.2.2.2.1.1, j3.2.2.2.2.2.1.2), ()))
 else
 some (Sum.inr (j3.2.2.1, (j3.2.2.2.2.1.1, j3.2.2.2.2.1.2), (j3.2.2.2.2.2.1.1, j3.2.2.2.2.2.1.2), ()))
noncomputable def m4B (a0 : List Int × Int) (a1 : Int) (a2 : Int) : Option ((List Int × Int) × Int) :=
 (b0B (a0.1, a0.2) a1 1).bind fun y1 =>
 (a1A (e2B) (a1, a2, y1.2, (y1.1.1, y1.1.2), ([], 0), ())).bind fun j5 =>
 some ((j5.2.1.1, j5.2.1.2), j5.1)
noncomputable def y9A (p7 : Int × Int × (Int × Int × Int × List Int × Int) × (Int × Int × Int × List Int × Int) × Unit) : Option ((Int × Int × (Int × Int × Int × List Int × Int) × (Int × Int × Int × List Int × Int) × Unit) ⊕ ((Int × (Int × Int × Int × List Int × Int) × Unit))) :=
 (bif (decide (p7.2.1 < 2147483648)) then
 some (Sum.inl (p7.1, p7.2.1, 0, 0, (p7.2.2.1.1, (p7.2.2.1.2.1, (p7.2.2.1.2.2.1, (p7.2.2.1.2.2.2.1, p7.2.2.1.2.2.2.2)))), (p7.2.2.2.1.1, (p7.2.2.2.1.2.1, (p7.2.2.2.1.2.2.1, (p7.2.2.2.1.2.2.2.1, p7.2.2.2.1.2.2.2.2)))), ()))
 else
 bif (decide (p7.1 ≥ 2147483648)) then
 some (Sum.inl (p7.1, p7.2.1, 2147483648, 1, (p7.2.2.1.1, (p7.2.2.1.2.1, (p7.2.2.1.2.2.1, (p7.2.2.1.2.2.2.1, p7.2.2.1.2.2.2.2)))), (p7.2.2.2.1.1, (p7.2.2.2.1.2.1, (p7.2.2.2.1.2.2.1, (p7.2.2.2.1.2.2.2.1, p7.2.2.2.1.2.2.2.2)))), ()))
 else
 (bif (decide (p7.1 ≥ 1073741824)) then
 some (p7.1, p7.2.1, 2, (decide (p7.2.1 < 3221225472)), (p7.2.2.1.1, (p7.2.2.1.2.1, (p7.2.2.1.2.2.1, (p7.2.2.1.2.2.2.1, p7.2.2.1.2.2.2.2)))), (p7.2.2.2.1.1, (p7.2.2.2.1.2.1, (p7.2.2.2.1.2.2.1, (p7.2.2.2.1.2.2.2.1, p7.2.2.2.1.2.2.2.2)))), ())
 else
 some (p7.1, p7.2.1, 2, false, (p7.2.2.1.1, (p7.2.2.1.2.1, (p7.2.2.1.2.2.1, (p7.2.2.1.2.2.2.1, p7.2.2.1.2.2.2.2)))), (p7.2.2.2.1.1, (p7.2.2.2.1.2.1, (p7.2.2.2.1.2.2.1, (p7.2.2.2.1.2.2.2.1, p7.2.2.2.1.2.2.2.2)))), ()) : Option ((Int × Int × Int × Bool × (Int × Int × Int × List Int × Int) × (Int × Int × Int × List Int × Int) × Unit))).bind fun j8 =>
 bif j8.2.2.2.1 then
 some (Sum.inl (j8.1, j8.2.1, 1073741824, j8.2.2.1, (j8.2.2.2.2.1.1, (j8.2.2.2.2.1.2.1, (j8.2.2.2.2.1.2.2.1, (j8.2.2.2.2.1.2.2.2.1, j8.2.2.2.2.1.2.2.2.2)))), (j8.2.2.2.2.2.1.1, (j8.2.2.2.2.2.1.2.1, ((IntKind.i64.wrap (j8.2.2.2.2.2.1.2.2.1 + 1)), (j8.2.2.2.2.2.1.2.2.2.1, j8.2.2.2.2.2.1.2.2.2.2)))), ()))
 else
 bif (decide (j8.2.2.2.2.2.1.2.2.1 > 65536)) then
 some (Sum.inr (2, (0, (0, (0, ([], 0)))), ()))
 else
 some (Sum.inr (0, ((IntKind.u32.wrap j8.1), ((IntKind.u32.wrap j8.2.1), (j8.2.2.2.2.2.1.2.2.1, (j8.2.2.2.2.2.1.2.2.2.1, j8.2.2.2.2.2.1.2.2.2.2)))), ())) : Option ((Int × Int × Int × Int × (Int × Int × Int × List Int × Int) × (Int × Int × Int × List Int × Int) × Unit) ⊕ (Int × (Int × Int × Int × List Int × Int) × Unit))).bind fun j9 =>
 (match j9 with
 | .inl j10 =>
 ((bif (decide (j10.2.2.2.1 < 2)) then
 (m4B (j10.2.2.2.2.2.1.2.2.2.1, j10.2.2.2.2.2.1.2.2.2.2) j10.2.2.2.1 j10.2.2.2.2.2.1.2.2.1).bind fun y12 =>
 bif (y12.2 != 0) then
 some (Sum.inr (y12.2, (0, (0, (0, ([], 0)))), ()))
 else
 some (Sum.inl (j10.1, j10.2.1, j10.2.2.1, (j10.2.2.2.2.1.1, (j10.2.2.2.2.1.2.1, (j10.2.2.2.2.1.2.2.1, (j10.2.2.2.2.1.2.2.2.1, j10.2.2.2.2.1.2.2.2.2)))), (j10.2.2.2.2.2.1.1, (j10.2.2.2.2.2.1.2.1, (0, (y12.1.1, y12.1.2)))), ()))
 else
 some (Sum.inl (j10.1, j10.2.1, j10.2.2.1, (j10.2.2.2.2.1.1, (j10.2.2.2.2.1.2.1, (j10.2.2.2.2.1.2.2.1, (j10.2.2.2.2.1.2.2.2.1, j10.2.2.2.2.1.2.2.2.2)))), (j10.2.2.2.2.2.1.1, (j10.2.2.2.2.2.1.2.1, (j10.2.2.2.2.2.1.2.2.1, (j10.2.2.2.2.2.1.2.2.2.1, j10.2.2.2.2.2.1.2.2.2.2)))), ())) : Option ((Int × Int × Int × (Int × Int × Int × List Int × Int) × (Int × Int × Int × List Int × Int) × Unit) ⊕ (Int × (Int × Int × Int × List Int × Int) × Unit))).bind fun j13 =>
 (match j13 with
 | .inl j14 =>
 (some (Sum.inl ((IntKind.u64.wrap (2 * (IntKind.u64.wrap (j14.1 - j14.2.2.1)))), (IntKind.u64.wrap ((IntKind.u64.wrap (2 * (IntKind.u64.wrap (j14.2.1 - j14.2.2.1)))) + 1)), (j14.2.2.2.1.1, (j14.2.2.2.1.2.1, (j14.2.2.2.1.2.2.1, (j14.2.2.2.1.2.2.2.1, j14.2.2.2.1.2.2.2.2)))), (j14.2.2.2.2.1.1, (j14.2.2.2.2.1.2.1, (j14.2.2.2.2.1.2.2.1, (j14.2.2.2.2.1.2.2.2.1, j14.2.2.2.2.1.2.2.2.2)))), ())))
 | .inr j15 =>
 (some (Sum.inr (j15.1, (j15.2.1.1, (j15.2.1.2.1, (j15.2.1.2.2.1, (j15.2.1.2.2.2.1, j15.2.1.2.2.2.2)))), ())))))
 | .inr j11 =>
 (some (Sum.inr (j11.1, (j11.2.1.1, (j11.2.1.2.1, (j11.2.1.2.2.1, (j11.2.1.2.2.2.1, j11.2.1.2.2.2.2)))), ()))))
noncomputable def i4B (a0 : Int × Int × Int × List Int × Int) (a1 : List Int) (a2 : Int) : Option ((Int × Int × Int × List Int × Int) × Int) :=
 (m3B a1 a2).bind fun y1 =>
 ((d4B (a0.1, (a0.2.1, (a0.2.2.1, (a0.2.2.2.1, a0.2.2.2.2))))).bind fun y2 =>
 bif (!y2) then
 some (y1.1, y1.2.1, true, (a0.1, (a0.2.1, (a0.2.2.1, (a0.2.2.2.1, a0.2.2.2.2)))), a1, (0, (0, (0, ([], 0)))), ())
 else
 some (y1.1, y1.2.1, (y1.2.2 != 0), (a0.1, (a0.2.1, (a0.2.2.1, (a0.2.2.2.1, a0.2.2.2.2)))), a1, (0, (0, (0, ([], 0)))), ()) : Option ((Int × Int × Bool × (Int × Int × Int × List Int × Int) × List Int × (Int × Int × Int × List Int × Int) × Unit))).bind fun j3 =>
 bif j3.2.2.1 then
 some ((0, (0, (0, ([], 0)))), 1)
 else
 (s1B j3.2.2.2.2.1).bind fun y4 =>
 (l7C (IntKind.u64.wrap j3.2.2.2.1.1) (IntKind.u64.wrap j3.2.2.2.1.2.1) j3.1 j3.2.1 y4).bind fun y5 =>
 (d5B (j3.2.2.2.1.2.2.2.1, j3.2.2.2.1.2.2.2.2)).bind fun y6 =>
 (a1A (y9A) (y5.1, y5.2, (j3.2.2.2.2.2.1.1, (j3.2.2.2.2.2.1.2.1, (j3.2.2.2.2.2.1.2.2.1, (j3.2.2.2.2.2.1.2.2.2.1, j3.2.2.2.2.2.1.2.2.2.2)))), (0, (0, (j3.2.2.2.1.2.2.1, (y6.1, y6.2)))), ())).bind fun j16 =>
 some ((j16.2.1.1, (j16.2.1.2.1, (j16.2.1.2.2.1, (j16.2.1.2.2.2.1, j16.2.1.2.2.2.2)))), j16.1)
noncomputable def i5B (a0 : Int × Int × Int × List Int × Int) : Option ((List Int × Int) × Int) :=
 (d4B (a0.1, (a0.2.1, (a0.2.2.1, (a0.2.2.2.1, a0.2.2.2.2))))).bind fun y1 =>
 bif (!y1) then
 some (([], 0), 1)
 else
 (bif (decide (a0.1 < 1073741824)) then
 some (0, (a0.1, (a0.2.1, (a0.2.2.1, (a0.2.2.2.1, a0.2.2.2.2)))), ([], 0), ())
 else
 some (1, (a0.1, (a0.2.1, (a0.2.2.1, (a0.2.2.2.1, a0.2.2.2.2)))), ([], 0), ()) : Option ((Int × (Int × Int × Int × List Int × Int) × (List Int × Int) × Unit))).bind fun j2 =>
 (m4B (j2.2.1.2.2.2.1, j2.2.1.2.2.2.2) j2.1 (IntKind.i64.wrap (j2.2.1.2.2.1 + 1))).bind fun y3 =>
 some ((y3.1.1, y3.1.2), y3.2)
noncomputable def r0C (p2 : List (List Int) × List Int × Int × Int × (List Int × Int) × (Int × Int × Int × List Int × Int) × Unit) : Option ((List (List Int) × List Int × Int × Int × (List Int × Int) × (Int × Int × Int × List Int × Int) × Unit) ⊕ (((List Int × Int) × (Int × Int × Int × List Int × Int) × Unit) ⊕ (Int × (List Int × Int) × Unit))) :=
 bif (decide (p2.2.2.2.1 < p2.2.2.1)) then
 bif (a2A p2.2.2.2.1 p2.2.1.length) then
 bif (a2A p2.2.2.2.1 p2.1.length) then
 (i4B (p2.2.2.2.2.2.1.1, (p2.2.2.2.2.2.1.2.1, (p2.2.2.2.2.2.1.2.2.1, (p2.2.2.2.2.2.1.2.2.2.1, p2.2.2.2.2.2.1.2.2.2.2)))) (p2.1.getD p2.2.2.2.1.toNat []) (p2.2.1.getD p2.2.2.2.1.toNat 0)).bind fun y3 =>
 bif (y3.2 != 0) then
 some (Sum.inr (Sum.inr (y3.2, ([], 0), ())))
 else
 some (Sum.inl (p2.1, p2.2.1, p2.2.2.1, (IntKind.i64.wrap (p2.2.2.2.1 + 1)), (p2.2.2.2.2.1.1, p2.2.2.2.2.1.2), (y3.1.1, (y3.1.2.1, (y3.1.2.2.1, (y3.1.2.2.2.1, y3.1.2.2.2.2)))), ()))
 else none
 else none
 else
 some (Sum.inr (Sum.inl ((p2.2.2.2.2.1.1, p2.2.2.2.2.1.2), (p2.2.2.2.2.2.1.1, (p2.2.2.2.2.2.1.2.1, (p2.2.2.2.2.2.1.2.2.1, (p2.2.2.2.2.2.1.2.2.2.1, p2.2.2.2.2.2.1.2.2.2.2)))), ())))
noncomputable def s2B (a0 : List Int) (a1 : List (List Int)) : Option ((List Int × Int) × Int) :=
 bif ((a0.length : Int) != (a1.length : Int)) then
 some (([], 0), 1)
 else
 (p8D).bind fun y1 =>
 (a1A (r0C) (a1, a0, (a0.length : Int), 0, ([], 0), (y1.1, (y1.2.1, (y1.2.2.1, (y1.2.2.2.1, y1.2.2.2.2)))), ())).bind fun j4 =>
 (match j4 with
 | .inl j5 =>
 ((i5B (j5.2.1.1, (j5.2.1.2.1, (j5.2.1.2.2.1, (j5.2.1.2.2.2.1, j5.2.1.2.2.2.2))))).bind fun y7 =>
 some ((y7.1.1, y7.1.2), y7.2))
 | .inr j6 =>
 (some ((j6.2.1.1, j6.2.1.2), j6.1)))
noncomputable def l9C (a0 : Int × List Int × List Int) (a1 : List Int) : Option (List Int × Int) :=
 (q2A (a0.1, (a0.2.1, a0.2.2)) a1).bind fun y1 =>
 bif (y1 != 0) then
 some ([], 1)
 else
 (l5C (a0.1, (a0.2.1, a0.2.2)) a1).bind fun y2 =>
 (s2B y2.1 y2.2).bind fun y3 =>
 some (y3.1.1, y3.2)
noncomputable def b4D (a0 : List Int) : Option (List Int × Int) :=
 bif (decide ((a0.length : Int) > 8192)) then
 some ([], 0)
 else
 bif (f2A 1 a0.length) then
 some (a0, (IntKind.i64.wrap (8 * (a0.length : Int))))
 else none
noncomputable def c4D (p4 : Int × Int × Int × Int × (List Int × Int) × Unit) : Option ((Int × Int × Int × Int × (List Int × Int) × Unit) ⊕ ((Int × Unit))) :=
 bif (decide (p4.2.2.2.1 < p4.2.2.1)) then
 (z3B (p4.2.2.2.2.1.1, p4.2.2.2.2.1.2) (IntKind.i64.wrap (p4.1 + p4.2.2.2.1))).bind fun y5 =>
 some (Sum.inl (p4.1, (d4A .or .u64 (c9A .u64 p4.2.1 1) y5), p4.2.2.1, (IntKind.i64.wrap (p4.2.2.2.1 + 1)), (p4.2.2.2.2.1.1, p4.2.2.2.2.1.2), ()))
 else
 some (Sum.inr (p4.2.1, ()))
noncomputable def m0C (a0 : List Int × Int) (a1 : Int) (a2 : Int) : Option (Int × Int) :=
 ((y6A (a0.1, a0.2)).bind fun y1 =>
 bif (y1 != 0) then
 some (a1, a2, true, (a0.1, a0.2), ())
 else
 bif (decide (a1 < 0)) then
 some (a1, a2, true, (a0.1, a0.2), ())
 else
 bif (decide (a2 < 0)) then
 some (a1, a2, true, (a0.1, a0.2), ())
 else
 some (a1, a2, (decide (a2 > 64)), (a0.1, a0.2), ()) : Option ((Int × Int × Bool × (List Int × Int) × Unit))).bind fun j2 =>
 bif j2.2.2.1 then
 some (0, 1)
 else
 (bif (decide (j2.1 > j2.2.2.2.1.2)) then
 some (j2.1, j2.2.1, true, (j2.2.2.2.1.1, j2.2.2.2.1.2), ())
 else
 some (j2.1, j2.2.1, (decide (j2.2.1 > (IntKind.i64.wrap (j2.2.2.2.1.2 - j2.1)))), (j2.2.2.2.1.1, j2.2.2.2.1.2), ()) : Option ((Int × Int × Bool × (List Int × Int) × Unit))).bind fun j3 =>
 bif j3.2.2.1 then
 some (0, 20)
 else
 (a1A (c4D) (j3.1, 0, j3.2.1, 0, (j3.2.2.2.1.1, j3.2.2.2.1.2), ())).bind fun j6 =>
 some (j6.1, 0)
noncomputable def s3B (a0 : List Int × Int) (a1 : Int) : Option (Int) :=
 (m0C (a0.1, a0.2) a1 1).bind fun y1 =>
 bif (y1.2 != 0) then
 some 0
 else
 some y1.1
noncomputable def c5D (p2 : Int × Int × (List Int × Int) × (Int × Int × Int × (List Int × Int) × Int) × Unit) : Option ((Int × Int × (List Int × Int) × (Int × Int × Int × (List Int × Int) × Int) × Unit) ⊕ ((Int × (List Int × Int) × (Int × Int × Int × (List Int × Int) × Int) × Unit))) :=
 bif (decide (p2.2.1 < 32)) then
 (s3B (p2.2.2.1.1, p2.2.2.1.2) p2.2.1).bind fun y3 =>
 some (Sum.inl ((IntKind.u64.wrap ((IntKind.u64.wrap (2 * p2.1)) + y3)), (IntKind.i64.wrap (p2.2.1 + 1)), (p2.2.2.1.1, p2.2.2.1.2), (p2.2.2.2.1.1, (p2.2.2.2.1.2.1, (p2.2.2.2.1.2.2.1, ((p2.2.2.2.1.2.2.2.1.1, p2.2.2.2.1.2.2.2.1.2), p2.2.2.2.1.2.2.2.2)))), ()))
 else
 some (Sum.inr (p2.1, (p2.2.2.1.1, p2.2.2.1.2), (p2.2.2.2.1.1, (p2.2.2.2.1.2.1, (p2.2.2.2.1.2.2.1, ((p2.2.2.2.1.2.2.2.1.1, p2.2.2.2.1.2.2.2.1.2), p2.2.2.2.1.2.2.2.2)))), ()))
noncomputable def s4B (a0 : List Int × Int) : Option ((Int × Int × Int × (List Int × Int) × Int) × Int) :=
 (y6A (a0.1, a0.2)).bind fun y1 =>
 bif (y1 != 0) then
 some ((0, (0, (0, (([], 0), 0)))), 1)
 else
 (a1A (c5D) (0, 0, (a0.1, a0.2), (0, (0, (0, (([], 0), 0)))), ())).bind fun j4 =>
 (d5B (j4.2.1.1, j4.2.1.2)).bind fun y5 =>
 some ((0, (4294967295, ((IntKind.u32.wrap j4.1), ((y5.1, y5.2), 32)))), 0)
noncomputable def b1B (a0 : Int × Int × Int × (List Int × Int) × Int) : Option (Bool) :=
 (d3B (IntKind.u64.wrap a0.1) (IntKind.u64.wrap a0.2.1)).bind fun y1 =>
 bif y1 then
 bif (decide (a0.1 ≤ a0.2.2.1)) then
 bif (decide (a0.2.2.1 ≤ a0.2.1)) then
 (y6A (a0.2.2.2.1.1, a0.2.2.2.1.2)).bind fun y2 =>
 bif (y2 == 0) then
 bif (decide (a0.2.2.2.2 ≥ 32)) then
 some (decide (a0.2.2.2.2 ≤ 65600))
 else
 some false
 else
 some false
 else
 some false
 else
 some false
 else
 some false
noncomputable def c6D (p4 : Int × Int × List Int × Unit) : Option ((Int × Int × List Int × Unit) ⊕ ((Int × Unit))) :=
 bif (a2A (IntKind.i64.wrap (p4.2.1 + 1)) p4.2.2.1.length) then
 bif (decide ((p4.2.2.1.getD ((IntKind.i64.wrap (p4.2.1 + 1)).toNat) 0) ≤ p4.1)) then
 some (Sum.inl (p4.1, (IntKind.i64.wrap (p4.2.1 + 1)), p4.2.2.1, ()))
 else
 some (Sum.inr (p4.2.1, ()))
 else none
noncomputable def b5D (a0 : List Int) (a1 : Int) : Option (Int × Int) :=
 ((y5A a0).bind fun y1 =>
 bif (y1 != 0) then
 some (a1, true, a0, ())
 else
 bif (decide (a1 < 0)) then
 some (a1, true, a0, ())
 else
 (s1B a0).bind fun y2 =>
 some (a1, (decide (a1 ≥ y2)), a0, ()) : Option ((Int × Bool × List Int × Unit))).bind fun j3 =>
 bif j3.2.1 then
 some (0, 1)
 else
 (a1A (c6D) (j3.1, 0, j3.2.2.1, ())).bind fun j5 =>
 some (j5.1, 0)
noncomputable def n0B (p8 : Int × Int × Int × Int × Int × (Int × Int × Int × (List Int × Int) × Int) × (Int × Int × Int × (List Int × Int) × Int) × Unit) : Option ((Int × Int × Int × Int × Int × (Int × Int × Int × (List Int × Int) × Int) × (Int × Int × Int × (List Int × Int) × Int) × Unit) ⊕ ((Int × Int × (Int × Int × Int × (List Int × Int) × Int) × Unit))) :=
 (bif (decide (p8.2.1 < 2147483648)) then
 some (Sum.inl (p8.1, p8.2.1, p8.2.2.1, p8.2.2.2.1, p8.2.2.2.2.1, 0, (p8.2.2.2.2.2.1.1, (p8.2.2.2.2.2.1.2.1, (p8.2.2.2.2.2.1.2.2.1, ((p8.2.2.2.2.2.1.2.2.2.1.1, p8.2.2.2.2.2.1.2.2.2.1.2), p8.2.2.2.2.2.1.2.2.2.2)))), (p8.2.2.2.2.2.2.1.1, (p8.2.2.2.2.2.2.1.2.1, (p8.2.2.2.2.2.2.1.2.2.1, ((p8.2.2.2.2.2.2.1.2.2.2.1.1, p8.2.2.2.2.2.2.1.2.2.2.1.2), p8.2.2.2.2.2.2.1.2.2.2.2)))), ()))
 else
 bif (decide (p8.1 ≥ 2147483648)) then
 some (Sum.inl (p8.1, p8.2.1, p8.2.2.1, p8.2.2.2.1, p8.2.2.2.2.1, 2147483648, (p8.2.2.2.2.2.1.1, (p8.2.2.2.2.2.1.2.1, (p8.2.2.2.2.2.1.2.2.1, ((p8.2.2.2.2.2.1.2.2.2.1.1, p8.2.2.2.2.2.1.2.2.2.1.2), p8.2.2.2.2.2.1.2.2.2.2)))), (p8.2.2.2.2.2.2.1.1, (p8.2.2.2.2.2.2.1.2.1, (p8.2.2.2.2.2.2.1.2.2.1, ((p8.2.2.2.2.2.2.1.2.2.2.1.1, p8.2.2.2.2.2.2.1.2.2.2.1.2), p8.2.2.2.2.2.2.1.2.2.2.2)))), ()))
 else
 (bif (decide (p8.1 ≥ 1073741824)) then
 some (p8.1, p8.2.1, p8.2.2.1, p8.2.2.2.1, p8.2.2.2.2.1, (decide (p8.2.1 < 3221225472)), (p8.2.2.2.2.2.1.1, (p8.2.2.2.2.2.1.2.1, (p8.2.2.2.2.2.1.2.2.1, ((p8.2.2.2.2.2.1.2.2.2.1.1, p8.2.2.2.2.2.1.2.2.2.1.2), p8.2.2.2.2.2.1.2.2.2.2)))), (p8.2.2.2.2.2.2.1.1, (p8.2.2.2.2.2.2.1.2.1, (p8.2.2.2.2.2.2.1.2.2.1, ((p8.2.2.2.2.2.2.1.2.2.2.1.1, p8.2.2.2.2.2.2.1.2.2.2.1.2), p8.2.2.2.2.2.2.1.2.2.2.2)))), ())
 else
 some (p8.1, p8.2.1, p8.2.2.1, p8.2.2.2.1, p8.2.2.2.2.1, false, (p8.2.2.2.2.2.1.1, (p8.2.2.2.2.2.1.2.1, (p8.2.2.2.2.2.1.2.2.1, ((p8.2.2.2.2.2.1.2.2.2.1.1, p8.2.2.2.2.2.1.2.2.2.1.2), p8.2.2.2.2.2.1.2.2.2.2)))), (p8.2.2.2.2.2.2.1.1, (p8.2.2.2.2.2.2.1.2.1, (p8.2.2.2.2.2.2.1.2.2.1, ((p8.2.2.2.2.2.2.1.2.2.2.1.1, p8.2.2.2.2.2.2.1.2.2.2.1.2), p8.2.2.2.2.2.2.1.2.2.2.2)))), ()) : Option ((Int × Int × Int × Int × Int × Bool × (Int × Int × Int × (List Int × Int) × Int) × (Int × Int × Int × (List Int × Int) × Int) × Unit))).bind fun j9 =>
 bif j9.2.2.2.2.2.1 then
 some (Sum.inl (j9.1, j9.2.1, j9.2.2.1, j9.2.2.2.1, j9.2.2.2.2.1, 1073741824, (j9.2.2.2.2.2.2.1.1, (j9.2.2.2.2.2.2.1.2.1, (j9.2.2.2.2.2.2.1.2.2.1, ((j9.2.2.2.2.2.2.1.2.2.2.1.1, j9.2.2.2.2.2.2.1.2.2.2.1.2), j9.2.2.2.2.2.2.1.2.2.2.2)))), (j9.2.2.2.2.2.2.2.1.1, (j9.2.2.2.2.2.2.2.1.2.1, (j9.2.2.2.2.2.2.2.1.2.2.1, ((j9.2.2.2.2.2.2.2.1.2.2.2.1.1, j9.2.2.2.2.2.2.2.1.2.2.2.1.2), j9.2.2.2.2.2.2.2.1.2.2.2.2)))), ()))
 else
 (d5B (j9.2.2.2.2.2.2.1.2.2.2.1.1, j9.2.2.2.2.2.2.1.2.2.2.1.2)).bind fun y10 =>
 some (Sum.inr (j9.2.2.2.1, 0, ((IntKind.u32.wrap j9.1), ((IntKind.u32.wrap j9.2.1), ((IntKind.u32.wrap j9.2.2.1), ((y10.1, y10.2), j9.2.2.2.2.1)))), ())) : Option ((Int × Int × Int × Int × Int × Int × (Int × Int × Int × (List Int × Int) × Int) × (Int × Int × Int × (List Int × Int) × Int) × Unit) ⊕ (Int × Int × (Int × Int × Int × (List Int × Int) × Int) × Unit))).bind fun j11 =>
 (match j11 with
 | .inl j12 =>
 ((s3B (j12.2.2.2.2.2.2.1.2.2.2.1.1, j12.2.2.2.2.2.2.1.2.2.2.1.2) j12.2.2.2.2.1).bind fun y14 =>
 some (Sum.inl ((IntKind.u64.wrap (2 * (IntKind.u64.wrap (j12.1 - j12.2.2.2.2.2.1)))), (IntKind.u64.wrap ((IntKind.u64.wrap (2 * (IntKind.u64.wrap (j12.2.1 - j12.2.2.2.2.2.1)))) + 1)), (IntKind.u64.wrap ((IntKind.u64.wrap (2 * (IntKind.u64.wrap (j12.2.2.1 - j12.2.2.2.2.2.1)))) + y14)), j12.2.2.2.1, (IntKind.i64.wrap (j12.2.2.2.2.1 + 1)), (j12.2.2.2.2.2.2.1.1, (j12.2.2.2.2.2.2.1.2.1, (j12.2.2.2.2.2.2.1.2.2.1, ((j12.2.2.2.2.2.2.1.2.2.2.1.1, j12.2.2.2.2.2.2.1.2.2.2.1.2), j12.2.2.2.2.2.2.1.2.2.2.2)))), (j12.2.2.2.2.2.2.2.1.1, (j12.2.2.2.2.2.2.2.1.2.1, (j12.2.2.2.2.2.2.2.1.2.2.1, ((j12.2.2.2.2.2.2.2.1.2.2.2.1.1, j12.2.2.2.2.2.2.2.1.2.2.2.1.2), j12.2.2.2.2.2.2.2.1.2.2.2.2)))), ())))
 | .inr j13 =>
 (some (Sum.inr (j13.1, j13.2.1, (j13.2.2.1.1, (j13.2.2.1.2.1, (j13.2.2.1.2.2.1, ((j13.2.2.1.2.2.2.1.1, j13.2.2.1.2.2.2.1.2), j13.2.2.1.2.2.2.2)))), ()))))
noncomputable def u1A (a0 : Int × Int × Int × (List Int × Int) × Int) (a1 : List Int) : Option ((Int × Int × Int × (List Int × Int) × Int) × Int × Int) :=
 ((b1B (a0.1, (a0.2.1, (a0.2.2.1, ((a0.2.2.2.1.1, a0.2.2.2.1.2), a0.2.2.2.2))))).bind fun y1 =>
 bif (!y1) then
 some (true, (a0.1, (a0.2.1, (a0.2.2.1, ((a0.2.2.2.1.1, a0.2.2.2.1.2), a0.2.2.2.2)))), a1, (0, (0, (0, (([], 0), 0)))), ())
 else
 (y5A a1).bind fun y2 =>
 some ((y2 != 0), (a0.1, (a0.2.1, (a0.2.2.1, ((a0.2.2.2.1.1, a0.2.2.2.1.2), a0.2.2.2.2)))), a1, (0, (0, (0, (([], 0), 0)))), ()) : Option ((Bool × (Int × Int × Int × (List Int × Int) × Int) × List Int × (Int × Int × Int × (List Int × Int) × Int) × Unit))).bind fun j3 =>
 bif j3.1 then
 some ((0, (0, (0, (([], 0), 0)))), (0, 1))
 else
 bif (decide (j3.2.1.2.2.2.2 > (IntKind.i64.wrap (j3.2.1.2.2.2.1.2 + 32)))) then
 some ((0, (0, (0, (([], 0), 0)))), (0, 20))
 else
 (s1B j3.2.2.1).bind fun y4 =>
 bif ((IntKind.u64.wrap ((IntKind.u64.wrap ((IntKind.u64.wrap j3.2.1.2.1) - (IntKind.u64.wrap j3.2.1.1))) + 1)) != 0) then
 (b5D j3.2.2.1 (IntKind.i64.wrap (IntKind.u64.wrap ((IntKind.u64.wrap ((IntKind.u64.wrap ((IntKind.u64.wrap ((IntKind.u64.wrap ((IntKind.u64.wrap j3.2.1.2.2.1) - (IntKind.u64.wrap j3.2.1.1))) + 1)) * (IntKind.u64.wrap y4))) - 1)).tdiv (IntKind.u64.wrap ((IntKind.u64.wrap ((IntKind.u64.wrap j3.2.1.2.1) - (IntKind.u64.wrap j3.2.1.1))) + 1)))))).bind fun y5 =>
 (m3B j3.2.2.1 y5.1).bind fun y6 =>
 (l7C (IntKind.u64.wrap j3.2.1.1) (IntKind.u64.wrap j3.2.1.2.1) y6.1 y6.2.1 y4).bind fun y7 =>
 (a1A (n0B) (y7.1, y7.2, (IntKind.u64.wrap j3.2.1.2.2.1), y5.1, j3.2.1.2.2.2.2, (j3.2.1.1, (j3.2.1.2.1, (j3.2.1.2.2.1, ((j3.2.1.2.2.2.1.1, j3.2.1.2.2.2.1.2), j3.2.1.2.2.2.2)))), (j3.2.2.2.1.1, (j3.2.2.2.1.2.1, (j3.2.2.2.1.2.2.1, ((j3.2.2.2.1.2.2.2.1.1, j3.2.2.2.1.2.2.2.1.2), j3.2.2.2.1.2.2.2.2)))), ())).bind fun j15 =>
 some ((j15.2.2.1.1, (j15.2.2.1.2.1, (j15.2.2.1.2.2.1, ((j15.2.2.1.2.2.2.1.1, j15.2.2.1.2.2.2.1.2), j15.2.2.1.2.2.2.2)))), (j15.1, j15.2.1))
 else none
noncomputable def j2B (p5 : Int × List Int × (Int × List Int × List Int) × (Int × List Int × List Int) × (Int × Int × Int × (List Int × Int) × Int) × Unit) : Option ((Int × List Int × (Int × List Int × List Int) × (Int × List Int × List Int) × (Int × Int × Int × (List Int × Int) × Int) × Unit) ⊕ (((Int × List Int × List Int) × (Int × List Int × List Int) × (Int × Int × Int × (List Int × Int) × Int) × Unit) ⊕ (Bool × (Int × List Int × List Int) × Unit))) :=
 bif (decide (p5.1 < 6)) then
 ((l3C).bind fun y6 =>
 (bif (p5.2.2.2.1.1 == 1) then
 (l2C).bind fun y7 =>
 some (p5.1, p5.1, p5.2.1, (p5.2.2.1.1, (p5.2.2.1.2.1, p5.2.2.1.2.2)), (p5.2.2.2.1.1, (p5.2.2.2.1.2.1, p5.2.2.2.1.2.2)), (p5.2.2.2.2.1.1, (p5.2.2.2.2.1.2.1, (p5.2.2.2.2.1.2.2.1, ((p5.2.2.2.2.1.2.2.2.1.1, p5.2.2.2.2.1.2.2.2.1.2), p5.2.2.2.2.1.2.2.2.2)))), y7, ())
 else
 some (p5.1, p5.1, p5.2.1, (p5.2.2.1.1, (p5.2.2.1.2.1, p5.2.2.1.2.2)), (p5.2.2.2.1.1, (p5.2.2.2.1.2.1, p5.2.2.2.1.2.2)), (p5.2.2.2.2.1.1, (p5.2.2.2.2.1.2.1, (p5.2.2.2.2.1.2.2.1, ((p5.2.2.2.2.1.2.2.2.1.1, p5.2.2.2.2.1.2.2.2.1.2), p5.2.2.2.2.1.2.2.2.2)))), y6, ()) : Option ((Int × Int × List Int × (Int × List Int × List Int) × (Int × List Int × List Int) × (Int × Int × Int × (List Int × Int) × Int) × List Int × Unit))).bind fun j8 =>
 (u1A (j8.2.2.2.2.2.1.1, (j8.2.2.2.2.2.1.2.1, (j8.2.2.2.2.2.1.2.2.1, ((j8.2.2.2.2.2.1.2.2.2.1.1, j8.2.2.2.2.2.1.2.2.2.1.2), j8.2.2.2.2.2.1.2.2.2.2)))) j8.2.2.2.2.2.2.1).bind fun y9 =>
 bif (y9.2.2 != 0) then
 some (Sum.inr (false, (j8.2.2.2.2.1.1, (j8.2.2.2.2.1.2.1, j8.2.2.2.2.1.2.2)), ()))
 else
 bif (a2A j8.1 6) then
 bif (j8.2.2.2.2.1.1 == 1) then
 bif (a2A j8.1 6) then
 bif (a2A j8.1 6) then
 some (Sum.inl (j8.2.1, j8.2.2.1, (j8.2.2.2.1.1, (j8.2.2.2.1.2.1, j8.2.2.2.1.2.2)), (j8.2.2.2.2.1.1, (((j8.2.2.2.2.1.2.1.set j8.1.toNat y9.2.1).set j8.1.toNat (IntKind.i64.wrap ((IntKind.i64.wrap ((j8.2.2.1.getD j8.1.toNat 0) + y9.2.1)) - 8))), j8.2.2.2.2.1.2.2)), (y9.1.1, (y9.1.2.1, (y9.1.2.2.1, ((y9.1.2.2.2.1.1, y9.1.2.2.2.1.2), y9.1.2.2.2.2)))), ()))
 else none
 else none
 else
 some (Sum.inl (j8.2.1, j8.2.2.1, (j8.2.2.2.1.1, (j8.2.2.2.1.2.1, j8.2.2.2.1.2.2)), (j8.2.2.2.2.1.1, ((j8.2.2.2.2.1.2.1.set j8.1.toNat y9.2.1), j8.2.2.2.2.1.2.2)), (y9.1.1, (y9.1.2.1, (y9.1.2.2.1, ((y9.1.2.2.2.1.1, y9.1.2.2.2.1.2), y9.1.2.2.2.2)))), ()))
 else none : Option ((Int × List Int × (Int × List Int × List Int) × (Int × List Int × List Int) × (Int × Int × Int × (List Int × Int) × Int) × Unit) ⊕ (Bool × (Int × List Int × List Int) × Unit))).bind fun j10 =>
 (match j10 with
 | .inl j11 =>
 (some (Sum.inl ((IntKind.i64.wrap (j11.1 + 1)), j11.2.1, (j11.2.2.1.1, (j11.2.2.1.2.1, j11.2.2.1.2.2)), (j11.2.2.2.1.1, (j11.2.2.2.1.2.1, j11.2.2.2.1.2.2)), (j11.2.2.2.2.1.1, (j11.2.2.2.2.1.2.1, (j11.2.2.2.2.1.2.2.1, ((j11.2.2.2.2.1.2.2.2.1.1, j11.2.2.2.2.1.2.2.2.1.2), j11.2.2.2.2.1.2.2.2.2)))), ())))
 | .inr j12 =>
 (some (Sum.inr (Sum.inr (j12.1, (j12.2.1.1, (j12.2.1.2.1, j12.2.1.2.2)), ())))))
 else
 some (Sum.inr (Sum.inl ((p5.2.2.1.1, (p5.2.2.1.2.1, p5.2.2.1.2.2)), (p5.2.2.2.1.1, (p5.2.2.2.1.2.1, p5.2.2.2.1.2.2)), (p5.2.2.2.2.1.1, (p5.2.2.2.2.1.2.1, (p5.2.2.2.2.1.2.2.1, ((p5.2.2.2.2.1.2.2.2.1.1, p5.2.2.2.2.1.2.2.2.1.2), p5.2.2.2.2.1.2.2.2.2)))), ())))
noncomputable def z0A (p17 : Bool × List Int × Int × (Int × List Int × List Int) × (Int × List Int × List Int) × (Int × Int × Int × (List Int × Int) × Int) × Unit) : Option ((Bool × List Int × Int × (Int × List Int × List Int) × (Int × List Int × List Int) × (Int × Int × Int × (List Int × Int) × Int) × Unit) ⊕ (((Int × List Int × List Int) × (Int × List Int × List Int) × Unit) ⊕ (Bool × (Int × List Int × List Int) × Unit))) :=
 bif (decide (p17.2.2.1 < 16)) then
 (bif (a2A p17.2.2.1 16) then
 (bif (!p17.1) then
 some (p17.1, p17.2.2.1, (p17.2.1.getD p17.2.2.1.toNat 0), p17.2.1, p17.2.2.1, true, (p17.2.2.2.1.1, (p17.2.2.2.1.2.1, p17.2.2.2.1.2.2)), (p17.2.2.2.2.1.1, (p17.2.2.2.2.1.2.1, p17.2.2.2.2.1.2.2)), (p17.2.2.2.2.2.1.1, (p17.2.2.2.2.2.1.2.1, (p17.2.2.2.2.2.1.2.2.1, ((p17.2.2.2.2.2.1.2.2.2.1.1, p17.2.2.2.2.2.1.2.2.2.1.2), p17.2.2.2.2.2.1.2.2.2.2)))), ())
 else
 some (p17.1, p17.2.2.1, (p17.2.1.getD p17.2.2.1.toNat 0), p17.2.1, p17.2.2.1, ((p17.2.1.getD p17.2.2.1.toNat 0) == 0), (p17.2.2.2.1.1, (p17.2.2.2.1.2.1, p17.2.2.2.1.2.2)), (p17.2.2.2.2.1.1, (p17.2.2.2.2.1.2.1, p17.2.2.2.2.1.2.2)), (p17.2.2.2.2.2.1.1, (p17.2.2.2.2.2.1.2.1, (p17.2.2.2.2.2.1.2.2.1, ((p17.2.2.2.2.2.1.2.2.2.1.1, p17.2.2.2.2.2.1.2.2.2.1.2), p17.2.2.2.2.2.1.2.2.2.2)))), ()) : Option ((Bool × Int × Int × List Int × Int × Bool × (Int × List Int × List Int) × (Int × List Int × List Int) × (Int × Int × Int × (List Int × Int) × Int) × Unit))).bind fun j18 =>
 bif j18.2.2.2.2.2.1 then
 some (Sum.inl (j18.1, j18.2.2.2.1, j18.2.2.2.2.1, (j18.2.2.2.2.2.2.1.1, (j18.2.2.2.2.2.2.1.2.1, j18.2.2.2.2.2.2.1.2.2)), (j18.2.2.2.2.2.2.2.1.1, (j18.2.2.2.2.2.2.2.1.2.1, j18.2.2.2.2.2.2.2.1.2.2)), (j18.2.2.2.2.2.2.2.2.1.1, (j18.2.2.2.2.2.2.2.2.1.2.1, (j18.2.2.2.2.2.2.2.2.1.2.2.1, ((j18.2.2.2.2.2.2.2.2.1.2.2.2.1.1, j18.2.2.2.2.2.2.2.2.1.2.2.2.1.2), j18.2.2.2.2.2.2.2.2.1.2.2.2.2)))), ()))
 else
 (l4C j18.2.2.1).bind fun y19 =>
 (u1A (j18.2.2.2.2.2.2.2.2.1.1, (j18.2.2.2.2.2.2.2.2.1.2.1, (j18.2.2.2.2.2.2.2.2.1.2.2.1, ((j18.2.2.2.2.2.2.2.2.1.2.2.2.1.1, j18.2.2.2.2.2.2.2.2.1.2.2.2.1.2), j18.2.2.2.2.2.2.2.2.1.2.2.2.2)))) y19).bind fun y20 =>
 bif (y20.2.2 != 0) then
 some (Sum.inr (false, (j18.2.2.2.2.2.2.2.1.1, (j18.2.2.2.2.2.2.2.1.2.1, j18.2.2.2.2.2.2.2.1.2.2)), ()))
 else
 bif (a2A j18.2.1 16) then
 some (Sum.inl (j18.1, j18.2.2.2.1, j18.2.2.2.2.1, (j18.2.2.2.2.2.2.1.1, (j18.2.2.2.2.2.2.1.2.1, j18.2.2.2.2.2.2.1.2.2)), (j18.2.2.2.2.2.2.2.1.1, (j18.2.2.2.2.2.2.2.1.2.1, (j18.2.2.2.2.2.2.2.1.2.2.set j18.2.1.toNat (IntKind.i64.wrap (y20.2.1 - j18.2.2.1))))), (y20.1.1, (y20.1.2.1, (y20.1.2.2.1, ((y20.1.2.2.2.1.1, y20.1.2.2.2.1.2), y20.1.2.2.2.2)))), ()))
 else none
 else none : Option ((Bool × List Int × Int × (Int × List Int × List Int) × (Int × List Int × List Int) × (Int × Int × Int × (List Int × Int) × Int) × Unit) ⊕ (Bool × (Int × List Int × List Int) × Unit))).bind fun j21 =>
 (match j21 with
 | .inl j22 =>
 (some (Sum.inl (j22.1, j22.2.1, (IntKind.i64.wrap (j22.2.2.1 + 1)), (j22.2.2.2.1.1, (j22.2.2.2.1.2.1, j22.2.2.2.1.2.2)), (j22.2.2.2.2.1.1, (j22.2.2.2.2.1.2.1, j22.2.2.2.2.1.2.2)), (j22.2.2.2.2.2.1.1, (j22.2.2.2.2.2.1.2.1, (j22.2.2.2.2.2.1.2.2.1, ((j22.2.2.2.2.2.1.2.2.2.1.1, j22.2.2.2.2.2.1.2.2.2.1.2), j22.2.2.2.2.2.1.2.2.2.2)))), ())))
 | .inr j23 =>
 (some (Sum.inr (Sum.inr (j23.1, (j23.2.1.1, (j23.2.1.2.1, j23.2.1.2.2)), ())))))
 else
 some (Sum.inr (Sum.inl ((p17.2.2.2.1.1, (p17.2.2.2.1.2.1, p17.2.2.2.1.2.2)), (p17.2.2.2.2.1.1, (p17.2.2.2.2.1.2.1, p17.2.2.2.2.1.2.2)), ())))
noncomputable def y7A (a0 : List Int) (a1 : List Int) : Option ((Int × List Int × List Int) × Bool) :=
 bif (decide ((a0.length : Int) > 40)) then
 some ((0, ((List.replicate 6 0), (List.replicate 16 0))), false)
 else
 (b4D a0).bind fun y1 =>
 (s4B (y1.1, y1.2)).bind fun y2 =>
 bif (y2.2 != 0) then
 some ((0, ((List.replicate 6 0), (List.replicate 16 0))), false)
 else
 (l1C).bind fun y3 =>
 (u1A (y2.1.1, (y2.1.2.1, (y2.1.2.2.1, ((y2.1.2.2.2.1.1, y2.1.2.2.2.1.2), y2.1.2.2.2.2)))) y3).bind fun y4 =>
 bif (y4.2.2 != 0) then
 some ((0, ((List.replicate 6 0), (List.replicate 16 0))), false)
 else
 (a1A (j2B) (0, a1, (0, ((List.replicate 6 0), (List.replicate 16 0))), (y4.2.1, ((List.replicate 6 0), (List.replicate 16 0))), (y4.1.1, (y4.1.2.1, (y4.1.2.2.1, ((y4.1.2.2.2.1.1, y4.1.2.2.2.1.2), y4.1.2.2.2.2)))), ())).bind fun j13 =>
 (match j13 with
 | .inl j14 =>
 (bif (j14.2.1.1 == 2) then
 some ((j14.2.1.1, (j14.2.1.2.1, j14.2.1.2.2)), true)
 else
 (d2B j14.2.1.2.1).bind fun y16 =>
 (a1A (z0A) (y16.2.2.2, y16.2.1, 0, (j14.1.1, (j14.1.2.1, j14.1.2.2)), (j14.2.1.1, (j14.2.1.2.1, j14.2.1.2.2)), (j14.2.2.1.1, (j14.2.2.1.2.1, (j14.2.2.1.2.2.1, ((j14.2.2.1.2.2.2.1.1, j14.2.2.1.2.2.2.1.2), j14.2.2.1.2.2.2.2)))), ())).bind fun j24 =>
 (match j24 with
 | .inl j25 =>
 (some ((j25.2.1.1, (j25.2.1.2.1, j25.2.1.2.2)), true))
 | .inr j26 =>
 (some ((j26.2.1.1, (j26.2.1.2.1, j26.2.1.2.2)), j26.1))))
 | .inr j15 =>
 (some ((j15.2.1.1, (j15.2.1.2.1, j15.2.1.2.2)), j15.1)))
noncomputable def i6B (a0 : List Int) (a1 : List Int) : Option ((Int × List Int × List Int) × Int) :=
 (y3A a1).bind fun y1 =>
 bif (y1 != 0) then
 some ((0, ((List.replicate 6 0), (List.replicate 16 0))), 1)
 else
 (y7A a0 a1).bind fun y2 =>
 (bif (!y2.2) then
 some (a0, true, a1, (0, ((List.replicate 6 0), (List.replicate 16 0))), (y2.1.1, (y2.1.2.1, y2.1.2.2)), ())
 else
 (q2A (y2.1.1, (y2.1.2.1, y2.1.2.2)) a1).bind fun y3 =>
 some (a0, (y3 != 0), a1, (0, ((List.replicate 6 0), (List.replicate 16 0))), (y2.1.1, (y2.1.2.1, y2.1.2.2)), ()) : Option ((List Int × Bool × List Int × (Int × List Int × List Int) × (Int × List Int × List Int) × Unit))).bind fun j4 =>
 bif j4.2.1 then
 some ((0, ((List.replicate 6 0), (List.replicate 16 0))), 21)
 else
 (l9C (j4.2.2.2.2.1.1, (j4.2.2.2.2.1.2.1, j4.2.2.2.2.1.2.2)) j4.2.2.1).bind fun y5 =>
 (bif (y5.2 != 0) then
 some (true, (j4.2.2.2.1.1, (j4.2.2.2.1.2.1, j4.2.2.2.1.2.2)), (j4.2.2.2.2.1.1, (j4.2.2.2.2.1.2.1, j4.2.2.2.2.1.2.2)), ())
 else
 some ((!(t0B (z1A y5.1) (z1A j4.1))), (j4.2.2.2.1.1, (j4.2.2.2.1.2.1, j4.2.2.2.1.2.2)), (j4.2.2.2.2.1.1, (j4.2.2.2.2.1.2.1, j4.2.2.2.2.1.2.2)), ()) : Option ((Bool × (Int × List Int × List Int) × (Int × List Int × List Int) × Unit))).bind fun j6 =>
 bif j6.1 then
 some ((0, ((List.replicate 6 0), (List.replicate 16 0))), 21)
 else
 some ((j6.2.2.1.1, (j6.2.2.1.2.1, j6.2.2.1.2.2)), 0)
noncomputable def r1C (p3 : Int × List Int × List Int × List Int × List Int × Unit) : Option ((Int × List Int × List Int × List Int × List Int × Unit) ⊕ ((List Int × List Int × Unit))) :=
 bif (decide (p3.1 < 16)) then
 bif (a2A p3.1 16) then
 bif (a2A p3.1 16) then
 bif (a2A p3.1 16) then
 some (Sum.inl ((IntKind.i64.wrap (p3.1 + 1)), p3.2.1, p3.2.2.1, (p3.2.2.2.1.set p3.1.toNat (if 67108864 < (if (IntKind.i64.wrap ((p3.2.1.getD p3.1.toNat 0) * (p3.2.2.2.2.1.getD p3.1.toNat 0))) < (-67108864) then (-67108864) else (IntKind.i64.wrap ((p3.2.1.getD p3.1.toNat 0) * (p3.2.2.2.2.1.getD p3.1.toNat 0)))) then 67108864 else (if (IntKind.i64.wrap ((p3.2.1.getD p3.1.toNat 0) * (p3.2.2.2.2.1.getD p3.1.toNat 0))) < (-67108864) then (-67108864) else (IntKind.i64.wrap ((p3.2.1.getD p3.1.toNat 0) * (p3.2.2.2.2.1.getD p3.1.toNat 0)))))), p3.2.2.2.2.1, ()))
 else none
 else none
 else none
 else
 some (Sum.inr (p3.2.2.1, p3.2.2.2.1, ()))
noncomputable def b6D (a0 : List Int) (a1 : List Int) : Option (List Int × Int) :=
 (i3B a0 a1).bind fun y1 =>
 bif (!y1) then
 some ((List.replicate 16 0), 1)
 else
 (d2B a1).bind fun y2 =>
 (a1A (r1C) (0, a0, (List.replicate 16 0), (List.replicate 16 0), y2.1, ())).bind fun j4 =>
 some (j4.2.1, 0)
noncomputable def i7B (a0 : List Int × List Int × Bool × Bool × Int) (a1 : List Int) : Option ((List Int × List Int × Bool × Bool × Int) × List Int × Int) :=
 (y9B a0).bind fun y1 =>
 bif (y1 != 0) then
 some (((List.replicate 16 0), ((List.replicate 6 0), (false, (false, 0)))), ([0, 0, 0, 0, 0, 0, 0, 0, 0, 0, 0, 0, 0, 0, 0, 0], 1))
 else
 (i6B a1 a0.2.1).bind fun y2 =>
 bif (y2.2 != 0) then
 some (((List.replicate 16 0), ((List.replicate 6 0), (false, (false, 0)))), ([0, 0, 0, 0, 0, 0, 0, 0, 0, 0, 0, 0, 0, 0, 0, 0], y2.2))
 else
 (bif (y2.1.1 == 1) then
 some ((!a0.2.2.1), a0, ((List.replicate 16 0), ((List.replicate 6 0), (false, (false, 0)))), (List.replicate 16 0), y2.1, ())
 else
 some (false, a0, ((List.replicate 16 0), ((List.replicate 6 0), (false, (false, 0)))), (List.replicate 16 0), y2.1, ()) : Option ((Bool × (List Int × List Int × Bool × Bool × Int) × (List Int × List Int × Bool × Bool × Int) × List Int × (Int × List Int × List Int) × Unit))).bind fun j3 =>
 bif j3.1 then
 some (((List.replicate 16 0), ((List.replicate 6 0), (false, (false, 0)))), ([0, 0, 0, 0, 0, 0, 0, 0, 0, 0, 0, 0, 0, 0, 0, 0], 40))
 else
 bif (j3.2.2.2.2.1.1 == 2) then
 (k9C (j3.2.1.1, (j3.2.2.2.2.1.2.1, ((j3.2.2.2.2.1.1 != 2), ((j3.2.2.2.2.1.1 == 2), j3.2.1.2.2.2.2))))).bind fun y4 =>
 some y4
 else
 (b6D j3.2.2.2.2.1.2.2 j3.2.2.2.2.1.2.1).bind fun y5 =>
 bif (y5.2 != 0) then
 some (((List.replicate 16 0), ((List.replicate 6 0), (false, (false, 0)))), ([0, 0, 0, 0, 0, 0, 0, 0, 0, 0, 0, 0, 0, 0, 0, 0], y5.2))
 else
 (z2B (j3.2.1.1, (j3.2.2.2.2.1.2.1, ((j3.2.2.2.2.1.1 != 2), ((j3.2.2.2.2.1.1 == 2), j3.2.1.2.2.2.2)))) y5.1).bind fun y6 =>
 some y6
noncomputable def z4B (a0 : List Int × Int × Int × Int × List Int × List Int × Bool × Bool × Int) (a1 : List Int) : Option ((List Int × Int × Int × Int × List Int × List Int × Bool × Bool × Int) × List Int × Int) :=
 (m2B a0.1 a1).bind fun y1 =>
 ((k1C a0).bind fun y2 =>
 bif (y2 != 0) then
 some (true, a0, a1, ((List.replicate 16 0), (0, (0, (0, ((List.replicate 16 0), ((List.replicate 6 0), (false, (false, 0)))))))), y1.1, ())
 else
 some ((y1.2 != 0), a0, a1, ((List.replicate 16 0), (0, (0, (0, ((List.replicate 16 0), ((List.replicate 6 0), (false, (false, 0)))))))), y1.1, ()) : Option ((Bool × (List Int × Int × Int × Int × List Int × List Int × Bool × Bool × Int) × List Int × (List Int × Int × Int × Int × List Int × List Int × Bool × Bool × Int) × List Int × Unit))).bind fun j3 =>
 bif j3.1 then
 some (((List.replicate 16 0), (0, (0, (0, ((List.replicate 16 0), ((List.replicate 6 0), (false, (false, 0)))))))), ([], 1))
 else
 (k4C j3.2.2.2.2.1).bind fun y4 =>
 (k5C y4.1).bind fun y5 =>
 ((bif (decide (y5 ≥ 100)) then
 some ((decide (y5 ≥ 100)), true, true, j3.2.1, j3.2.2.1, j3.2.2.2.1, j3.2.2.2.2.1, y4.1, (2, (y4.1, (List.replicate 16 0))), ())
 else
 some ((decide (y5 ≥ 100)), true, (decide (j3.2.1.2.1 > 0)), j3.2.1, j3.2.2.1, j3.2.2.2.1, j3.2.2.2.2.1, y4.1, (2, (y4.1, (List.replicate 16 0))), ()) : Option ((Bool × Bool × Bool × (List Int × Int × Int × Int × List Int × List Int × Bool × Bool × Int) × List Int × (List Int × Int × Int × Int × List Int × List Int × Bool × Bool × Int) × List Int × List Int × (Int × List Int × List Int) × Unit))).bind fun j6 =>
 bif j6.2.2.1 then
 ((bif (!j6.2.2.2.1.2.2.2.2.2.2.1) then
 some (j6.1, j6.2.1, true, j6.2.2.2.1, j6.2.2.2.2.1, j6.2.2.2.2.2.1, j6.2.2.2.2.2.2.1, j6.2.2.2.2.2.2.2.1, (1, j6.2.2.2.2.2.2.2.2.1.2), ())
 else
 bif ((j6.2.2.2.1.2.2.1.tmod 8) == 0) then
 some (j6.1, j6.2.1, true, j6.2.2.2.1, j6.2.2.2.2.1, j6.2.2.2.2.2.1, j6.2.2.2.2.2.2.1, j6.2.2.2.2.2.2.2.1, (1, j6.2.2.2.2.2.2.2.2.1.2), ())
 else
 (r8B j6.2.2.2.2.2.2.2.1 j6.2.2.2.1.2.2.2.2.2.1).bind fun y7 =>
 some (j6.1, j6.2.1, (!y7), j6.2.2.2.1, j6.2.2.2.2.1, j6.2.2.2.2.2.1, j6.2.2.2.2.2.2.1, j6.2.2.2.2.2.2.2.1, (1, j6.2.2.2.2.2.2.2.2.1.2), ()) : Option ((Bool × Bool × Bool × (List Int × Int × Int × Int × List Int × List Int × Bool × Bool × Int) × List Int × (List Int × Int × Int × Int × List Int × List Int × Bool × Bool × Int) × List Int × List Int × (Int × List Int × List Int) × Unit))).bind fun j8 =>
 bif j8.2.2.1 then
 some (j8.1, j8.2.1, j8.2.2.2.1, j8.2.2.2.2.1, j8.2.2.2.2.2.1, j8.2.2.2.2.2.2.1, j8.2.2.2.2.2.2.2.1, (0, j8.2.2.2.2.2.2.2.2.1.2), ())
 else
 some (j8.1, j8.2.1, j8.2.2.2.1, j8.2.2.2.2.1, j8.2.2.2.2.2.1, j8.2.2.2.2.2.2.1, j8.2.2.2.2.2.2.2.1, j8.2.2.2.2.2.2.2.2.1, ()) : Option ((Bool × Bool × (List Int × Int × Int × Int × List Int × List Int × Bool × Bool × Int) × List Int × (List Int × Int × Int × Int × List Int × List Int × Bool × Bool × Int) × List Int × List Int × (Int × List Int × List Int) × Unit))).bind fun j9 =>
 (a4D j9.2.2.2.2.2.1 j9.2.2.2.2.2.2.1).bind fun y10 =>
 some (j9.1, j9.2.1, (j9.2.2.1.1, (j9.2.2.1.2.1, ((IntKind.i64.wrap (j9.2.2.1.2.2.1 + 1)), (0, j9.2.2.1.2.2.2.2)))), j9.2.2.2.1, j9.2.2.2.2.1, (j9.2.2.2.2.2.2.2.1.1, (j9.2.2.2.2.2.2.2.1.2.1, y10.1)), ())
 else
 some (j6.1, ((j6.2.2.2.1.2.2.2.1.tmod 8) == 0), (j6.2.2.2.1.1, (j6.2.2.2.1.2.1, (0, ((IntKind.i64.wrap (j6.2.2.2.1.2.2.2.1 + 1)), j6.2.2.2.1.2.2.2.2)))), j6.2.2.2.2.1, j6.2.2.2.2.2.1, j6.2.2.2.2.2.2.2.2.1, ()) : Option ((Bool × Bool × (List Int × Int × Int × Int × List Int × List Int × Bool × Bool × Int) × List Int × (List Int × Int × Int × Int × List Int × List Int × Bool × Bool × Int) × (Int × List Int × List Int) × Unit))).bind fun j11 =>
 (bif j11.1 then
 some (j11.2.1, (j11.2.2.1.1, (4, j11.2.2.1.2.2)), j11.2.2.2.1, j11.2.2.2.2.1, j11.2.2.2.2.2.1, ())
 else
 some (j11.2.1, (j11.2.2.1.1, ((if (IntKind.i64.wrap (j11.2.2.1.2.1 - 1)) < 0 then 0 else (IntKind.i64.wrap (j11.2.2.1.2.1 - 1))), j11.2.2.1.2.2)), j11.2.2.2.1, j11.2.2.2.2.1, j11.2.2.2.2.2.1, ()) : Option ((Bool × (List Int × Int × Int × Int × List Int × List Int × Bool × Bool × Int) × List Int × (List Int × Int × Int × Int × List Int × List Int × Bool × Bool × Int) × (Int × List Int × List Int) × Unit))).bind fun j12 =>
 bif (!j12.1) then
 (l0C j12.2.1.2.2.2.2).bind fun y13 =>
 some ((j12.2.2.1, (j12.2.1.2.1, (j12.2.1.2.2.1, (j12.2.1.2.2.2.1, y13.1)))), ([], y13.2.2))
 else
 (l9C j12.2.2.2.2.1 j12.2.1.2.2.2.2.2.1).bind fun y14 =>
 bif (y14.2 != 0) then
 some (((List.replicate 16 0), (0, (0, (0, ((List.replicate 16 0), ((List.replicate 6 0), (false, (false, 0)))))))), ([], y14.2))
 else
 (i7B j12.2.1.2.2.2.2 y14.1).bind fun y15 =>
 some ((j12.2.2.1, (j12.2.1.2.1, (j12.2.1.2.2.1, (j12.2.1.2.2.2.1, y15.1)))), (y14.1, y15.2.2))
noncomputable def b7D (a0 : List Int) (a1 : List Int) : Option (Bool × Int) :=
 (r0B a0 a1).bind fun y1 =>
 bif (y1.2.2 == 0) then
 (i5C y1.2.1).bind fun y2 =>
 some ((decide (y2 ≥ 100)), y1.2.2)
 else
 some (false, y1.2.2)
noncomputable def b8D (a0 : List Int) (a1 : List Int) : Option (Bool × Int) :=
 (m2B a0 a1).bind fun y1 =>
 bif (y1.2 != 0) then
 some (false, y1.2)
 else
 (k4C y1.1).bind fun y2 =>
 (k5C y2.1).bind fun y3 =>
 some ((decide (y3 ≥ 100)), 0)
noncomputable def q0D : Option (List Int × List Int × Bool × Bool × Int) :=
 some ((List.replicate 16 0), ((List.replicate 6 0), (false, (false, 1))))
noncomputable def q1D (a0 : List Int × Int × Int × Int × List Int × List Int × Bool × Bool × Int) : Option (List Int × Int × Int × Int × List Int × List Int × Bool × Bool × Int) :=
 (q0D).bind fun y1 =>
 some (a0.1, (0, (0, (0, y1))))
noncomputable def q2D : Option (List Int × Int × Int × Int × List Int × List Int × Bool × Bool × Int) :=
 (q0D).bind fun y1 =>
 some ((List.replicate 16 0), (0, (0, (0, y1))))
noncomputable def b9D (a0 : List Int × Int × Int × Int × List Int × List Int × Bool × Bool × Int) (a1 : List Int) : Option (Bool) :=
 (z7C).bind fun y1 =>
 bif (!y1) then
 some false
 else
 (m0B a0 a1).bind fun y2 =>
 (z4B a0 a1).bind fun y3 =>
 (b7D a0.1 a1).bind fun y4 =>
 (b8D a0.1 a1).bind fun y5 =>
 bif y1 then
 bif ((y2.1.1 == y3.1.1) && ((y2.1.2.1 == y3.1.2.1) && ((y2.1.2.2.1 == y3.1.2.2.1) && ((y2.1.2.2.2.1 == y3.1.2.2.2.1) && (((y2.1.2.2.2.2.1 == y3.1.2.2.2.2.1) && ((y2.1.2.2.2.2.2.1 == y3.1.2.2.2.2.2.1) && ((y2.1.2.2.2.2.2.2.1 == y3.1.2.2.2.2.2.2.1) && ((y2.1.2.2.2.2.2.2.2.1 == y3.1.2.2.2.2.2.2.2.1) && ((y2.1.2.2.2.2.2.2.2.2 == y3.1.2.2.2.2.2.2.2.2) && true))))) && true))))) then
 bif (t0B (z1A y2.2.1) (z1A y3.2.1)) then
 bif (y2.2.2 == y3.2.2) then
 bif (y4.1 == y5.1) then
 bif (y4.2 == y5.2) then
 (i4C a0).bind fun y6 =>
 (k1C a0).bind fun y7 =>
 bif (y6 == y7) then
 (x2C a0).bind fun y8 =>
 (q1D a0).bind fun y9 =>
 bif ((y8.1 == y9.1) && ((y8.2.1 == y9.2.1) && ((y8.2.2.1 == y9.2.2.1) && ((y8.2.2.2.1 == y9.2.2.2.1) && (((y8.2.2.2.2.1 == y9.2.2.2.2.1) && ((y8.2.2.2.2.2.1 == y9.2.2.2.2.2.1) && ((y8.2.2.2.2.2.2.1 == y9.2.2.2.2.2.2.1) && ((y8.2.2.2.2.2.2.2.1 == y9.2.2.2.2.2.2.2.1) && ((y8.2.2.2.2.2.2.2.2 == y9.2.2.2.2.2.2.2.2) && true))))) && true))))) then
 (x3C).bind fun y10 =>
 (q2D).bind fun y11 =>
 some ((y10.1 == y11.1) && ((y10.2.1 == y11.2.1) && ((y10.2.2.1 == y11.2.2.1) && ((y10.2.2.2.1 == y11.2.2.2.1) && (((y10.2.2.2.2.1 == y11.2.2.2.2.1) && ((y10.2.2.2.2.2.1 == y11.2.2.2.2.2.1) && ((y10.2.2.2.2.2.2.1 == y11.2.2.2.2.2.2.1) && ((y10.2.2.2.2.2.2.2.1 == y11.2.2.2.2.2.2.2.1) && ((y10.2.2.2.2.2.2.2.2 == y11.2.2.2.2.2.2.2.2) && true))))) && true)))))
 else
 some false
 else
 some false
 else
 some false
 else
 some false
 else
 some false
 else
 some false
 else
 some false
 else
 some false
noncomputable def r9F (a0 : Int) (a1 : Int) : Option (Int × Int) :=
 some ((IntKind.u32.wrap (c5A .u64 (IntKind.u64.wrap ((IntKind.u64.wrap a0) * (IntKind.u64.wrap a1))) 32)), (IntKind.u32.wrap (IntKind.u64.wrap ((IntKind.u64.wrap a0) * (IntKind.u64.wrap a1)))))
end Go.Sq
