import Derived.Test.YtghhiloencpimaaGreatL3
import Derived.KernelRfl
import Derived.Test.YtghhiloencpimaaGreatL4
set_option linter.unusedSimpArgs false
set_option linter.unusedVariables false
set_option linter.unusedSectionVars false
namespace Go.Sq
open Go.Rx
def rnd (n : Nat) (v : Int) : Int := (v + 2 ^ (n - 1)) / 2 ^ n
theorem z8A (n : Nat) : (0 : Int) < 2 ^ n := Int.pow_pos (by decide)
theorem w7D {n : Nat} (h : 1 ≤ n) : (2 : Int) ^ n = 2 ^ (n - 1) * 2 := by
 obtain ⟨m, rfl⟩ : ∃ m, n = m + 1 := ⟨n - 1, by omega⟩
 rw [Nat.add_sub_cancel, Int.pow_succ]
theorem t0C {v : Int} {n : Nat} (h : n ≤ 64) : c5A .i64 v (n : Int) = v / 2 ^ n := by
 simp only [c5A, Int.toNat_natCast, show IntKind.i64.bits = 64 from rfl, Nat.min_eq_left h]
 exact Int.fdiv_eq_ediv_of_nonneg _ (Int.le_of_lt (z8A n))
theorem x7E {x : Int} (h0 : -9223372036854775808 ≤ x) (h1 : x < 9223372036854775808) : d4A .and .i64 x 1 = x % 2 := by
 show IntKind.i64.wrap (((BitVec.ofInt 64 x &&& BitVec.ofInt 64 1).toNat : Nat) : Int) = _
 have e : (BitVec.ofInt 64 x &&& BitVec.ofInt 64 1).toNat = (x % 2).toNat := by
  rw [BitVec.toNat_and]
  have : (BitVec.ofInt 64 1).toNat = 1 := by decide
  rw [this, Nat.and_one_is_mod, BitVec.toNat_ofInt]
  omega
 rw [e, a3A (by omega) (by omega)]
 omega
theorem x8E {v : Int} {n : Nat} (h : 1 ≤ n) : rnd n v = v / 2 ^ (n - 1) / 2 + v / 2 ^ (n - 1) % 2 := by
 obtain ⟨m, rfl⟩ : ∃ m, n = m + 1 := ⟨n - 1, by omega⟩
 unfold rnd
 rw [Nat.add_sub_cancel, Int.pow_succ, ← Int.ediv_ediv_of_nonneg (Int.le_of_lt (z8A m))]
 have e : (v + 2 ^ m) / 2 ^ m = v / 2 ^ m + 1 := by
  have := Int.add_mul_ediv_right v 1 (show (2 : Int) ^ m ≠ 0 from Int.ne_of_gt (z8A m))
  rwa [Int.one_mul] at this
 rw [e]
 generalize v / 2 ^ m = q
 omega
theorem f9D {v : Int} {n : Nat} (h0 : -9223372036854775808 ≤ v) (h1 : v < 9223372036854775808) : -9223372036854775808 ≤ v / 2 ^ n ∧ v / 2 ^ n < 9223372036854775808 := by
 have p := z8A n
 have p1 : (1 : Int) ≤ 2 ^ n := p
 constructor
 ·rcases Int.le_total 0 v with h | h
  ·have := Int.ediv_nonneg h (Int.le_of_lt p); omega
  ·refine Int.le_ediv_of_mul_le p ?_
   have := Int.mul_le_mul_of_nonpos_left (a := (-9223372036854775808 : Int)) (b := 2 ^ n) (c := 1) (by omega) p1
   omega
 ·rcases Int.le_total 0 v with h | h
  ·have := Int.ediv_le_self (b := 2 ^ n) (a := v) h; omega
  ·have : v / 2 ^ n ≤ 0 := by
    have := Int.ediv_le_ediv p h
    rwa [Int.zero_ediv] at this
   omega
theorem f3B {v : Int} {n : Nat} (h : 1 ≤ n) (h2 : n ≤ 62) (h0 : -9223372036854775808 ≤ v) (h1 : v < 9223372036854775808) : m4A v (n : Int) = some (rnd n v) := by
 have b := f9D (n := n - 1) h0 h1
 have e1 : (n : Int) - 1 = ((n - 1 : Nat) : Int) := by omega
 have e2 : v / 2 ^ n = v / 2 ^ (n - 1) / 2 := by
  rw [Int.ediv_ediv_of_nonneg (Int.le_of_lt (z8A _)), ← w7D h]
 have d : decide ((n : Int) > 62) = false := decide_eq_false (by omega)
 simp (disch := omega) only [m4A, dF, d, cond_false, dT, a3A, e1, t0C (show n ≤ 64 by omega), t0C (show n - 1 ≤ 64 by omega), x7E b.1 b.2, e2, x8E h]
theorem k6G {n : Nat} (h : n ≤ 61) : c9A .i64 1 (n : Int) = 2 ^ n := by
 simp only [c9A, Int.toNat_natCast, show IntKind.i64.bits = 64 from rfl, Nat.min_eq_left (show n ≤ 64 by omega), Int.one_mul]
 have : (2 : Int) ^ n ≤ 2 ^ 61 := by
  have := Nat.pow_le_pow_right (n := 2) (by omega) h
  exact (by exact_mod_cast this)
 have := z8A n
 rw [a3A (by omega) (by omega)]
theorem f4B {v : Int} {n : Nat} (h : 1 ≤ n) (h2 : n ≤ 62) (h0 : -9223372036854775808 ≤ v) (h1 : v < 9223372036854775808) : l6A v (n : Int) = some (rnd n v) := by
 have b := f9D (n := n - 1) h0 h1
 have bn := f9D (n := n) h0 h1
 have e1 : (n : Int) - 1 = ((n - 1 : Nat) : Int) := by omega
 have e2 : v / 2 ^ n = v / 2 ^ (n - 1) / 2 := by
  rw [Int.ediv_ediv_of_nonneg (Int.le_of_lt (z8A _)), ← w7D h]
 have d : decide ((n : Int) > 62) = false := decide_eq_false (by omega)
 have p := z8A (n - 1)
 have epow := w7D h
 have m1 := Int.emod_add_mul_ediv v (2 ^ n)
 have m2 := Int.emod_nonneg v (show (2 : Int) ^ n ≠ 0 from Int.ne_of_gt (z8A n))
 have m3 := Int.emod_lt_of_pos v (z8A n)
 have m4 : 2 ^ n * (v / 2 ^ n) = v / 2 ^ n * 2 ^ n := Int.mul_comm _ _
 have hshl : c9A .i64 (v / 2 ^ n) (n : Int) = v / 2 ^ n * 2 ^ n := by
  simp only [c9A, Int.toNat_natCast, show IntKind.i64.bits = 64 from rfl, Nat.min_eq_left (show n ≤ 64 by omega)]
  have : (2 : Int) ^ n ≤ 2 ^ 62 := by
   have := Nat.pow_le_pow_right (n := 2) (by omega) h2
   exact (by exact_mod_cast this)
  have hlo : -9223372036854775808 ≤ v / 2 ^ n * 2 ^ n := by
   have hq : -(2 ^ (63 - n) : Int) ≤ v / 2 ^ n := by
    refine Int.le_ediv_of_mul_le (z8A n) ?_
    have e : (2 : Int) ^ (63 - n) * 2 ^ n = 2 ^ 63 := by rw [← Int.pow_add, Nat.sub_add_cancel (by omega)]
    rw [Int.neg_mul, e]; omega
   have := Int.mul_le_mul_of_nonneg_right hq (Int.le_of_lt (z8A n))
   have e : (2 : Int) ^ (63 - n) * 2 ^ n = 2 ^ 63 := by rw [← Int.pow_add, Nat.sub_add_cancel (by omega)]
   rw [Int.neg_mul, e] at this
   omega
  exact a3A hlo (by omega)
 have ws : IntKind.u64.wrap (n : Int) = (n : Int) := b5A (by omega) (by omega)
 have ws1 : IntKind.u64.wrap ((n - 1 : Nat) : Int) = ((n - 1 : Nat) : Int) := b5A (by omega) (by omega)
 have hs1 := k6G (n := n - 1) (by omega)
 have pu : (2 : Int) ^ (n - 1) ≤ 2 ^ 61 := by
  have := Nat.pow_le_pow_right (n := 2) (by omega) (show n - 1 ≤ 61 by omega)
  exact (by exact_mod_cast this)
 have hr : rnd n v = if v - v / 2 ^ n * 2 ^ n ≥ 2 ^ (n - 1) then v / 2 ^ n + 1 else v / 2 ^ n := by
  rw [x8E h]
  have a1 := Int.emod_add_mul_ediv v (2 ^ (n - 1))
  have a2 := Int.emod_nonneg v (show (2 : Int) ^ (n - 1) ≠ 0 from Int.ne_of_gt p)
  have a3 := Int.emod_lt_of_pos v p
  rw [e2, epow] at *
  generalize v / 2 ^ (n - 1) = q at *
  have e3 : 2 ^ (n - 1) * q = 2 ^ (n - 1) * (q / 2 * 2) + 2 ^ (n - 1) * (q % 2) := by rw [← Int.mul_add]; congr 1; omega
  have e4 : q / 2 * (2 ^ (n - 1) * 2) = 2 ^ (n - 1) * (q / 2 * 2) := by rw [← Int.mul_assoc, Int.mul_comm (q / 2), Int.mul_assoc]
  rw [e4]
  rcases Int.emod_two_eq q with h5 | h5
  ·rw [h5, Int.mul_zero] at e3
   rw [if_neg (by omega)]; omega
  ·rw [h5, Int.mul_one] at e3
   rw [if_pos (by omega)]; omega
 rw [hr]
 have hbd : v / 2 ^ n < 9223372036854775807 := by rw [e2]; omega
 by_cases hc : v - v / 2 ^ n * 2 ^ n ≥ 2 ^ (n - 1)
 ·rw [if_pos hc]
  have d2 : decide (v - v / 2 ^ n * 2 ^ n ≥ 2 ^ (n - 1)) = true := decide_eq_true hc
  simp (disch := omega) only [l6A, dF, d, cond_false, ws, dT, a3A, e1, ws1, t0C (show n ≤ 64 by omega), hshl, hs1, d2, cond_true, Option.bind_some]
 ·rw [if_neg hc]
  have d2 : decide (v - v / 2 ^ n * 2 ^ n ≥ 2 ^ (n - 1)) = false := decide_eq_false hc
  simp (disch := omega) only [l6A, dF, d, cond_false, ws, dT, a3A, e1, ws1, t0C (show n ≤ 64 by omega), hshl, hs1, d2, Option.bind_some]
def v1B (v : Int) : Int := if -32768 < (if 32767 < v then 32767 else v) then (if 32767 < v then 32767 else v) else -32768
theorem w8D (v : Int) : x4C v 16 = some (v1B v) := by kernel_rfl
theorem k7G (v : Int) : a8D v 16 = some (v1B v) := by
 have a1 := j4A (f := q3D) (x := (v, -1, 15, 0, ())) (r := (v, -32768, ())) 16 (by kernel_rfl)
 have e : a8D v 16 = (a1A q3D (v, -1, 15, 0, ())).bind fun j2 => some (if (IntKind.i64.wrap ((IntKind.i64.wrap (0 - j2.2.1)) - 1)) < (if j2.1 < j2.2.1 then j2.2.1 else j2.1) then (IntKind.i64.wrap ((IntKind.i64.wrap (0 - j2.2.1)) - 1)) else (if j2.1 < j2.2.1 then j2.2.1 else j2.1)) := by kernel_rfl
 rw [e, a1]
 simp only [Option.bind_some]
 have e1 : IntKind.i64.wrap (IntKind.i64.wrap (0 - -32768) - 1) = 32767 := by decide
 rw [e1]
 unfold v1B
 congr 1
 split <;> split <;> split <;> (try split) <;> omega
theorem x9E : i0A 576460752303423488 = some 759250124 ∧ m5A 576460752303423488 = some 759250124 := by
 constructor
 ·have e : i0A 576460752303423488 = (a1A d6B (576460752303423488, 1073741824, ())).bind fun j3 => some j3.1 := by kernel_rfl
  rw [e, j4A (r := (759250124, ())) 40 (by kernel_rfl)]; rfl
 ·have e : m5A 576460752303423488 = (a1A e1B (576460752303423488, 0, 31, ())).bind fun j3 => some j3.1 := by kernel_rfl
  rw [e, j4A (r := (759250124, ())) 40 (by kernel_rfl)]; rfl
theorem y0E : i0A 984080058811416576 = some 992008094 ∧ m5A 984080058811416576 = some 992008094 := by
 constructor
 ·have e : i0A 984080058811416576 = (a1A d6B (984080058811416576, 1073741824, ())).bind fun j3 => some j3.1 := by kernel_rfl
  rw [e, j4A (r := (992008094, ())) 40 (by kernel_rfl)]; rfl
 ·have e : m5A 984080058811416576 = (a1A e1B (984080058811416576, 0, 31, ())).bind fun j3 => some j3.1 := by kernel_rfl
  rw [e, j4A (r := (992008094, ())) 40 (by kernel_rfl)]; rfl
theorem y1E : i0A 168841445795430400 = some 410903207 ∧ m5A 168841445795430400 = some 410903207 := by
 constructor
 ·have e : i0A 168841445795430400 = (a1A d6B (168841445795430400, 536870912, ())).bind fun j3 => some j3.1 := by kernel_rfl
  rw [e, j4A (r := (410903207, ())) 40 (by kernel_rfl)]; rfl
 ·have e : m5A 168841445795430400 = (a1A e1B (168841445795430400, 0, 31, ())).bind fun j3 => some j3.1 := by kernel_rfl
  rw [e, j4A (r := (410903207, ())) 40 (by kernel_rfl)]; rfl
theorem y2E : i0A 1109041042440585216 = some 1053110175 ∧ m5A 1109041042440585216 = some 1053110175 := by
 constructor
 ·have e : i0A 1109041042440585216 = (a1A d6B (1109041042440585216, 1073741824, ())).bind fun j3 => some j3.1 := by kernel_rfl
  rw [e, j4A (r := (1053110175, ())) 40 (by kernel_rfl)]; rfl
 ·have e : m5A 1109041042440585216 = (a1A e1B (1109041042440585216, 0, 31, ())).bind fun j3 => some j3.1 := by kernel_rfl
  rw [e, j4A (r := (1053110175, ())) 40 (by kernel_rfl)]; rfl
theorem y3E : i0A 43880462166261760 = some 209476638 ∧ m5A 43880462166261760 = some 209476638 := by
 constructor
 ·have e : i0A 43880462166261760 = (a1A d6B (43880462166261760, 268435456, ())).bind fun j3 => some j3.1 := by kernel_rfl
  rw [e, j4A (r := (209476638, ())) 40 (by kernel_rfl)]; rfl
 ·have e : m5A 43880462166261760 = (a1A e1B (43880462166261760, 0, 31, ())).bind fun j3 => some j3.1 := by kernel_rfl
  rw [e, j4A (r := (209476638, ())) 40 (by kernel_rfl)]; rfl
theorem y4E : i0A 1141844972392153088 = some 1068571463 ∧ m5A 1141844972392153088 = some 1068571463 := by
 constructor
 ·have e : i0A 1141844972392153088 = (a1A d6B (1141844972392153088, 1073741824, ())).bind fun j3 => some j3.1 := by kernel_rfl
  rw [e, j4A (r := (1068571463, ())) 40 (by kernel_rfl)]; rfl
 ·have e : m5A 1141844972392153088 = (a1A e1B (1141844972392153088, 0, 31, ())).bind fun j3 => some j3.1 := by kernel_rfl
  rw [e, j4A (r := (1068571463, ())) 40 (by kernel_rfl)]; rfl
theorem y5E : i0A 11076532214693888 = some 105245105 ∧ m5A 11076532214693888 = some 105245105 := by
 constructor
 ·have e : i0A 11076532214693888 = (a1A d6B (11076532214693888, 134217728, ())).bind fun j3 => some j3.1 := by kernel_rfl
  rw [e, j4A (r := (105245105, ())) 40 (by kernel_rfl)]; rfl
 ·have e : m5A 11076532214693888 = (a1A e1B (11076532214693888, 0, 31, ())).bind fun j3 => some j3.1 := by kernel_rfl
  rw [e, j4A (r := (105245105, ())) 40 (by kernel_rfl)]; rfl
theorem y6E : i0A 1150145688181407744 = some 1072448454 ∧ m5A 1150145688181407744 = some 1072448454 := by
 constructor
 ·have e : i0A 1150145688181407744 = (a1A d6B (1150145688181407744, 1073741824, ())).bind fun j3 => some j3.1 := by kernel_rfl
  rw [e, j4A (r := (1072448454, ())) 40 (by kernel_rfl)]; rfl
 ·have e : m5A 1150145688181407744 = (a1A e1B (1150145688181407744, 0, 31, ())).bind fun j3 => some j3.1 := by kernel_rfl
  rw [e, j4A (r := (1072448454, ())) 40 (by kernel_rfl)]; rfl
theorem y7E : i0A 2775816425439232 = some 52686017 ∧ m5A 2775816425439232 = some 52686017 := by
 constructor
 ·have e : i0A 2775816425439232 = (a1A d6B (2775816425439232, 67108864, ())).bind fun j3 => some j3.1 := by kernel_rfl
  rw [e, j4A (r := (52686017, ())) 40 (by kernel_rfl)]; rfl
 ·have e : m5A 2775816425439232 = (a1A e1B (2775816425439232, 0, 31, ())).bind fun j3 => some j3.1 := by kernel_rfl
  rw [e, j4A (r := (52686017, ())) 40 (by kernel_rfl)]; rfl
def d7A : List (Int × Int) := [(0, 0), (-1073741824, 0), (0, 1073741824), (759250124, 759250124), (992008094, 410903207), (1053110175, 209476638), (1068571463, 105245105), (1072448454, 52686017)]
theorem y8E : h7C = some d7A := by
 have e : h7C = (a1A y8A (3, [(0, 0), (-1073741824, 0), (0, 1073741824), (0, 0), (0, 0), (0, 0), (0, 0), (0, 0)], ())).bind fun j4 => some j4.1 := by kernel_rfl
 have r3 : y8A (3, [(0, 0), (-1073741824, 0), (0, 1073741824), (0, 0), (0, 0), (0, 0), (0, 0), (0, 0)], ()) = some (.inl (4, [(0, 0), (-1073741824, 0), (0, 1073741824), (759250124, 759250124), (0, 0), (0, 0), (0, 0), (0, 0)], ())) := by
  have e1 : y8A (3, [(0, 0), (-1073741824, 0), (0, 1073741824), (0, 0), (0, 0), (0, 0), (0, 0), (0, 0)], ()) = (i0A 576460752303423488).bind fun y2 => (i0A 576460752303423488).bind fun y3 => some (Sum.inl (4, ([(0, 0), (-1073741824, 0), (0, 1073741824), (0, 0), (0, 0), (0, 0), (0, 0), (0, 0)] : List (Int × Int)).set 3 (IntKind.i64.wrap y2, IntKind.i64.wrap y3), ())) := by kernel_rfl
  rw [e1, x9E.1]; rfl
 have r4 : y8A (4, [(0, 0), (-1073741824, 0), (0, 1073741824), (759250124, 759250124), (0, 0), (0, 0), (0, 0), (0, 0)], ()) = some (.inl (5, [(0, 0), (-1073741824, 0), (0, 1073741824), (759250124, 759250124), (992008094, 410903207), (0, 0), (0, 0), (0, 0)], ())) := by
  have e1 : y8A (4, [(0, 0), (-1073741824, 0), (0, 1073741824), (759250124, 759250124), (0, 0), (0, 0), (0, 0), (0, 0)], ()) = (i0A 984080058811416576).bind fun y2 => (i0A 168841445795430400).bind fun y3 => some (Sum.inl (5, ([(0, 0), (-1073741824, 0), (0, 1073741824), (759250124, 759250124), (0, 0), (0, 0), (0, 0), (0, 0)] : List (Int × Int)).set 4 (IntKind.i64.wrap y2, IntKind.i64.wrap y3), ())) := by kernel_rfl
  rw [e1, y0E.1, y1E.1]; rfl
 have r5 : y8A (5, [(0, 0), (-1073741824, 0), (0, 1073741824), (759250124, 759250124), (992008094, 410903207), (0, 0), (0, 0), (0, 0)], ()) = some (.inl (6, [(0, 0), (-1073741824, 0), (0, 1073741824), (759250124, 759250124), (992008094, 410903207), (1053110175, 209476638), (0, 0), (0, 0)], ())) := by
  have e1 : y8A (5, [(0, 0), (-1073741824, 0), (0, 1073741824), (759250124, 759250124), (992008094, 410903207), (0, 0), (0, 0), (0, 0)], ()) = (i0A 1109041042440585216).bind fun y2 => (i0A 43880462166261760).bind fun y3 => some (Sum.inl (6, ([(0, 0), (-1073741824, 0), (0, 1073741824), (759250124, 759250124), (992008094, 410903207), (0, 0), (0, 0), (0, 0)] : List (Int × Int)).set 5 (IntKind.i64.wrap y2, IntKind.i64.wrap y3), ())) := by kernel_rfl
  rw [e1, y2E.1, y3E.1]; rfl
 have r6 : y8A (6, [(0, 0), (-1073741824, 0), (0, 1073741824), (759250124, 759250124), (992008094, 410903207), (1053110175, 209476638), (0, 0), (0, 0)], ()) = some (.inl (7, [(0, 0), (-1073741824, 0), (0, 1073741824), (759250124, 759250124), (992008094, 410903207), (1053110175, 209476638), (1068571463, 105245105), (0, 0)], ())) := by
  have e1 : y8A (6, [(0, 0), (-1073741824, 0), (0, 1073741824), (759250124, 759250124), (992008094, 410903207), (1053110175, 209476638), (0, 0), (0, 0)], ()) = (i0A 1141844972392153088).bind fun y2 => (i0A 11076532214693888).bind fun y3 => some (Sum.inl (7, ([(0, 0), (-1073741824, 0), (0, 1073741824), (759250124, 759250124), (992008094, 410903207), (1053110175, 209476638), (0, 0), (0, 0)] : List (Int × Int)).set 6 (IntKind.i64.wrap y2, IntKind.i64.wrap y3), ())) := by kernel_rfl
  rw [e1, y4E.1, y5E.1]; rfl
 have r7 : y8A (7, [(0, 0), (-1073741824, 0), (0, 1073741824), (759250124, 759250124), (992008094, 410903207), (1053110175, 209476638), (1068571463, 105245105), (0, 0)], ()) = some (.inl (8, [(0, 0), (-1073741824, 0), (0, 1073741824), (759250124, 759250124), (992008094, 410903207), (1053110175, 209476638), (1068571463, 105245105), (1072448454, 52686017)], ())) := by
  have e1 : y8A (7, [(0, 0), (-1073741824, 0), (0, 1073741824), (759250124, 759250124), (992008094, 410903207), (1053110175, 209476638), (1068571463, 105245105), (0, 0)], ()) = (i0A 1150145688181407744).bind fun y2 => (i0A 2775816425439232).bind fun y3 => some (Sum.inl (8, ([(0, 0), (-1073741824, 0), (0, 1073741824), (759250124, 759250124), (992008094, 410903207), (1053110175, 209476638), (1068571463, 105245105), (0, 0)] : List (Int × Int)).set 7 (IntKind.i64.wrap y2, IntKind.i64.wrap y3), ())) := by kernel_rfl
  rw [e1, y6E.1, y7E.1]; rfl
 rw [e, z2A r3, z2A r4, z2A r5, z2A r6, z2A r7, w3A (r := (d7A, ())) (by kernel_rfl)]; rfl
end Go.Sq
namespace Go.Sq
open Go.Rx
abbrev Pt := Int × Int
def trn (p q : Pt) : Pt := (rnd 30 (p.1 * q.1 - p.2 * q.2), rnd 30 (p.1 * q.2 + p.2 * q.1))
def pS (m : Nat) : Nat → Pt
 | 0 => (1073741824, 0)
 | i + 1 => if (m : Int) / 2 ^ (6 - i) % 2 = 1 then trn (pS m i) (d7A.getD (i + 1) (0, 0)) else pS m i
theorem k8G : ∀ m, m < 128 → ∀ i, i < 8 → (decide (-1082130432 ≤ (pS m i).1) && decide ((pS m i).1 ≤ 1082130432) && decide (-1082130432 ≤ (pS m i).2) && decide ((pS m i).2 ≤ 1082130432)) = true := by decide +kernel
theorem k9G : ∀ i, i < 8 → (decide (-1073741824 ≤ (d7A.getD i (0, 0)).1) && decide ((d7A.getD i (0, 0)).1 ≤ 1073741824) && decide (-1073741824 ≤ (d7A.getD i (0, 0)).2) && decide ((d7A.getD i (0, 0)).2 ≤ 1073741824)) = true := by decide +kernel
theorem o9B {a b : Int} (h : -1082130432 ≤ a ∧ a ≤ 1082130432) (h' : -1073741824 ≤ b ∧ b ≤ 1073741824) : -1161928703861587968 ≤ a * b ∧ a * b ≤ 1161928703861587968 := by
 have h1 : a.natAbs ≤ 1082130432 := by omega
 have h2 : b.natAbs ≤ 1073741824 := by omega
 have h3 : (a * b).natAbs ≤ 1082130432 * 1073741824 := by rw [Int.natAbs_mul]; exact Nat.mul_le_mul h1 h2
 omega
theorem g0D {m i : Nat} (hm : m < 128) (hi : i < 8) : (-1082130432 ≤ (pS m i).1 ∧ (pS m i).1 ≤ 1082130432) ∧ (-1082130432 ≤ (pS m i).2 ∧ (pS m i).2 ≤ 1082130432) := by
 have := k8G m hm i hi
 simpa [and_assoc] using this
theorem y9E {i : Nat} (hi : i < 8) : (-1073741824 ≤ (d7A.getD i (0, 0)).1 ∧ (d7A.getD i (0, 0)).1 ≤ 1073741824) ∧ (-1073741824 ≤ (d7A.getD i (0, 0)).2 ∧ (d7A.getD i (0, 0)).2 ≤ 1073741824) := by
 have := k9G i hi
 simpa [and_assoc] using this
theorem z0E {m i : Nat} (hm : m < 128) (hi : i < 7) : h8C (pS m i) (d7A.getD (i + 1) (0, 0)) = some (trn (pS m i) (d7A.getD (i + 1) (0, 0))) := by
 obtain ⟨a1, a2⟩ := g0D hm (show i < 8 by omega)
 obtain ⟨b1, b2⟩ := y9E (show i + 1 < 8 by omega)
 generalize pS m i = p at *
 generalize d7A.getD (i + 1) (0, 0) = q at *
 have m1 := o9B a1 b1
 have m2 := o9B a2 b2
 have m3 := o9B a1 b2
 have m4 := o9B a2 b1
 have r1 := f3B (v := p.1 * q.1 - p.2 * q.2) (n := 30) (by omega) (by omega) (by omega) (by omega)
 have r2 := f3B (v := p.1 * q.2 + p.2 * q.1) (n := 30) (by omega) (by omega) (by omega) (by omega)
 have r1 : m4A (p.1 * q.1 - p.2 * q.2) 30 = _ := r1
 have r2 : m4A (p.1 * q.2 + p.2 * q.1) 30 = _ := r2
 simp (disch := omega) only [h8C, a3A, r1, r2, Option.bind_some]
 rfl
theorem w9D {m k : Nat} (hm : m < 128) (hk : k < 7) : d4A .and .i64 (c5A .i64 (m : Int) (7 - ((k : Int) + 1))) 1 = (m : Int) / 2 ^ (6 - k) % 2 := by
 have e : (7 : Int) - ((k : Int) + 1) = ((6 - k : Nat) : Int) := by omega
 have b := f9D (v := (m : Int)) (n := 6 - k) (by omega) (by omega)
 rw [e, t0C (by omega), x7E b.1 b.2]
def ptT : List Pt := a5A (fun m => pS m 7) 128
theorem z1E : (List.replicate 128 ((0, 0) : Pt)).length = 128 := List.length_replicate
theorem l0G : a1A m2C (0, List.replicate 128 (0, 0), d7A, ()) = some (ptT, ()) := by
 have inner : ∀ m : Nat, m < 128 → ∀ out, a1A z6B ((m : Int), 1, (m : Int), out, d7A, (1073741824, 0), ()) = some ((m : Int), (m : Int), out, d7A, pS m 7, ()) := fun m hm out => by
  have h := b7A (f := z6B) (fun k => ((m : Int), ((k : Int) + 1), (m : Int), out, d7A, pS m k, ())) 7 (r := ((m : Int), (m : Int), out, d7A, pS m 7, ())) (fun k hk => by
   have eb := w9D hm hk
   have ek : ((k : Int) + 1).toNat = k + 1 := by omega
   by_cases hb : (m : Int) / 2 ^ (6 - k) % 2 = 1
   ·have hp : pS m (k + 1) = trn (pS m k) (d7A.getD (k + 1) (0, 0)) := if_pos hb
    simp (disch := omega) only [z6B, dT, a3A, eb, eT, wT, ek, z0E hm hk, Option.bind_some, hp]
    rfl
   ·have hp : pS m (k + 1) = pS m k := if_neg hb
    simp (disch := omega) only [z6B, dT, a3A, eb, eF, Option.bind_some, hp]
    rfl) (by simp (disch := omega) only [z6B, dF])
  exact h
 have := b7A (f := m2C) (fun m => ((m : Int), b4A (fun m => pS m 7) m (List.replicate 128 (0, 0)), d7A, ())) 128 (r := (b4A (fun m => pS m 7) 128 (List.replicate 128 (0, 0)), ())) (fun m hm => by
  simp (disch := omega) only [m2C, dT, inner m hm, Option.bind_some, wT, Int.toNat_natCast, d2A, k3A]) (by simp (disch := omega) only [m2C, dF])
 rw [l4A z1E] at this
 exact this
theorem l1G : a1A m1C (0, List.replicate 128 (0, 0), d7A, ()) = some (ptT, ()) := by
 have inner : ∀ m : Nat, m < 128 → ∀ out, a1A z5B ((m : Int), 1, (m : Int), out, d7A, (1073741824, 0), ()) = some ((m : Int), (m : Int), out, d7A, pS m 7, ()) := fun m hm out => by
  have h := b7A (f := z5B) (fun k => ((m : Int), ((k : Int) + 1), (m : Int), out, d7A, pS m k, ())) 7 (r := ((m : Int), (m : Int), out, d7A, pS m 7, ())) (fun k hk => by
   have eb := w9D hm hk
   have ek : ((k : Int) + 1).toNat = k + 1 := by omega
   by_cases hb : (m : Int) / 2 ^ (6 - k) % 2 = 1
   ·have hp : pS m (k + 1) = trn (pS m k) (d7A.getD (k + 1) (0, 0)) := if_pos hb
    simp (disch := omega) only [z5B, dT, a3A, eb, eT, wT, ek, z0E hm hk, Option.bind_some, hp]
    rfl
   ·have hp : pS m (k + 1) = pS m k := if_neg hb
    simp (disch := omega) only [z5B, dT, a3A, eb, eF, Option.bind_some, hp]
    rfl) (by simp (disch := omega) only [z5B, dF])
  exact h
 have := b7A (f := m1C) (fun m => ((m : Int), b4A (fun m => pS m 7) m (List.replicate 128 (0, 0)), d7A, ())) 128 (r := (b4A (fun m => pS m 7) 128 (List.replicate 128 (0, 0)), ())) (fun m hm => by
  simp (disch := omega) only [m1C, dT, inner m hm, Option.bind_some, wT, Int.toNat_natCast, d2A, k3A]) (by simp (disch := omega) only [m1C, dF])
 rw [l4A z1E] at this
 exact this
theorem l2G : ∀ a : Nat, a < 128 → d4A .and .i64 (a : Int) 127 = (a : Int) := by decide +kernel
theorem l3G {m : Nat} (hm : m < 128) : x5C (m : Int) = some (pS m 7) := by
 have e := l2G m hm
 have g : ptT.getD m (0, 0) = pS m 7 := e0A _ _ _ _ hm
 simp (disch := omega) only [x5C, y8E, Option.bind_some, l1G, e, wT, Int.toNat_natCast, g]
def b4B (m : Nat) : Int := rnd 6 (pS m 7).1
def z9A (m : Nat) : Int := rnd 6 (pS m 7).2
def WF (n : Nat) : Int := z9A (2 * n + 1)
def KF (n k : Nat) : Int := b4B ((2 * n + 17) * (2 * k + 1) % 128)
theorem g1D {m : Nat} (hm : m < 128) : m4A (pS m 7).1 6 = some (b4B m) ∧ m4A (pS m 7).2 6 = some (z9A m) ∧ l6A (pS m 7).1 6 = some (b4B m) ∧ l6A (pS m 7).2 6 = some (z9A m) := by
 obtain ⟨a1, a2⟩ := g0D hm (show 7 < 8 by omega)
 exact ⟨f3B (n := 6) (by omega) (by omega) (by omega) (by omega), f3B (n := 6) (by omega) (by omega) (by omega) (by omega),
  f4B (n := 6) (by omega) (by omega) (by omega) (by omega), f4B (n := 6) (by omega) (by omega) (by omega) (by omega)⟩
theorem z2E {m : Nat} (hm : m < 128) : (-16908289 ≤ b4B m ∧ b4B m ≤ 16908289) ∧ (-16908289 ≤ z9A m ∧ z9A m ≤ 16908289) := by
 obtain ⟨a1, a2⟩ := g0D hm (show 7 < 8 by omega)
 unfold b4B z9A rnd
 simp only [Nat.reduceSub, Int.reducePow]
 omega
theorem l4G {m : Nat} (hm : m < 128) : x6C (m : Int) = some (z9A m) := by
 simp only [x6C, l3G hm, Option.bind_some, (g1D hm).2.1]
theorem l5G {n : Nat} (hn : n < 32) : x7C (n : Int) = some (WF n, 0) := by
 have d : decide ((n : Int) ≥ 32) = false := decide_eq_false (by omega)
 have e : (2 : Int) * (n : Int) + 1 = ((2 * n + 1 : Nat) : Int) := by omega
 simp (disch := omega) only [x7C, dF, d, Option.bind_some, cond_false, a3A, e, l4G (show 2 * n + 1 < 128 by omega)]
 rfl
theorem l6G {n k : Nat} (hn : n < 32) (hk : k < 16) : x8C (n : Int) (k : Int) = some (((2 * n + 17) * (2 * k + 1) : Nat) : Int) := by
 have h1 : (2 * n + 17) * (2 * k + 1) ≤ 79 * 31 := Nat.mul_le_mul (by omega) (by omega)
 have e : ((2 : Int) * (n : Int) + 16 + 1) * (2 * (k : Int) + 1) = (((2 * n + 17) * (2 * k + 1) : Nat) : Int) := by
  rw [Int.natCast_mul]; congr 1 <;> omega
 have w1 : IntKind.i64.wrap (((2 : Int) * (n : Int) + 16 + 1) * (2 * (k : Int) + 1)) = (((2 * n + 17) * (2 * k + 1) : Nat) : Int) := by rw [e, a3A (by omega) (by omega)]
 unfold x8C
 rw [a3A (n := (2 : Int) * (n : Int)) (by omega) (by omega), a3A (n := (2 : Int) * (n : Int) + 16) (by omega) (by omega), a3A (n := (2 : Int) * (n : Int) + 16 + 1) (by omega) (by omega), a3A (n := (2 : Int) * (k : Int)) (by omega) (by omega), a3A (n := (2 : Int) * (k : Int) + 1) (by omega) (by omega), w1]
theorem l7G {k : Nat} (hk : k < 16) : x9C (k : Int) = some (a5A (fun n => KF n k) 32, 0) := by
 have d : decide ((k : Int) ≥ 16) = false := decide_eq_false (by omega)
 have z32 : (List.replicate 32 (0 : Int)).length = 32 := List.length_replicate
 have loop := b7A (f := c0D) (fun n => ((k : Int), b4A (fun n => KF n k) n (List.replicate 32 0), 32, (n : Int), ptT, ())) 32 (r := (b4A (fun n => KF n k) 32 (List.replicate 32 0), ())) (fun n hn => by
  have e : ((((2 * n + 17) * (2 * k + 1) : Nat) : Int)).tmod 128 = (((2 * n + 17) * (2 * k + 1) % 128 : Nat) : Int) := rfl
  have hm : (2 * n + 17) * (2 * k + 1) % 128 < 128 := Nat.mod_lt _ (by omega)
  have g : ptT.getD ((2 * n + 17) * (2 * k + 1) % 128) (0, 0) = pS ((2 * n + 17) * (2 * k + 1) % 128) 7 := e0A _ _ _ _ hm
  simp (disch := omega) only [c0D, dT, l6G hn hk, Option.bind_some, e, wT, Int.toNat_natCast, g, (g1D hm).1, q4A, z32, d2A, k3A]
  rfl) (by simp (disch := omega) only [c0D, dF])
 rw [l4A z32] at loop
 have hroom : (decide ((0 : Int) ≤ 32) && decide ((32 : Int) ≤ 32) && f2A 8 32) = true := by decide
 simp (disch := omega) only [x9C, dF, d, Option.bind_some, cond_false, y8E, l0G]
 refine (cT hroom).trans ?_
 rw [z32]
 refine (congrArg (fun o => Option.bind o _) loop).trans ?_
 rfl
def r3A : List Int := a5A WF 32
def k5A : List (List Int) := a5A (fun k => a5A (fun n => KF n k) 32) 16
theorem z3E : h9C = some ((r3A, k5A), 0) := by
 have z32 : (List.replicate 32 (0 : Int)).length = 32 := List.length_replicate
 have z16 : (List.replicate 16 ([] : List Int)).length = 16 := List.length_replicate
 have l1 := b7A (f := m3C) (fun n => ((n : Int), (b4A WF n (List.replicate 32 0), List.replicate 16 []), ())) 32 (r := .inl ((b4A WF 32 (List.replicate 32 0), List.replicate 16 []), ())) (fun n hn => by
  simp (disch := omega) only [m3C, dT, l5G hn, Option.bind_some, wT, nF, Int.toNat_natCast, d2A, k3A]) (by simp (disch := omega) only [m3C, dF])
 rw [l4A z32] at l1
 have l2 := b7A (f := m4C) (fun k => ((k : Int), (r3A, b4A (fun k => a5A (fun n => KF n k) 32) k (List.replicate 16 [])), ())) 16 (r := .inl ((r3A, b4A (fun k => a5A (fun n => KF n k) 32) 16 (List.replicate 16 [])), ())) (fun k hk => by
  simp (disch := omega) only [m4C, dT, l7G hk, Option.bind_some, wT, nF, Int.toNat_natCast, d2A, k3A]) (by simp (disch := omega) only [m4C, dF])
 rw [l4A z16] at l2
 unfold h9C
 rw [show a1A m3C (0, (List.replicate 32 0, List.replicate 16 []), ()) = _ from l1]
 simp only [Option.bind_some]
 rw [show a1A m4C (0, (a5A WF 32, List.replicate 16 []), ()) = _ from l2]
 rfl
theorem l8G {α β : Type} {F : (α → Option β) → α → Option β} {x : α} {v : β} (h : ∀ n, w7A F n x = none ∨ w7A F n x = some v) (n : Nat) (hn : w7A F n x = some v) : r6B F x = some v := by
 unfold r6B
 have he : ∃ n y, w7A F n x = some y := ⟨n, v, hn⟩
 rw [dif_pos he]
 have hs := Classical.choose_spec (Classical.choose_spec he)
 rcases h (Classical.choose he) with h1 | h1
 ·exact absurd (h1.symm.trans hs) (by simp)
 ·exact (h1.symm.trans hs).symm
theorem z4E {rec : Int → Option (Int × Int)} {i : Nat} (h1 : 3 ≤ i) (h7 : i ≤ 7) (hr : rec ((i : Int) - 1) = some (d7A.getD (i - 1) (0, 0))) : r7A rec (i : Int) = some (d7A.getD i (0, 0)) := by
 have e : r7A rec (i : Int) = (rec ((i : Int) - 1)).bind fun y1 =>
   (m5A (c9A .u64 (IntKind.u64.wrap (IntKind.i64.wrap (1073741824 + y1.1))) 29)).bind fun y2 =>
   (m5A (c9A .u64 (IntKind.u64.wrap (IntKind.i64.wrap (1073741824 - y1.1))) 29)).bind fun y3 => some ((IntKind.i64.wrap y2), (IntKind.i64.wrap y3)) := by
  simp (disch := omega) only [r7A, eF, a3A]
 rw [e, hr]
 have hi : i = 3 ∨ i = 4 ∨ i = 5 ∨ i = 6 ∨ i = 7 := by omega
 simp only [Option.bind_some]
 rcases hi with rfl | rfl | rfl | rfl | rfl
 ·have a : c9A .u64 (IntKind.u64.wrap (IntKind.i64.wrap (1073741824 + (d7A.getD (3 - 1) (0, 0)).1))) 29 = 576460752303423488 := by decide
  have b : c9A .u64 (IntKind.u64.wrap (IntKind.i64.wrap (1073741824 - (d7A.getD (3 - 1) (0, 0)).1))) 29 = 576460752303423488 := by decide
  rw [a, b, x9E.2]; rfl
 ·have a : c9A .u64 (IntKind.u64.wrap (IntKind.i64.wrap (1073741824 + (d7A.getD (4 - 1) (0, 0)).1))) 29 = 984080058811416576 := by decide
  have b : c9A .u64 (IntKind.u64.wrap (IntKind.i64.wrap (1073741824 - (d7A.getD (4 - 1) (0, 0)).1))) 29 = 168841445795430400 := by decide
  rw [a, b, y0E.2, y1E.2]; rfl
 ·have a : c9A .u64 (IntKind.u64.wrap (IntKind.i64.wrap (1073741824 + (d7A.getD (5 - 1) (0, 0)).1))) 29 = 1109041042440585216 := by decide
  have b : c9A .u64 (IntKind.u64.wrap (IntKind.i64.wrap (1073741824 - (d7A.getD (5 - 1) (0, 0)).1))) 29 = 43880462166261760 := by decide
  rw [a, b, y2E.2, y3E.2]; rfl
 ·have a : c9A .u64 (IntKind.u64.wrap (IntKind.i64.wrap (1073741824 + (d7A.getD (6 - 1) (0, 0)).1))) 29 = 1141844972392153088 := by decide
  have b : c9A .u64 (IntKind.u64.wrap (IntKind.i64.wrap (1073741824 - (d7A.getD (6 - 1) (0, 0)).1))) 29 = 11076532214693888 := by decide
  rw [a, b, y4E.2, y5E.2]; rfl
 ·have a : c9A .u64 (IntKind.u64.wrap (IntKind.i64.wrap (1073741824 + (d7A.getD (7 - 1) (0, 0)).1))) 29 = 1150145688181407744 := by decide
  have b : c9A .u64 (IntKind.u64.wrap (IntKind.i64.wrap (1073741824 - (d7A.getD (7 - 1) (0, 0)).1))) 29 = 2775816425439232 := by decide
  rw [a, b, y6E.2, y7E.2]; rfl
theorem g2D {rec : Int → Option (Int × Int)} : r7A rec 1 = some (d7A.getD 1 (0, 0)) ∧ r7A rec 2 = some (d7A.getD 2 (0, 0)) := ⟨by kernel_rfl, by kernel_rfl⟩
theorem z5E : ∀ n i, 1 ≤ i → i ≤ 7 → w7A (fun rec x => r7A rec x) n ((i : Nat) : Int) = none ∨ w7A (fun rec x => r7A rec x) n ((i : Nat) : Int) = some (d7A.getD i (0, 0))
 | 0, i, _, _ => .inl rfl
 | n + 1, i, h1, h7 => by
  show r7A (w7A (fun rec x => r7A rec x) n) (i : Int) = none ∨ r7A (w7A (fun rec x => r7A rec x) n) (i : Int) = _
  by_cases i1 : i = 1
  ·subst i1; exact .inr g2D.1
  ·by_cases i2 : i = 2
   ·subst i2; exact .inr g2D.2
   ·have e : ((i - 1 : Nat) : Int) = (i : Int) - 1 := by omega
    have ih := z5E n (i - 1) (by omega) (by omega)
    rw [e] at ih
    generalize w7A (fun rec x => r7A rec x) n = r at ih ⊢
    rcases ih with ih | ih
    ·left
     simp (disch := omega) only [r7A, eF, a3A, ih, Option.bind_none]
    ·exact .inr (z4E (by omega) h7 ih)
theorem z6E : ∀ i, 1 ≤ i → i ≤ 7 → w7A (fun rec x => r7A rec x) i ((i : Nat) : Int) = some (d7A.getD i (0, 0))
 | 0, h, _ => by omega
 | 1, _, _ => g2D.1
 | 2, _, _ => g2D.2
 | i + 3, h1, h7 => by
  have ih := z6E (i + 2) (by omega) (by omega)
  exact z4E (i := i + 3) (by omega) h7 (by rw [show (((i + 3 : Nat) : Int)) - 1 = ((i + 2 : Nat) : Int) by omega]; exact ih)
theorem l9G {i : Nat} (h1 : 1 ≤ i) (h7 : i ≤ 7) : z8C (i : Int) = some (d7A.getD i (0, 0)) :=
 l8G (fun n => z5E n i h1 h7) i (z6E i h1 h7)
theorem z7E {m : Nat} (hm : m < 128) : j6C (m : Int) = some (pS m 7) := by
 have em : (((m : Int)).tmod 128 + 128).tmod 128 = (m : Int) := by
  have : ((m : Int)).tmod 128 = ((m % 128 : Nat) : Int) := rfl
  rw [this, Nat.mod_eq_of_lt hm]
  have : ((m : Int) + 128).tmod 128 = (((m + 128) % 128 : Nat) : Int) := rfl
  rw [this]; omega
 have em2 : ((m : Int)).tmod 128 = (m : Int) := by
  have : ((m : Int)).tmod 128 = ((m % 128 : Nat) : Int) := rfl
  rw [this, Nat.mod_eq_of_lt hm]
 rw [em2] at em
 have loop := b7A (f := a4C) (fun k => ((m : Int), (pS m k).1, (pS m k).2, ((k : Int) + 1), ())) 7 (r := ((pS m 7).1, (pS m 7).2, ())) (fun k hk => by
  have eb : d4A .and .i64 (c5A .i64 (m : Int) (7 - ((k : Int) + 1))) 1 = (m : Int) / 2 ^ (6 - k) % 2 := w9D hm hk
  have ws : IntKind.u64.wrap (7 - ((k : Int) + 1)) = 7 - ((k : Int) + 1) := b5A (by omega) (by omega)
  have hh := l9G (i := k + 1) (by omega) (by omega)
  have hh : z8C ((k : Int) + 1) = some (d7A.getD (k + 1) (0, 0)) := hh
  by_cases hb : (m : Int) / 2 ^ (6 - k) % 2 = 1
  ·have hp : pS m (k + 1) = trn (pS m k) (d7A.getD (k + 1) (0, 0)) := if_pos hb
   obtain ⟨a1, a2⟩ := g0D hm (show k < 8 by omega)
   obtain ⟨b1, b2⟩ := y9E (show k + 1 < 8 by omega)
   have m1 := o9B a1 b1
   have m2 := o9B a2 b2
   have m3 := o9B a1 b2
   have m4 := o9B a2 b1
   have r1 : l6A ((pS m k).1 * (d7A.getD (k + 1) (0, 0)).1 - (pS m k).2 * (d7A.getD (k + 1) (0, 0)).2) 30 = some (trn (pS m k) (d7A.getD (k + 1) (0, 0))).1 := f4B (n := 30) (by omega) (by omega) (by omega) (by omega)
   have r2 : l6A ((pS m k).1 * (d7A.getD (k + 1) (0, 0)).2 + (pS m k).2 * (d7A.getD (k + 1) (0, 0)).1) 30 = some (trn (pS m k) (d7A.getD (k + 1) (0, 0))).2 := f4B (n := 30) (by omega) (by omega) (by omega) (by omega)
   have hb0 : ((m : Int) / 2 ^ (6 - k) % 2 == 0) = false := by rw [hb]; rfl
   simp (disch := omega) only [a4C, dT, a3A, ws, eb, hb0, cond_false, hh, Option.bind_some, r1, r2, hp]
   rfl
  ·have hp : pS m (k + 1) = pS m k := if_neg hb
   have hb0 : ((m : Int) / 2 ^ (6 - k) % 2 == 0) = true := beq_iff_eq.2 (by omega)
   simp (disch := omega) only [a4C, dT, a3A, ws, eb, hb0, cond_true, Option.bind_some, hp]
   rfl) (by simp (disch := omega) only [a4C, dF])
 unfold j6C
 rw [em2, a3A (by omega) (by omega), em, show a1A a4C ((m : Int), 1073741824, 0, 1, ()) = _ from loop]
 rfl
def s0A : List Int := a5A b4B 128
def s1A : List Int := a5A z9A 128
theorem z8E : j7C = some (s0A, s1A) := by
 have z : (List.replicate 128 (0 : Int)).length = 128 := List.length_replicate
 have loop := b7A (f := c3D) (fun m => ((m : Int), (List.replicate 128 0, List.replicate 128 0), (b4A b4B m (List.replicate 128 0), b4A z9A m (List.replicate 128 0)), ())) 128
  (r := ((List.replicate 128 0, List.replicate 128 0), (b4A b4B 128 (List.replicate 128 0), b4A z9A 128 (List.replicate 128 0)), ())) (fun m hm => by
  have c : z9C (m : Int) = some (b4B m) := by simp only [z9C, z7E hm, Option.bind_some, (g1D hm).2.2.1]
  have s : a0D (m : Int) = some (z9A m) := by simp only [a0D, z7E hm, Option.bind_some, (g1D hm).2.2.2]
  simp (disch := omega) only [c3D, dT, c, s, Option.bind_some, wT, Int.toNat_natCast, d2A, k3A]) (by simp (disch := omega) only [c3D, dF])
 rw [l4A z, l4A z] at loop
 unfold j7C
 refine (congrArg (fun o => Option.bind o _) loop).trans ?_
 rfl
theorem x0D {n : Nat} (hn : n < 32) : j8C (s0A, s1A) (n : Int) = some (WF n) := by
 have e : (2 : Int) * (n : Int) + 1 = ((2 * n + 1 : Nat) : Int) := by omega
 have g : s1A.getD (2 * n + 1) 0 = z9A (2 * n + 1) := e0A _ _ _ _ (by omega)
 simp (disch := omega) only [j8C, a3A, e, wT, Int.toNat_natCast, g]
 rfl
theorem x1D {n k : Nat} (hn : n < 32) (hk : k < 16) : j9C (s0A, s1A) (n : Int) (k : Int) = some (KF n k) := by
 have h1 : (2 * n + 17) * (2 * k + 1) ≤ 79 * 31 := Nat.mul_le_mul (by omega) (by omega)
 have e : ((2 : Int) * (n : Int) + 17) * (2 * (k : Int) + 1) = (((2 * n + 17) * (2 * k + 1) : Nat) : Int) := by
  rw [Int.natCast_mul]; congr 1 <;> omega
 have et : ((((2 * n + 17) * (2 * k + 1) : Nat) : Int)).tmod 128 = (((2 * n + 17) * (2 * k + 1) % 128 : Nat) : Int) := rfl
 have hm : (2 * n + 17) * (2 * k + 1) % 128 < 128 := Nat.mod_lt _ (by omega)
 have g : s0A.getD ((2 * n + 17) * (2 * k + 1) % 128) 0 = b4B ((2 * n + 17) * (2 * k + 1) % 128) := e0A _ _ _ _ hm
 have w1 : IntKind.i64.wrap (((2 : Int) * (n : Int) + 17) * (2 * (k : Int) + 1)) = (((2 * n + 17) * (2 * k + 1) : Nat) : Int) := by rw [e, a3A (by omega) (by omega)]
 unfold j9C
 rw [a3A (n := (2 : Int) * (n : Int)) (by omega) (by omega), a3A (n := (2 : Int) * (n : Int) + 17) (by omega) (by omega), a3A (n := (2 : Int) * (k : Int)) (by omega) (by omega), a3A (n := (2 : Int) * (k : Int) + 1) (by omega) (by omega), w1]
 simp (disch := omega) only [et, wT, Int.toNat_natCast, g]
 rfl
end Go.Sq
namespace Go.Sq
open Go.Rx
section
variable {α : Type}
def mix (g h : Nat → α) (i : Nat) : Nat → α := fun j => if j < i then g j else h j
theorem k5B {g h : Nat → α} {n i : Nat} (d : α) (hi : i < n) : (a5A (mix g h i) n).set i (g i) = a5A (mix g h (i + 1)) n := by
 refine p3A d (by rw [List.length_set, g6A, g6A]) fun j hj => ?_
 rw [List.length_set, g6A] at hj
 rw [p2A _ _ _ _ _ (by rw [g6A]; exact hi), e0A _ _ _ _ hj, e0A _ _ _ _ hj]
 unfold mix
 by_cases h1 : j = i
 ·subst h1; rw [if_pos rfl, if_pos (by omega)]
 ·rw [if_neg h1]
  by_cases h2 : j < i
  ·rw [if_pos h2, if_pos (by omega)]
  ·rw [if_neg h2, if_neg (by omega)]
theorem x2D {g h : Nat → α} {n i : Nat} (d : α) (hi : i < n) : (a5A (mix g h i) n).getD i d = h i := by
 rw [e0A _ _ _ _ hi]; exact if_neg (by omega)
theorem v2B {g h : Nat → α} {n : Nat} (e : ∀ i, i < n → g i = h i) : a5A g n = a5A h n :=
 List.map_congr_left fun i hi => e i (List.mem_range.1 hi)
theorem k6B (g h : Nat → α) (n : Nat) : a5A (mix g h n) n = a5A g n := v2B fun _ hi => if_pos hi
end
def d0A (B : Int) (n : Nat) (l : List Int) : Prop := ∀ i, i < n → -B ≤ l.getD i 0 ∧ l.getD i 0 ≤ B
instance (B : Int) (n : Nat) (l : List Int) : Decidable (d0A B n l) := by unfold d0A; infer_instance
theorem g3D {X : Type} {f : X → Option (X ⊕ (Unit ⊕ (Bool × Unit)))} (st : Nat → X) (l : List Int) (B : Int) (n : Nat)
  (ok : ∀ i, i < n → -B ≤ l.getD i 0 ∧ l.getD i 0 ≤ B → f (st i) = some (.inl (st (i + 1))))
  (bad : ∀ i, i < n → ¬ (-B ≤ l.getD i 0 ∧ l.getD i 0 ≤ B) → f (st i) = some (.inr (.inr (false, ()))))
  (fin : f (st n) = some (.inr (.inl ()))) :
  a1A f (st 0) = some (if d0A B n l then .inl () else .inr (false, ())) := by
 rcases k0B (fun i => -B ≤ l.getD i 0 ∧ l.getD i 0 ≤ B) n with h | ⟨k, hk, h, h'⟩
 ·rw [if_pos (show d0A B n l from h)]
  exact b7A st n (fun i hi => ok i hi (h i hi)) fin
 ·rw [if_neg fun hb : d0A B n l => h' (hb k hk)]
  exact b7A st k (fun i hi => ok i (by omega) (h i hi)) (bad k hk h')
theorem v3B {l : List Int} {n : Nat} (hl : l.length = n) (hn : n < 1000) {B : Int} (h0 : 0 ≤ B) (h1 : B < 9000000000000000000) : q9B ((l.drop 0).take n) B = some (decide (d0A B n l)) := by
 have e : (l.drop 0).take n = l := by rw [List.drop_zero, ← hl, List.take_length]
 rw [e]
 have h := g3D (f := s6B) (fun i => (B, l, (n : Int), (i : Int), ())) l B n (fun i hi hb => by
   have d2 : decide (l.getD i 0 > B) = false := decide_eq_false (by omega)
   simp (disch := omega) only [s6B, dT, wT, Int.toNat_natCast, a3A, dF, d2, Option.bind_some, cond_false]; rfl)
  (fun i hi hb => by
   by_cases h2 : l.getD i 0 < 0 - B
   ·simp (disch := omega) only [s6B, dT, wT, Int.toNat_natCast, a3A, Option.bind_some, cond_true]
   ·have d2 : decide (l.getD i 0 > B) = true := decide_eq_true (by omega)
    simp (disch := omega) only [s6B, dT, wT, Int.toNat_natCast, a3A, dF, d2, Option.bind_some, cond_true])
  (by simp (disch := omega) only [s6B, dF])
 unfold q9B
 rw [hl, show a1A s6B (B, l, (n : Int), 0, ()) = _ from h]
 by_cases hb : d0A B n l
 ·rw [if_pos hb, decide_eq_true hb]; rfl
 ·rw [if_neg hb, decide_eq_false hb]; rfl
theorem d3C {v B : Int} (h0 : 0 ≤ B) (h1 : B < 9000000000000000000) : r7B v B = some (decide (-B ≤ v ∧ v ≤ B)) := by
 have e : (0 : Int) - B = -B := by omega
 by_cases h : v ≥ -B
 ·have : decide (-B ≤ v ∧ v ≤ B) = decide (v ≤ B) := by rw [decide_eq_decide]; omega
  simp (disch := omega) only [r7B, a3A, e, dT, this]
 ·have : decide (-B ≤ v ∧ v ≤ B) = false := decide_eq_false (by omega)
  simp (disch := omega) only [r7B, a3A, e, dF, this]
theorem x3D (l : List Int) : z0B l = some (decide (d0A 67108864 16 l)) := by
 have h := g3D (f := a7C) (fun i => (l, (i : Int), ())) l 67108864 16 (fun i hi hb => by
   simp (disch := omega) only [a7C, dT, wT, Int.toNat_natCast, d3C, Option.bind_some, decide_eq_true hb, Bool.not_true, cond_false, d2A])
  (fun i hi hb => by
   simp (disch := omega) only [a7C, dT, wT, Int.toNat_natCast, d3C, Option.bind_some, decide_eq_false hb, Bool.not_false, cond_true])
  (by simp (disch := omega) only [a7C, dF])
 unfold z0B
 rw [show a1A a7C (l, 0, ()) = _ from h]
 by_cases hb : d0A 67108864 16 l
 ·rw [if_pos hb, decide_eq_true hb]; rfl
 ·rw [if_neg hb, decide_eq_false hb]; rfl
theorem g4D (l : List Int) : k0C l = some (decide (d0A 1099511627776 16 l)) := by
 have h := g3D (f := a6C) (fun i => (l, (i : Int), ())) l 1099511627776 16 (fun i hi hb => by
   simp (disch := omega) only [a6C, dT, wT, Int.toNat_natCast, d3C, Option.bind_some, decide_eq_true hb, Bool.not_true, cond_false, d2A])
  (fun i hi hb => by
   simp (disch := omega) only [a6C, dT, wT, Int.toNat_natCast, d3C, Option.bind_some, decide_eq_false hb, Bool.not_false, cond_true])
  (by simp (disch := omega) only [a6C, dF])
 unfold k0C
 rw [show a1A a6C (l, 0, ()) = _ from h]
 by_cases hb : d0A 1099511627776 16 l
 ·rw [if_pos hb, decide_eq_true hb]; rfl
 ·rw [if_neg hb, decide_eq_false hb]; rfl
theorem m0G (l : List Int) : a7D l = some (decide (d0A 1099511627776 32 l)) := by
 have h := g3D (f := b5C) (fun i => (l, (i : Int), ())) l 1099511627776 32 (fun i hi hb => by
   simp (disch := omega) only [b5C, dT, wT, Int.toNat_natCast, d3C, Option.bind_some, decide_eq_true hb, Bool.not_true, cond_false, d2A])
  (fun i hi hb => by
   simp (disch := omega) only [b5C, dT, wT, Int.toNat_natCast, d3C, Option.bind_some, decide_eq_false hb, Bool.not_false, cond_true])
  (by simp (disch := omega) only [b5C, dF])
 unfold a7D
 rw [show a1A b5C (l, 0, ()) = _ from h]
 by_cases hb : d0A 1099511627776 32 l
 ·rw [if_pos hb, decide_eq_true hb]; rfl
 ·rw [if_neg hb, decide_eq_false hb]; rfl
def h8A (x : List Int) (n : Nat) : Nat → Int
 | 0 => 0
 | k + 1 => h8A x n k + x.getD k 0 * KF n k
theorem v4B {a b A B : Int} (h : -A ≤ a ∧ a ≤ A) (h' : -B ≤ b ∧ b ≤ B) : -(A * B) ≤ a * b ∧ a * b ≤ A * B := by
 have h1 : a.natAbs ≤ A.toNat := by omega
 have h2 : b.natAbs ≤ B.toNat := by omega
 have h3 : (a * b).natAbs ≤ A.toNat * B.toNat := by rw [Int.natAbs_mul]; exact Nat.mul_le_mul h1 h2
 have e : ((A.toNat * B.toNat : Nat) : Int) = A * B := by rw [Int.natCast_mul, Int.toNat_of_nonneg (by omega), Int.toNat_of_nonneg (by omega)]
 omega
theorem z9E {n k : Nat} : -16908289 ≤ KF n k ∧ KF n k ≤ 16908289 := (z2E (Nat.mod_lt _ (by omega))).1
theorem a0F {n : Nat} (hn : n < 32) : -16908289 ≤ WF n ∧ WF n ≤ 16908289 := (z2E (by omega)).2
theorem x4D {x : List Int} (hx : d0A 67108864 16 x) {n k : Nat} (hk : k < 16) : -1134696066973696 ≤ x.getD k 0 * KF n k ∧ x.getD k 0 * KF n k ≤ 1134696066973696 := by
 have := v4B (hx k hk) (z9E (n := n) (k := k))
 omega
theorem d4C {x : List Int} (hx : d0A 67108864 16 x) {n : Nat} : ∀ k : Nat, k ≤ 16 → -(1134696066973696 * (k : Int)) ≤ h8A x n k ∧ h8A x n k ≤ 1134696066973696 * (k : Int)
 | 0, _ => by show _ ≤ (0 : Int) ∧ (0 : Int) ≤ _; omega
 | k + 1, hk => by
  have ih := d4C hx (n := n) k (by omega)
  have h := x4D hx (n := n) (show k < 16 by omega)
  simp only [h8A]
  omega
def r20 (x : List Int) (n : Nat) : Int := rnd 20 (h8A x n 16)
def t7A (x : List Int) (n : Nat) : Int := rnd 27 (r20 x n * WF n)
def f5B (x : List Int) : List Int := a5A (t7A x) 32
theorem m1G {x : List Int} (hx : d0A 67108864 16 x) {n : Nat} : -17314087937 ≤ r20 x n ∧ r20 x n ≤ 17314087937 := by
 have := d4C hx (n := n) 16 (by omega)
 unfold r20 rnd
 simp only [Nat.reduceSub, Int.reducePow]
 omega
theorem x5D {x : List Int} (hx : d0A 67108864 16 x) {n : Nat} (hn : n < 32) : -292751602610209793 ≤ r20 x n * WF n ∧ r20 x n * WF n ≤ 292751602610209793 := by
 have := v4B (m1G hx (n := n)) (a0F hn)
 omega
theorem m2G {x : List Int} (hx : d0A 67108864 16 x) {n : Nat} (hn : n < 32) : -2200000000 ≤ t7A x n ∧ t7A x n ≤ 2200000000 := by
 have := x5D hx hn
 unfold t7A rnd
 simp only [Nat.reduceSub, Int.reducePow]
 omega
theorem p0B {x : List Int} (hx : d0A 67108864 16 x) : d0A 1099511627776 32 (f5B x) := fun i hi => by
 have := m2G hx hi
 rw [show (f5B x).getD i 0 = t7A x i from e0A _ _ _ _ hi]
 omega
theorem a1F {k : Nat} (hk : k < 16) : k5A.getD k [] = a5A (fun n => KF n k) 32 := e0A _ _ _ _ hk
theorem m3G {x : List Int} (hx : d0A 67108864 16 x) {k : Nat} (hk : k < 16) :
  a1A o6C ((k : Int), k5A, (k : Int), a5A (fun n => KF n k) 32, 32, 0, x, a5A (fun n => h8A x n k) 32, (r3A, k5A), ())
   = some (k5A, (k : Int), x, a5A (fun n => h8A x n (k + 1)) 32, (r3A, k5A), ()) := by
 have h := b7A (f := o6C) (fun n : Nat => ((k : Int), k5A, (k : Int), a5A (fun n => KF n k) 32, 32, (n : Int), x, a5A (mix (fun n => h8A x n (k + 1)) (fun n => h8A x n k) n) 32, (r3A, k5A), ())) 32
  (r := (k5A, (k : Int), x, a5A (mix (fun n => h8A x n (k + 1)) (fun n => h8A x n k) 32) 32, (r3A, k5A), ())) (fun n hn => by
   have g1 : (a5A (fun n => KF n k) 32).getD n 0 = KF n k := e0A _ _ _ _ hn
   have g2 : (a5A (mix (fun n => h8A x n (k + 1)) (fun n => h8A x n k) n) 32).getD n 0 = h8A x n k := x2D _ hn
   have a := x4D hx (n := n) hk
   have b := d4C hx (n := n) k (by omega)
   have s : (a5A (mix (fun n => h8A x n (k + 1)) (fun n => h8A x n k) n) 32).set n (h8A x n k + x.getD k 0 * KF n k) = _ := k5B 0 hn
   simp (disch := omega) only [o6C, dT, wT, g6A, Int.toNat_natCast, g1, g2, a3A, s]
   rfl) (by simp (disch := omega) only [o6C, dF])
 rw [k6B] at h
 exact h
theorem d5C {x : List Int} (hl : x.length = 16) (hx : d0A 67108864 16 x) : i0B x = some (f5B x, 0) := by
 have l2 := b7A (f := o7C) (fun k : Nat => (k5A, (k : Int), x, a5A (fun n => h8A x n k) 32, (r3A, k5A), ())) 16 (r := (a5A (fun n => h8A x n 16) 32, (r3A, k5A), ())) (fun k hk => by
  have e : ((a5A (fun n => KF n k) 32).length : Int) = 32 := by rw [g6A]; rfl
  simp (disch := omega) only [o7C, dT, wT, Int.toNat_natCast, a1F hk, e, m3G hx hk, Option.bind_some, d2A]) (by simp (disch := omega) only [o7C, dF])
 have l3 := b7A (f := o8C) (fun n : Nat => ((n : Int), a5A (mix (t7A x) (fun n : Nat => h8A x n 16) n) 32, (r3A, k5A), ())) 32 (r := (a5A (mix (t7A x) (fun n => h8A x n 16) 32) 32, ())) (fun n hn => by
  have g2 : (a5A (mix (t7A x) (fun n => h8A x n 16) n) 32).getD n 0 = h8A x n 16 := x2D _ hn
  have g1 : r3A.getD n 0 = WF n := e0A _ _ _ _ hn
  have b := d4C hx (n := n) 16 (by omega)
  have a1 : m4A (h8A x n 16) 20 = some (r20 x n) := f3B (n := 20) (by omega) (by omega) (by omega) (by omega)
  have b2 := x5D hx hn
  have a2 : m4A (r20 x n * WF n) 27 = some (t7A x n) := f3B (n := 27) (by omega) (by omega) (by omega) (by omega)
  have s : (a5A (mix (t7A x) (fun n => h8A x n 16) n) 32).set n (t7A x n) = _ := k5B 0 hn
  simp (disch := omega) only [o8C, dT, wT, Int.toNat_natCast, g1, g2, a1, Option.bind_some, a3A, a2, s]
  rfl) (by simp (disch := omega) only [o8C, dF])
 rw [k6B] at l3
 unfold i0B
 simp only [v3B hl (by omega) (show (0 : Int) ≤ 67108864 by omega) (by omega), decide_eq_true hx, Option.bind_some, Bool.not_true, cond_false, z3E, bne_self_eq_false]
 rw [show a1A o7C (k5A, 0, x, List.replicate 32 0, (r3A, k5A), ()) = _ from l2]
 simp only [Option.bind_some]
 rw [show a1A o8C (0, a5A (fun n => h8A x n 16) 32, (r3A, k5A), ()) = _ from l3]
 rfl
theorem m4G {x : List Int} (hx : d0A 67108864 16 x) : a6D x = some (f5B x, 0) := by
 have inner : ∀ n : Nat, n < 32 → ∀ z o, a1A q1C ((n : Int), 0, (n : Int), 0, x, z, o, (s0A, s1A), ()) = some ((n : Int), h8A x n 16, (n : Int), x, z, o, (s0A, s1A), ()) := fun n hn z o => by
  have h := b7A (f := q1C) (fun k : Nat => ((n : Int), h8A x n k, (n : Int), (k : Int), x, z, o, (s0A, s1A), ())) 16 (r := ((n : Int), h8A x n 16, (n : Int), x, z, o, (s0A, s1A), ())) (fun k hk => by
   have a := x4D hx (n := n) hk
   have b := d4C hx (n := n) k (by omega)
   simp (disch := omega) only [q1C, dT, wT, Int.toNat_natCast, x1D hn hk, Option.bind_some, a3A]
   rfl) (by simp (disch := omega) only [q1C, dF])
  exact h
 have z32 : (List.replicate 32 (0 : Int)).length = 32 := List.length_replicate
 have l3 := b7A (f := q2C) (fun n : Nat => ((n : Int), x, List.replicate 32 0, b4A (t7A x) n (List.replicate 32 0), (s0A, s1A), ())) 32 (r := (List.replicate 32 0, b4A (t7A x) 32 (List.replicate 32 0), ())) (fun n hn => by
  have b := d4C hx (n := n) 16 (by omega)
  have a1 : l6A (h8A x n 16) 20 = some (r20 x n) := f4B (n := 20) (by omega) (by omega) (by omega) (by omega)
  have b2 := x5D hx hn
  have a2 : l6A (r20 x n * WF n) 27 = some (t7A x n) := f4B (n := 27) (by omega) (by omega) (by omega) (by omega)
  simp (disch := omega) only [q2C, dT, inner n hn, a1, x0D hn, Option.bind_some, a3A, a2, wT, Int.toNat_natCast, k3A]
  rfl) (by simp (disch := omega) only [q2C, dF])
 rw [l4A z32] at l3
 unfold a6D
 simp only [x3D, decide_eq_true hx, Option.bind_some, Bool.not_true, cond_false, z8E]
 rw [show a1A q2C (0, x, List.replicate 32 0, List.replicate 32 0, (s0A, s1A), ()) = _ from l3]
 rfl
def d6C (t w : List Int) (i : Nat) : Int := v1B (rnd 8 (t.getD i 0 + w.getD i 0))
def d7C (t w : List Int) : List Int := a5A (d6C t w) 16
def f6B (w : List Int) : List Int := a5A (fun i => w.getD (16 + i) 0) 16
theorem v5B {t w : List Int} (ht : t.length = 16) (hw : w.length = 32) (bt : d0A 1099511627776 16 t) (bw : d0A 1099511627776 32 w) : y0A t w = some (d7C t w, (f6B w, 0)) := by
 have z16 : (List.replicate 16 (0 : Int)).length = 16 := List.length_replicate
 have l1 := b7A (f := n2C) (fun i : Nat => ((i : Int), t, w, b4A (d6C t w) i (List.replicate 16 0), List.replicate 16 0, ())) 16 (r := (w, b4A (d6C t w) 16 (List.replicate 16 0), List.replicate 16 0, ())) (fun i hi => by
  have b1 := bt i hi
  have b2 := bw i (by omega)
  have a1 : m4A (t.getD i 0 + w.getD i 0) 8 = some (rnd 8 (t.getD i 0 + w.getD i 0)) := f3B (n := 8) (by omega) (by omega) (by omega) (by omega)
  simp (disch := omega) only [n2C, dT, wT, Int.toNat_natCast, a3A, a1, w8D, Option.bind_some, k3A]
  rfl) (by simp (disch := omega) only [n2C, dF])
 rw [l4A z16] at l1
 have e : m6A (List.replicate 16 0) 0 (((w.drop 16).take 16).take 16) = f6B w := by
  have e1 : ((w.drop 16).take 16).take 16 = w.drop 16 := by
   rw [List.take_take, Nat.min_self, List.take_of_length_le (by rw [List.length_drop]; omega)]
  have e2 : (w.drop 16).length = 16 := by rw [List.length_drop]; omega
  rw [e1]
  simp only [m6A, List.take_zero, List.nil_append, e2, Nat.zero_add, List.drop_replicate, Nat.sub_self, List.replicate_zero, List.append_nil]
  refine p3A 0 (by rw [e2]; exact (g6A _ _).symm) fun i hi => ?_
  rw [e2] at hi
  rw [show (f6B w).getD i 0 = w.getD (16 + i) 0 from e0A _ _ _ _ hi]
  simp [List.getD_eq_getElem?_getD, List.getElem?_drop]
 unfold y0A
 simp only [v3B ht (by omega) (show (0 : Int) ≤ 1099511627776 by omega) (by omega), v3B hw (by omega) (show (0 : Int) ≤ 1099511627776 by omega) (by omega), decide_eq_true bt, decide_eq_true bw, Option.bind_some, Bool.not_true, cond_false]
 rw [show a1A n2C (0, t, w, List.replicate 16 0, List.replicate 16 0, ()) = _ from l1]
 simp only [Option.bind_some, e]
 rfl
theorem m5G {t w : List Int} (ht : t.length = 16) (hw : w.length = 32) (bt : ¬ (d0A 1099511627776 16 t ∧ d0A 1099511627776 32 w)) : y0A t w = some (List.replicate 16 0, (List.replicate 16 0, 1)) := by
 unfold y0A
 by_cases h : d0A 1099511627776 16 t
 ·have h2 : ¬ d0A 1099511627776 32 w := fun h2 => bt ⟨h, h2⟩
  simp only [v3B ht (by omega) (show (0 : Int) ≤ 1099511627776 by omega) (by omega), v3B hw (by omega) (show (0 : Int) ≤ 1099511627776 by omega) (by omega), decide_eq_true h, decide_eq_false h2, Option.bind_some, Bool.not_true, Bool.not_false, cond_false, cond_true]
 ·simp only [v3B ht (by omega) (show (0 : Int) ≤ 1099511627776 by omega) (by omega), decide_eq_false h, Option.bind_some, Bool.not_false, cond_true]
theorem m6G {t w : List Int} (bt : d0A 1099511627776 16 t) (bw : d0A 1099511627776 32 w) : a9D t w = some (d7C t w, (f6B w, 0)) := by
 have z16 : (List.replicate 16 (0 : Int)).length = 16 := List.length_replicate
 have l1 := b7A (f := q3C) (fun i : Nat => ((i : Int), t, w, List.replicate 16 0, List.replicate 16 0, b4A (d6C t w) i (List.replicate 16 0), b4A (fun i => w.getD (16 + i) 0) i (List.replicate 16 0), ())) 16
  (r := (List.replicate 16 0, List.replicate 16 0, b4A (d6C t w) 16 (List.replicate 16 0), b4A (fun i => w.getD (16 + i) 0) 16 (List.replicate 16 0), ())) (fun i hi => by
  have b1 := bt i hi
  have b2 := bw i (by omega)
  have e16 : ((16 : Int) + (i : Int)).toNat = 16 + i := by omega
  have a1 : l6A (t.getD i 0 + w.getD i 0) 8 = some (rnd 8 (t.getD i 0 + w.getD i 0)) := f4B (n := 8) (by omega) (by omega) (by omega) (by omega)
  simp (disch := omega) only [q3C, dT, wT, Int.toNat_natCast, a3A, a1, k7G, Option.bind_some, k3A, e16]
  rfl) (by simp (disch := omega) only [q3C, dF])
 rw [l4A z16, l4A z16] at l1
 unfold a9D
 simp only [g4D, m0G, decide_eq_true bt, decide_eq_true bw, Option.bind_some, Bool.not_true, cond_false]
 rw [show a1A q3C (0, t, w, List.replicate 16 0, List.replicate 16 0, List.replicate 16 0, List.replicate 16 0, ()) = _ from l1]
 rfl
theorem m7G (w : List Int) : (f6B w).length = 16 := g6A _ _
theorem d8C (w : List Int) : (f5B w).length = 32 := g6A _ _
theorem m8G {w : List Int} (h : d0A 1099511627776 32 w) : d0A 1099511627776 16 (f6B w) := fun i hi => by
 rw [show (f6B w).getD i 0 = w.getD (16 + i) 0 from e0A _ _ _ _ hi]
 exact h _ (by omega)
end Go.Sq
namespace Go.Sq
open Go.Rx
theorem d9C {α : Type} {g h : Nat → α} {n i : Nat} (e : g i = h i) : a5A (mix g h i) n = a5A (mix g h (i + 1)) n := v2B fun j _ => by
 unfold mix
 by_cases h1 : j = i
 ·subst h1; rw [if_neg (by omega), if_pos (by omega)]; exact e.symm
 ·by_cases h2 : j < i
  ·rw [if_pos h2, if_pos (by omega)]
  ·rw [if_neg h2, if_neg (by omega)]
theorem w8A (n : Nat) : List.replicate n (0 : Int) = a5A (fun _ => 0) n := by
 refine p3A 0 (by rw [List.length_replicate, g6A]) fun i hi => ?_
 rw [List.length_replicate] at hi
 rw [e0A _ _ _ _ hi, n3A]
def held (v : Int) : Int := if (-67108864) < (if 67108864 < v then 67108864 else v) then (if 67108864 < v then 67108864 else v) else (-67108864)
theorem a2F (v : Int) : -67108864 ≤ held v ∧ held v ≤ 67108864 := by unfold held; split <;> split <;> omega
theorem a3F (v : Int) : z6C v = some (held v) := rfl
theorem a4F (v : Int) : (if 67108864 < (if v < (-67108864) then (-67108864) else v) then 67108864 else (if v < (-67108864) then (-67108864) else v)) = held v := by
 unfold held; split <;> split <;> split <;> (try split) <;> omega
theorem m9G {L : Nat} (hL : L < 256) {w : Int} (h1 : 1 ≤ w) (h7 : w ≤ 7) : 0 ≤ w5A L w ∧ w5A L w ≤ 4026531842 := by
 have p := e1D hL
 have m := (c6C (w := w) (by omega) h7).2.2 h1
 have := u7D (p := n0A L - 1) (m := i1A w) (by omega) (by omega) m
 unfold w5A; omega
theorem x6D {l : List Int} (hl : l.length = 6) (h : lv l) (n : Nat) : 0 ≤ h2A l n ∧ h2A l n ≤ 4026531842 := by
 have w := c9C hl h n
 have b := h _ (z5A n)
 unfold h2A
 split
 ·omega
 ·exact m9G (by omega) (by omega) (by omega)
noncomputable def e0C (q l : List Int) (n : Nat) : Int := held (q.getD n 0 * h2A l n)
noncomputable def p1B (q l : List Int) : List Int := a5A (e0C q l) 16
theorem e1C (q l : List Int) : d0A 67108864 16 (p1B q l) := fun i hi => by
 rw [show (p1B q l).getD i 0 = e0C q l i from e0A _ _ _ _ hi]
 exact a2F _
theorem a5F (q l : List Int) : (p1B q l).length = 16 := g6A _ _
theorem a6F {q l : List Int} (hl : l.length = 6) (h : p6A q l) {n : Nat} (hn : n < 16) : -600000000000 ≤ q.getD n 0 * h2A l n ∧ q.getD n 0 * h2A l n ≤ 600000000000 := by
 have a := h.2 n hn
 have b := p5A hl h.1 n
 have c := x6D hl h.1 n
 have := v4B (a := q.getD n 0) (b := h2A l n) (A := 127) (B := 4026531842) (by omega) (by omega)
 omega
open Classical in
theorem a7F {q l : List Int} (hq : q.length = 16) (hl : l.length = 6) (h : p6A q l) : j4C q l = some (p1B q l, 0) := by
 have z16 : (List.replicate 16 (0 : Int)).length = 16 := List.length_replicate
 have l1 := b7A (f := o9C) (fun i : Nat => (0, (i : Int), q, b4A (e0C q l) i (List.replicate 16 0), a5A (scF l) 16, ())) 16 (r := (0, b4A (e0C q l) 16 (List.replicate 16 0), ())) (fun i hi => by
  have g : (a5A (scF l) 16).getD i (0, 0) = scF l i := e0A _ _ _ _ hi
  have b := a6F hl h hi
  simp (disch := omega) only [o9C, dT, wT, Int.toNat_natCast, g, e2D, a3A, a3F, Option.bind_some, k3A]
  rfl) (by simp (disch := omega) only [o9C, dF])
 rw [l4A z16] at l1
 unfold j4C
 simp only [t9E hq hl, decide_eq_true h, Option.bind_some, Bool.not_true, cond_false, u8D hl h.1]
 rw [show a1A o9C (0, 0, q, List.replicate 16 0, a5A (scF l) 16, ()) = _ from l1]
 rfl
def p7A (s : Int) : Nat → Int
 | 0 => s
 | n + 1 => IntKind.u32.wrap (IntKind.u32.wrap (p7A s n * 1664525) + 1013904223)
theorem n0G (v : Int) : 0 ≤ IntKind.u32.wrap v ∧ IntKind.u32.wrap v < 4294967296 := by
 simp only [IntKind.wrap, IntKind.signed, IntKind.bits]; simp; omega
theorem x7D {s : Int} (n : Nat) : 0 ≤ p7A s (n + 1) ∧ p7A s (n + 1) < 4294967296 := n0G _
theorem a8F {v : Int} (h : 0 ≤ v) (h' : v < 4294967296) : c5A .u32 v 16 = v / 65536 := by
 have : c5A .u32 v 16 = v.fdiv 65536 := rfl
 rw [this, Int.fdiv_eq_ediv_of_nonneg _ (by omega)]
def u3A (s : Int) (l : List Int) (n : Nat) : Int := (p7A s (n + 1) / 65536 - 32768) * n0A (l.getD (d9A n) 0).toNat
def n8A (s : Int) (l : List Int) (n : Nat) : Int := if l.getD (d9A n) 0 > 0 then held (rnd 18 (u3A s l n)) else 0
def e2C (s : Int) (l : List Int) : List Int := a5A (n8A s l) 16
theorem x8D (s : Int) (l : List Int) : (e2C s l).length = 16 := g6A _ _
theorem n1G (s : Int) (l : List Int) (n : Nat) : -67108864 ≤ n8A s l n ∧ n8A s l n ≤ 67108864 := by
 unfold n8A; split
 ·exact a2F _
 ·omega
theorem k7B (s : Int) (l : List Int) : d0A 67108864 16 (e2C s l) := fun i hi => by
 rw [show (e2C s l).getD i 0 = n8A s l i from e0A _ _ _ _ hi]
 exact n1G _ _ _
theorem a9F {s : Int} {l : List Int} (h : lv l) (n : Nat) : -140000000000000 ≤ u3A s l n ∧ u3A s l n ≤ 140000000000000 := by
 have b := h _ (z5A n)
 have p := e1D (L := (l.getD (d9A n) 0).toNat) (by omega)
 have sr := x7D (s := s) n
 have := v4B (a := p7A s (n + 1) / 65536 - 32768) (b := n0A (l.getD (d9A n) 0).toNat) (A := 32768) (B := 4026531841) (by omega) (by omega)
 unfold u3A; omega
theorem x9D {s : Int} {l : List Int} (hl : l.length = 6) (h : lv l) : y7B s l = some (e2C s l, (p7A s 16, 0)) := by
 have l1 := b7A (f := a3C) (fun i : Nat => (p7A s i, (i : Int), l, a5A (mix (n8A s l) (fun _ => 0) i) 16, ())) 16 (r := (p7A s 16, a5A (mix (n8A s l) (fun _ => 0) 16) 16, ())) (fun i hi => by
  have b := h _ (z5A i)
  have bl := z5A i
  have sr := x7D (s := s) i
  have es : IntKind.u32.wrap (IntKind.u32.wrap (p7A s i * 1664525) + 1013904223) = p7A s (i + 1) := rfl
  have pk : x9B (l.getD (d9A i) 0) = some (n0A (l.getD (d9A i) 0).toNat, 0) := by
   have := t3E (L := (l.getD (d9A i) 0).toNat) (by omega)
   rwa [Int.toNat_of_nonneg b.1] at this
  have nv := a9F (s := s) h i
  have a1 : m4A (u3A s l i) 18 = some (rnd 18 (u3A s l i)) := f3B (n := 18) (by omega) (by omega) (by omega) (by omega)
  have ev : (p7A s (i + 1) / 65536 - 32768) * n0A (l.getD (d9A i) 0).toNat = u3A s l i := rfl
  by_cases hb : l.getD (d9A i) 0 > 0
  ·have e : n8A s l i = held (rnd 18 (u3A s l i)) := if_pos hb
   have st : (a5A (mix (n8A s l) (fun _ => 0) i) 16).set i (held (rnd 18 (u3A s l i))) = a5A (mix (n8A s l) (fun _ => 0) (i + 1)) 16 := e ▸ k5B 0 hi
   simp (disch := omega) only [a3C, dT, wT, Int.toNat_natCast, u6B hi, pk, es, a8F, a3A, ev, a1, a3F, Option.bind_some, st]
   rfl
  ·have e : n8A s l i = 0 := if_neg hb
   have st : a5A (mix (n8A s l) (fun _ => 0) i) 16 = a5A (mix (n8A s l) (fun _ => 0) (i + 1)) 16 := d9C e
   simp (disch := omega) only [a3C, dT, dF, wT, Int.toNat_natCast, u6B hi, pk, es, Option.bind_some, d2A, ← st]) (by simp (disch := omega) only [a3C, dF])
 rw [k6B] at l1
 unfold y7B
 simp (disch := omega) only [o1B hl, p4A h, Option.bind_some, nF]
 rw [w8A 16, show a1A a3C (s, 0, l, a5A (fun _ => 0) 16, ()) = _ from l1]
 rfl
abbrev SyT := List Int × List Int × Bool × Bool × Int
def s2A (s : SyT) : Prop := s.1.length = 16 ∧ s.2.1.length = 6
def okY (s : SyT) : Prop := d0A 1099511627776 16 s.1 ∧ lv s.2.1 ∧ ¬ (s.2.2.1 = true ∧ s.2.2.2.1 = true)
instance (s : SyT) : Decidable (okY s) := by unfold okY; infer_instance
def ckY (s : SyT) : Int := if okY s then 0 else 1
def zY : SyT := (List.replicate 16 0, (List.replicate 6 0, (false, (false, 0))))
def zP : List Int := List.replicate 16 0
theorem y0D {B : Int} (hB : 0 ≤ B) (n m : Nat) : d0A B n (List.replicate m 0) := fun i _ => by rw [n3A]; omega
theorem p2B {s : SyT} (h : okY s) : ckY s = 0 := if_pos h
theorem a0B {s : SyT} (h : ¬ okY s) : ckY s = 1 := if_neg h
theorem y1D {s : SyT} (hs : s2A s) : x8B s = some (ckY s) := by
  obtain ⟨t, l, a, b, c⟩ := s
  obtain ⟨h1, h2⟩ := hs
  simp only at h1 h2
  have ez : ([0, 0, 0, 0, 0, 0, 0, 0, 0, 0, 0, 0, 0, 0, 0, 0, 0, 0, 0, 0, 0, 0, 0, 0, 0, 0, 0, 0, 0, 0, 0, 0] : List Int) = List.replicate 32 0 := rfl
  have c2 := o1B h2
  unfold x8B
  rw [ez]
  by_cases ht : d0A 1099511627776 16 t
  · simp only [v5B h1 List.length_replicate ht (y0D (by omega) 32 32), Option.bind_some, bne_self_eq_false, cond_false]
    cases a <;> cases b <;> simp only [cond_true, cond_false, Option.bind_some, c2]
    all_goals first
      | (by_cases hl : lv l
         · rw [p4A hl, p2B ⟨ht, hl, by simp⟩]
         · rw [w4A hl, a0B fun h => hl h.2.1])
      | rw [a0B fun h => h.2.2 ⟨rfl, rfl⟩]
  · have e := m5G (t := t) (w := List.replicate 32 0) h1 List.length_replicate (fun h => ht h.1)
    have hk : ckY (t, l, a, b, c) = 1 := a0B fun h => ht h.1
    rw [e, hk]; rfl
theorem y2D {s : SyT} (hs : s2A s) : y9B s = some (ckY s) := by
 obtain ⟨t, l, a, b, c⟩ := s
 obtain ⟨h1, h2⟩ := hs
 simp only at h1 h2
 have c2 := k1B h2
 unfold y9B
 by_cases ht : d0A 1099511627776 16 t
 ·by_cases hl : lv l
  ·simp (disch := omega) only [g4D, decide_eq_true ht, Option.bind_some, Bool.not_true, cond_false, c2, p4A hl, nF]
   cases a <;> cases b <;> simp only [cond_true, cond_false, Option.bind_some]
   all_goals first
    | rw [a0B fun h => h.2.2 ⟨rfl, rfl⟩]; done
    | rw [p2B ⟨ht, hl, by simp⟩]
  ·have hk : ckY (t, l, a, b, c) = 1 := a0B fun h => hl h.2.1
   simp (disch := omega) only [g4D, decide_eq_true ht, Option.bind_some, Bool.not_true, cond_false, c2, w4A hl, nT, cond_true, hk]
 ·have hk : ckY (t, l, a, b, c) = 1 := a0B fun h => ht h.1
  simp (disch := omega) only [g4D, decide_eq_false ht, Option.bind_some, Bool.not_false, cond_true, hk]
end Go.Sq
namespace Go.Sq
open Go.Rx
def u4A (s : SyT) (x : List Int) : SyT × List Int × Int := ((f6B (f5B x), s.2), (d7C s.1 (f5B x), 0))
def k8B (s : SyT) : SyT × List Int × Int := u4A (s.1, (s.2.1, (s.2.2.1, (s.2.2.2.1, p7A s.2.2.2.2 16)))) (e2C s.2.2.2.2 s.2.1)
def p3B (e : Int) : SyT × List Int × Int := (zY, (zP, e))
def k6A (s : SyT) : SyT × List Int × Int :=
 if okY s then (bif s.2.2.2.1 then k8B s else u4A (s.1, (s.2.1, (false, s.2.2.2))) zP) else p3B 1
def e3C (v : Int) : Int := if 255 < v then 255 else v
noncomputable def g9A (s : SyT) (b : List Int) : SyT × List Int × Int :=
 if okY s then
  if (o4A b s.2.1).2 ≠ 0 then p3B (o4A b s.2.1).2
  else if (o4A b s.2.1).1.1 = 1 ∧ s.2.2.1 = false then p3B 40
  else if (o4A b s.2.1).1.1 = 2 then k8B (s.1, ((o4A b s.2.1).1.2.1, (false, (true, s.2.2.2.2))))
  else u4A (s.1, ((o4A b s.2.1).1.2.1, (true, (false, s.2.2.2.2)))) (p1B (o4A b s.2.1).1.2.2 (o4A b s.2.1).1.2.1)
 else p3B 1
theorem b0F : ([0, 0, 0, 0, 0, 0, 0, 0, 0, 0, 0, 0, 0, 0, 0, 0] : List Int) = List.replicate 16 0 := rfl
theorem g5D : d0A 67108864 16 zP := y0D (by omega) 16 16
theorem g6D : zP.length = 16 := List.length_replicate
theorem s3A : ((1 : Int) != 0) = true := rfl
theorem b1F : ((1 : Int) == 0) = false := rfl
theorem n2G {s : SyT} (hs : s2A s) : j5C s = some (k6A s) := by
 have c := y1D hs
 obtain ⟨t, l, a, h, sd⟩ := s
 by_cases ok : okY (t, l, a, h, sd)
 ·rw [p2B ok] at c
  have e : k6A (t, l, a, h, sd) = bif h then k8B (t, l, a, h, sd) else u4A (t, l, false, h, sd) zP := if_pos ok
  rw [e]
  unfold j5C
  cases h
  ·have i1 := d5C g6D g5D
   have i2 := v5B hs.1 (d8C _) ok.1 (p0B g5D)
   simp only [c, b0F, show List.replicate 16 (0 : Int) = zP from rfl, i1, i2, Option.bind_some, bne_self_eq_false, beq_self_eq_true, cond_false, cond_true]
   rfl
  ·have n0 := x9D (s := sd) hs.2 ok.2.1
   have i1 := d5C (x8D sd l) (k7B sd l)
   have i2 := v5B hs.1 (d8C _) ok.1 (p0B (k7B sd l))
   simp only [c, n0, i1, i2, Option.bind_some, bne_self_eq_false, beq_self_eq_true, cond_false, cond_true]
   rfl
 ·rw [a0B ok] at c
  have e : k6A (t, l, a, h, sd) = p3B 1 := if_neg ok
  rw [e]
  unfold j5C
  simp only [c, Option.bind_some, s3A, cond_true]
  rfl
theorem f7B {x y : Int} (h : x = y) : (x == y) = true := beq_iff_eq.2 h
theorem l9A {x y : Int} (h : x ≠ y) : (x == y) = false := beq_false_of_ne h
theorem f8B {x y : Int} (h : x ≠ y) : (x != y) = true := bne_iff_ne.2 h
theorem b2F {x y : Int} (h : x = y) : (x != y) = false := by rw [h, bne_self_eq_false]
theorem b3F {s : SyT} (hs : s2A s) {b : List Int} (hb : bytes b) (sm : b3A b) : i1B s b = some (g9A s b) := by
  have c := y1D hs
  obtain ⟨t, l, a, h, sd⟩ := s
  by_cases ok : okY (t, l, a, h, sd)
  · rw [p2B ok] at c
    have rd := i9G hb sm hs.2
    have e := show g9A (t, l, a, h, sd) b = _ from if_pos ok
    rw [e]
    simp only at e rd ⊢
    cases hr : o4A b l with
    | mk f er =>
      rw [hr] at rd
      simp only
      by_cases he : er ≠ 0
      · rw [if_pos he]
        unfold i1B
        simp only [c, rd, Option.bind_some, bne_self_eq_false, beq_self_eq_true, l9A he, f8B he, cond_true, cond_false]
        rfl
      · rw [if_neg he]
        have he : er = 0 := Decidable.not_not.1 he
        subst he
        obtain ⟨of, wr, gs⟩ := x6E hr
        have sz := (f8D hb of.1 gs).1
        obtain ⟨k, fl, fq⟩ := f
        by_cases hk : k = 1 ∧ a = false
        · rw [if_pos hk]
          obtain ⟨rfl, rfl⟩ := hk
          unfold i1B
          simp only [c, rd, Option.bind_some, bne_self_eq_false, beq_self_eq_true, cond_true, cond_false, Bool.not_false, f8B (show (40 : Int) ≠ 0 by decide)]
          rfl
        · rw [if_neg hk]
          have h3 : (bif (k == 1) then !a else false) = false := by
            by_cases h1 : k = 1
            · subst h1; cases a
              · exact absurd ⟨rfl, rfl⟩ hk
              · rfl
            · rw [l9A h1]; rfl
          have step : ∀ r, (∀ (z : SyT) (p : List Int), (bif k == 2 then
                (y7B sd fl).bind fun y6 => (i0B y6.1).bind fun y8 => (y0A t y8.1).bind fun y10 => some (((y10.2.1, (fl, (k != 2, (k == 2, y6.2.1)))), (y10.1, (0 : Int))) : SyT × List Int × Int)
              else (j4C fq fl).bind fun y12 => (i0B y12.1).bind fun y14 => (y0A t y14.1).bind fun y16 => some ((y16.2.1, (fl, (k != 2, (k == 2, sd)))), (y16.1, 0))) = some r) → i1B (t, l, a, h, sd) b = some r := by
            intro r hr
            have hr := hr zY zP
            unfold i1B
            simp only [c, rd, Option.bind_some, bne_self_eq_false, beq_self_eq_true, cond_true, cond_false]
            by_cases k2 : k = 2
            · subst k2
              have n0 := x9D (s := sd) sz.1 of.2.1.1
              have i1 := d5C (x8D sd fl) (k7B sd fl)
              have i2 := v5B hs.1 (d8C _) ok.1 (p0B (k7B sd fl))
              simp only [n0, i1, i2, Option.bind_some, beq_self_eq_true, cond_true, cond_false, bne_self_eq_false, l9A (show (2 : Int) ≠ 1 by decide)] at hr ⊢
              exact hr
            · have n0 := a7F sz.2 sz.1 of.2.1
              have i1 := d5C (a5F fq fl) (e1C fq fl)
              have i2 := v5B hs.1 (d8C _) ok.1 (p0B (e1C fq fl))
              by_cases h1 : k = 1
              · subst h1
                cases a
                · exact absurd ⟨rfl, rfl⟩ hk
                · simp only [n0, i1, i2, Option.bind_some, beq_self_eq_true, cond_true, cond_false, Bool.not_true, bne_self_eq_false, l9A (show (1 : Int) ≠ 2 by decide)] at hr ⊢
                  exact hr
              · simp only [n0, i1, i2, Option.bind_some, beq_self_eq_true, cond_true, cond_false, bne_self_eq_false, l9A h1, l9A k2] at hr ⊢
                exact hr
          apply step
          intro _ _
          by_cases k2 : k = 2
          · subst k2
            rw [if_pos rfl]
            have n0 := x9D (s := sd) sz.1 of.2.1.1
            have i1 := d5C (x8D sd fl) (k7B sd fl)
            have i2 := v5B hs.1 (d8C _) ok.1 (p0B (k7B sd fl))
            simp only [n0, i1, i2, Option.bind_some, beq_self_eq_true, cond_true, bne_self_eq_false]
            rfl
          · rw [if_neg k2]
            have n0 := a7F sz.2 sz.1 of.2.1
            have i1 := d5C (a5F fq fl) (e1C fq fl)
            have i2 := v5B hs.1 (d8C _) ok.1 (p0B (e1C fq fl))
            simp only [n0, i1, i2, Option.bind_some, l9A k2, f8B k2, cond_false]
            rfl
  · rw [a0B ok] at c
    have e : g9A (t, l, a, h, sd) b = p3B 1 := if_neg ok
    rw [e]
    unfold i1B
    simp only [c, Option.bind_some, s3A, cond_true]
    rfl
theorem g7D {s : SyT} {x : List Int} (hx : d0A 67108864 16 x) (hl : lv s.2.1) (hh : ¬ (s.2.2.1 = true ∧ s.2.2.2.1 = true)) : okY (u4A s x).1 :=
 ⟨m8G (p0B hx), hl, hh⟩
theorem g8D {s : SyT} {x : List Int} (hl : s.2.1.length = 6) : s2A (u4A s x).1 := ⟨m7G _, hl⟩
theorem n3G : s2A zY := ⟨List.length_replicate, List.length_replicate⟩
theorem n4G {s : SyT} (hs : s2A s) : s2A (k6A s).1 := by
 unfold k6A
 split
 ·cases s.2.2.2.1
  ·exact g8D hs.2
  ·exact g8D hs.2
 ·exact n3G
theorem y3D {s : SyT} (ok : okY s) : okY (k6A s).1 ∧ (k6A s).2.2 = 0 := by
 have e : k6A s = bif s.2.2.2.1 then k8B s else u4A (s.1, (s.2.1, (false, s.2.2.2))) zP := if_pos ok
 rw [e]
 cases hh : s.2.2.2.1
 ·exact ⟨g7D g5D ok.2.1 (fun h => Bool.false_ne_true h.1), rfl⟩
 ·exact ⟨g7D (k7B _ _) ok.2.1 (fun h => ok.2.2 ⟨h.1, hh⟩), rfl⟩
end Go.Sq
namespace Go.Sq
open Go.Rx
theorem b4F (n : Nat) : ∀ k, h8A zP n k = 0
 | 0 => rfl
 | k + 1 => by
  have : zP.getD k 0 = 0 := n3A _ _
  rw [h8A, b4F n k, this, Int.zero_mul]; rfl
theorem n5G : rnd 20 0 = 0 := by decide
theorem n6G : rnd 27 0 = 0 := by decide
def zW : List Int := List.replicate 32 0
theorem b5F : f5B zP = zW := by
 unfold zW
 rw [w8A 32]
 exact v2B fun i _ => by unfold t7A r20; rw [b4F, n5G, Int.zero_mul, n6G]
theorem n7G : f6B zW = zP := by
 unfold zP
 rw [w8A 16]
 exact v2B fun i _ => n3A _ _
theorem n8G : d7C zP zW = zP := by
 unfold d7C
 rw [show zP = a5A (fun _ => 0) 16 from w8A 16]
 exact v2B fun i hi => by
  unfold d6C
  rw [e0A _ _ _ _ hi, show zW.getD i 0 = 0 from n3A _ _]; rfl
theorem n9G (s : SyT) : (u4A s zP).1 = (zP, s.2) ∧ (s.1 = zP → (u4A s zP).2.1 = zP) := by
 refine ⟨?_, fun h => ?_⟩
 ·show (f6B (f5B zP), s.2) = _; rw [b5F, n7G]
 ·show d7C s.1 (f5B zP) = _; rw [b5F, h, n8G]
def sY : SyT := (List.replicate 16 0, (List.replicate 6 0, (false, (false, 1))))
theorem o0G : s2A sY := ⟨List.length_replicate, List.length_replicate⟩
theorem o1G : okY sY := ⟨y0D (by omega) 16 16, k0G, fun h => Bool.false_ne_true h.1⟩
def b6F (l : List (List Int)) : Prop := (∀ i, i < l.length → (l.getD i []).length ≤ 300) ∧ l.length ≤ 30
instance (l : List (List Int)) : Decidable (b6F l) := by unfold b6F; infer_instance
theorem o2G {s : SyT} (ok : okY s) : (k6A s).2.2 = 0 ∧ (k6A s).1.2.1 = s.2.1 ∧ (k6A s).1.2.2.2.1 = s.2.2.2.1 ∧ (k6A s).1.2.2.1 = false ∧
  (s.2.2.2.1 = false → (k6A s).1.2.2.2.2 = s.2.2.2.2 ∧ (k6A s).1.1 = zP ∧ (s.1 = zP → (k6A s).2.1 = zP)) := by
 have e : k6A s = bif s.2.2.2.1 then k8B s else u4A (s.1, (s.2.1, (false, s.2.2.2))) zP := if_pos ok
 rw [e]
 cases hh : s.2.2.2.1
 ·have z := n9G (s.1, (s.2.1, (false, s.2.2.2)))
  refine ⟨rfl, rfl, hh, rfl, fun _ => ⟨rfl, ?_, z.2⟩⟩
  exact congrArg (·.1) z.1
 ·have hl : s.2.2.1 = false := by
   cases h : s.2.2.1
   ·rfl
   ·exact absurd ⟨h, hh⟩ ok.2.2
  exact ⟨rfl, rfl, hh, hl, fun h => absurd h (by decide)⟩
theorem o3G {l m : List Int} (h : l = m) : (l == m) = true := by rw [h]; exact beq_self_eq_true _
end Go.Sq
namespace Go.Sq
open Go.Rx
theorem o4G {s : SyT} {f : FrT} (ok : okY s) (hf : l8A f) (h : e2A f s.2.1) (k2 : f.1 ≠ 2) (k1 : f.1 = 1 → s.2.2.1 = true) :
  g9A s (g7A f s.2.1) = u4A (s.1, (f.2.1, (true, (false, s.2.2.2.2)))) (p1B f.2.2 f.2.1) := by
 have e := show g9A s (g7A f s.2.1) = _ from if_pos ok
 rw [e, x5E hf h, if_neg (by simp), if_neg, if_neg k2]
 rintro ⟨a, b⟩
 rw [k1 a] at b
 exact absurd b (by decide)
end Go.Sq
namespace Go.Sq
open Go.Rx
abbrev b7F : Ty := .pair (.arr 16 (.int .i64)) (.pair (.arr 6 (.int .i64)) (.pair .bool (.pair .bool (.int .u32))))
theorem o5G {s : SyT} (h : wf b7F s) : s2A s := ⟨h.1.1, h.2.1.1⟩
end Go.Sq
namespace Go.Sq
open Go.Rx
open Classical in
theorem o6G {q l : List Int} (hl : l.length = 6) (h : p6A q l) : b6D q l = some (p1B q l, 0) := by
 have z16 : (List.replicate 16 (0 : Int)).length = 16 := List.length_replicate
 have l1 := b7A (f := r1C) (fun i : Nat => ((i : Int), q, List.replicate 16 0, b4A (e0C q l) i (List.replicate 16 0), a5A (h2A l) 16, ())) 16 (r := (List.replicate 16 0, b4A (e0C q l) 16 (List.replicate 16 0), ())) (fun i hi => by
  have g : (a5A (h2A l) 16).getD i 0 = h2A l i := e0A _ _ _ _ hi
  have b := a6F hl h hi
  simp (disch := omega) only [r1C, dT, wT, Int.toNat_natCast, g, a3A, a4F, k3A]
  rfl) (by simp (disch := omega) only [r1C, dF])
 rw [l4A z16] at l1
 unfold b6D
 simp only [u0E hl, decide_eq_true h, Option.bind_some, Bool.not_true, cond_false, s1C hl h.1]
 rw [show a1A r1C (0, q, List.replicate 16 0, List.replicate 16 0, a5A (h2A l) 16, ()) = _ from l1]
 rfl
theorem o7G {s : Int} {l : List Int} (hl : l.length = 6) (h : lv l) : a5D s l = some (e2C s l, (p7A s 16, 0)) := by
 have l1 := b7A (f := b4C) (fun i : Nat => (p7A s i, (i : Int), l, List.replicate 16 0, a5A (mix (n8A s l) (fun _ => 0) i) 16, ())) 16 (r := (p7A s 16, List.replicate 16 0, a5A (mix (n8A s l) (fun _ => 0) 16) 16, ())) (fun i hi => by
  have b := h _ (z5A i)
  have bl := z5A i
  have sr := x7D (s := s) i
  have es : IntKind.u32.wrap (IntKind.u32.wrap (1664525 * p7A s i) + 1013904223) = p7A s (i + 1) := by rw [Int.mul_comm]; rfl
  have pk : z1B (l.getD (d9A i) 0) = some (n0A (l.getD (d9A i) 0).toNat, 0) := by
   have := t4E (L := (l.getD (d9A i) 0).toNat) (by omega)
   rwa [Int.toNat_of_nonneg b.1] at this
  have nv := a9F (s := s) h i
  have a1 : l6A (u3A s l i) 18 = some (rnd 18 (u3A s l i)) := f4B (n := 18) (by omega) (by omega) (by omega) (by omega)
  have ev : (p7A s (i + 1) / 65536 - 32768) * n0A (l.getD (d9A i) 0).toNat = u3A s l i := rfl
  by_cases hb : l.getD (d9A i) 0 > 0
  ·have e : n8A s l i = held (rnd 18 (u3A s l i)) := if_pos hb
   have st : (a5A (mix (n8A s l) (fun _ => 0) i) 16).set i (held (rnd 18 (u3A s l i))) = a5A (mix (n8A s l) (fun _ => 0) (i + 1)) 16 := e ▸ k5B 0 hi
   simp (disch := omega) only [b4C, dT, wT, Int.toNat_natCast, d9D hi, pk, es, a8F, a3A, ev, a1, a4F, Option.bind_some, st]
   rfl
  ·have e : n8A s l i = 0 := if_neg hb
   have st : a5A (mix (n8A s l) (fun _ => 0) i) 16 = a5A (mix (n8A s l) (fun _ => 0) (i + 1)) 16 := d9C e
   simp (disch := omega) only [b4C, dT, dF, wT, Int.toNat_natCast, d9D hi, es, Option.bind_some, d2A, ← st]) (by simp (disch := omega) only [b4C, dF])
 rw [k6B] at l1
 unfold a5D
 simp (disch := omega) only [k1B hl, p4A h, Option.bind_some, nF]
 have l1 : a1A b4C (s, 0, l, List.replicate 16 0, a5A (fun _ => 0) 16, ()) = _ := l1
 rw [← w8A 16] at l1
 rw [l1]
 rfl
theorem y4D {s : SyT} {x : List Int} (ht : d0A 1099511627776 16 s.1) (hx : d0A 67108864 16 x) : z2B s x = some (u4A s x) := by
 unfold z2B
 simp only [m4G hx, m6G ht (p0B hx), Option.bind_some, bne_self_eq_false, cond_false]
 rfl
theorem b8F {s : SyT} (ht : d0A 1099511627776 16 s.1) (hl : s.2.1.length = 6) (lvl : lv s.2.1) : k9C s = some (k8B s) := by
 have n0 := o7G (s := s.2.2.2.2) hl lvl
 have e := y4D (s := (s.1, (s.2.1, (s.2.2.1, (s.2.2.2.1, p7A s.2.2.2.2 16))))) ht (k7B s.2.2.2.2 s.2.1)
 unfold k9C
 simp only [n0, Option.bind_some, bne_self_eq_false, cond_false, e]
 rfl
theorem o8G {s : SyT} (hs : s2A s) : l0C s = some (k6A s) := by
 have c := y2D hs
 by_cases ok : okY s
 ·rw [p2B ok] at c
  have e : k6A s = bif s.2.2.2.1 then k8B s else u4A (s.1, (s.2.1, (false, s.2.2.2))) zP := if_pos ok
  have a := b8F ok.1 hs.2 ok.2.1
  have b := y4D (s := (s.1, (s.2.1, (false, s.2.2.2)))) ok.1 g5D
  rw [e]
  unfold l0C
  simp only [c, Option.bind_some, bne_self_eq_false, cond_false, b0F, show List.replicate 16 (0 : Int) = zP from rfl, a, b]
  cases s.2.2.2.1 <;> rfl
 ·rw [a0B ok] at c
  have e : k6A s = p3B 1 := if_neg ok
  rw [e]
  unfold l0C
  simp only [c, Option.bind_some, s3A, cond_true]
  rfl
theorem b9F {s : SyT} (hs : s2A s) {b : List Int} (hb : bytes b) (sm : b3A b) : i7B s b = some (g9A s b) := by
 have c := y2D hs
 by_cases ok : okY s
 ·rw [p2B ok] at c
  have rd := k5G hb sm hs.2
  have e := show g9A s b = _ from if_pos ok
  rw [e]
  cases hr : o4A b s.2.1 with
  | mk f er =>
   rw [hr] at rd
   simp only
   by_cases he : er ≠ 0
   ·rw [if_pos he]
    unfold i7B
    simp only [c, rd, Option.bind_some, bne_self_eq_false, cond_false, f8B he, cond_true]
    rfl
   ·rw [if_neg he]
    have he : er = 0 := Decidable.not_not.1 he
    subst he
    obtain ⟨of, wr, gs⟩ := x6E hr
    have sz := (f8D hb of.1 gs).1
    have hi := b8F (s := (s.1, (f.2.1, (f.1 != 2, (f.1 == 2, s.2.2.2.2))))) ok.1 sz.1 of.2.1.1
    have so := y4D (s := (s.1, (f.2.1, (f.1 != 2, (f.1 == 2, s.2.2.2.2))))) ok.1 (e1C f.2.2 f.2.1)
    have gr := o6G sz.1 of.2.1
    by_cases hk : f.1 = 1 ∧ s.2.2.1 = false
    ·rw [if_pos hk]
     unfold i7B
     simp only [c, rd, Option.bind_some, bne_self_eq_false, cond_false, f7B hk.1, hk.2, Bool.not_false, cond_true]
     rfl
    ·rw [if_neg hk]
     by_cases k1 : f.1 = 1
     ·have hl : s.2.2.1 = true := by
       cases h : s.2.2.1
       ·exact absurd ⟨k1, h⟩ hk
       ·rfl
      have k2 : f.1 ≠ 2 := by omega
      rw [if_neg k2]
      rw [l9A k2, f8B k2] at so
      unfold i7B
      simp only [c, rd, Option.bind_some, bne_self_eq_false, cond_false, f7B k1, hl, Bool.not_true, cond_true, l9A k2, f8B k2, gr, so]
     ·by_cases k2 : f.1 = 2
      ·rw [if_pos k2]
       rw [f7B k2, b2F k2] at hi
       unfold i7B
       simp only [c, rd, Option.bind_some, bne_self_eq_false, cond_false, l9A k1, cond_true, f7B k2, b2F k2, hi]
      ·rw [if_neg k2]
       rw [l9A k2, f8B k2] at so
       unfold i7B
       simp only [c, rd, Option.bind_some, bne_self_eq_false, cond_false, l9A k1, l9A k2, f8B k2, gr, so]
 ·rw [a0B ok] at c
  have e : g9A s b = p3B 1 := if_neg ok
  rw [e]
  unfold i7B
  simp only [c, Option.bind_some, s3A, cond_true]
  rfl
end Go.Sq
namespace Go.Sq
open Go.Rx
end Go.Sq
