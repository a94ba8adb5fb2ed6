/- Parts of a proof: evaluation of Go code over typed values, and what it computes. -/
import Derived.Test.YtojdkfikpacakaaGreatL3
import Derived.KernelRfl
import Derived.Test.YtojdkfikpacakaaGreatL4
set_option linter.unusedSimpArgs false
set_option linter.unusedVariables false
set_option linter.unusedSectionVars false
namespace Go.Sq
open Go.Rx
def rnd (n : Nat) (v : Int) : Int := (v + 2 ^ (n - 1)) / 2 ^ n
theorem pow_pos2 (n : Nat) : (0 : Int) < 2 ^ n := Int.pow_pos (by decide)
theorem pow_split {n : Nat} (h : 1 ≤ n) : (2 : Int) ^ n = 2 ^ (n - 1) * 2 := by
 obtain ⟨m, rfl⟩ : ∃ m, n = m + 1 := ⟨n - 1, by omega⟩
 rw [Nat.add_sub_cancel, Int.pow_succ]
theorem shr_div {v : Int} {n : Nat} (h : n ≤ 64) : shrI .i64 v (n : Int) = v / 2 ^ n := by
 simp only [shrI, Int.toNat_natCast, show IntKind.i64.bits = 64 from rfl, Nat.min_eq_left h]
 exact Int.fdiv_eq_ediv_of_nonneg _ (Int.le_of_lt (pow_pos2 n))
theorem and1_i64 {x : Int} (h0 : -9223372036854775808 ≤ x) (h1 : x < 9223372036854775808) : bitsI .and .i64 x 1 = x % 2 := by
 show IntKind.i64.wrap (((BitVec.ofInt 64 x &&& BitVec.ofInt 64 1).toNat : Nat) : Int) = _
 have e : (BitVec.ofInt 64 x &&& BitVec.ofInt 64 1).toNat = (x % 2).toNat := by
  rw [BitVec.toNat_and]
  have : (BitVec.ofInt 64 1).toNat = 1 := by decide
  rw [this, Nat.and_one_is_mod, BitVec.toNat_ofInt]
  omega
 rw [e, wrap_i64 (by omega) (by omega)]
 omega
theorem rnd_parts {v : Int} {n : Nat} (h : 1 ≤ n) : rnd n v = v / 2 ^ (n - 1) / 2 + v / 2 ^ (n - 1) % 2 := by
 obtain ⟨m, rfl⟩ : ∃ m, n = m + 1 := ⟨n - 1, by omega⟩
 unfold rnd
 rw [Nat.add_sub_cancel, Int.pow_succ, ← Int.ediv_ediv_of_nonneg (Int.le_of_lt (pow_pos2 m))]
 have e : (v + 2 ^ m) / 2 ^ m = v / 2 ^ m + 1 := by
  have := Int.add_mul_ediv_right v 1 (show (2 : Int) ^ m ≠ 0 from Int.ne_of_gt (pow_pos2 m))
  rwa [Int.one_mul] at this
 rw [e]
 generalize v / 2 ^ m = q
 omega
theorem div_bound {v : Int} {n : Nat} (h0 : -9223372036854775808 ≤ v) (h1 : v < 9223372036854775808) : -9223372036854775808 ≤ v / 2 ^ n ∧ v / 2 ^ n < 9223372036854775808 := by
 have p := pow_pos2 n
 have p1 : (1 : Int) ≤ 2 ^ n := p
 constructor
 ·rcases Int.le_total 0 v with h | h
  ·have := Int.ediv_nonneg h (Int.le_of_lt p); omega
  ·refine Int.le_ediv_of_mul_le p ?_
   have := Int.mul_le_mul_of_nonpos_left (a := (-9223372036854775808 : Int)) (b := 2 ^ n) (c := 1) (by omega) p1
   omega
 ·rcases Int.le_total 0 v with h | h
  ·have := Int.ediv_le_self (b := 2 ^ n) (a := v) h; omega
  ·have : v / 2 ^ n ≤ 0 := by
    have := Int.ediv_le_ediv p h
    rwa [Int.zero_ediv] at this
   omega
theorem fixed_Round_eq {v : Int} {n : Nat} (h : 1 ≤ n) (h2 : n ≤ 62) (h0 : -9223372036854775808 ≤ v) (h1 : v < 9223372036854775808) : g_fixed_Round v (n : Int) = some (rnd n v) := by
 have b := div_bound (n := n - 1) h0 h1
 have e1 : (n : Int) - 1 = ((n - 1 : Nat) : Int) := by omega
 have e2 : v / 2 ^ n = v / 2 ^ (n - 1) / 2 := by
  rw [Int.ediv_ediv_of_nonneg (Int.le_of_lt (pow_pos2 _)), ← pow_split h]
 have d : decide ((n : Int) > 62) = false := decide_eq_false (by omega)
 simp (disch := omega) only [g_fixed_Round, dF, d, cond_false, dT, wrap_i64, e1, shr_div (show n ≤ 64 by omega), shr_div (show n - 1 ≤ 64 by omega), and1_i64 b.1 b.2, e2, rnd_parts h]
theorem shl1_i64 {n : Nat} (h : n ≤ 61) : shlI .i64 1 (n : Int) = 2 ^ n := by
 simp only [shlI, Int.toNat_natCast, show IntKind.i64.bits = 64 from rfl, Nat.min_eq_left (show n ≤ 64 by omega), Int.one_mul]
 have : (2 : Int) ^ n ≤ 2 ^ 61 := by
  have := Nat.pow_le_pow_right (n := 2) (by omega) h
  exact (by exact_mod_cast this)
 have := pow_pos2 n
 rw [wrap_i64 (by omega) (by omega)]
theorem r05_Round_eq {v : Int} {n : Nat} (h : 1 ≤ n) (h2 : n ≤ 62) (h0 : -9223372036854775808 ≤ v) (h1 : v < 9223372036854775808) : g_r05_Round v (n : Int) = some (rnd n v) := by
 have b := div_bound (n := n - 1) h0 h1
 have bn := div_bound (n := n) h0 h1
 have e1 : (n : Int) - 1 = ((n - 1 : Nat) : Int) := by omega
 have e2 : v / 2 ^ n = v / 2 ^ (n - 1) / 2 := by
  rw [Int.ediv_ediv_of_nonneg (Int.le_of_lt (pow_pos2 _)), ← pow_split h]
 have d : decide ((n : Int) > 62) = false := decide_eq_false (by omega)
 have p := pow_pos2 (n - 1)
 have epow := pow_split h
 have m1 := Int.emod_add_mul_ediv v (2 ^ n)
 have m2 := Int.emod_nonneg v (show (2 : Int) ^ n ≠ 0 from Int.ne_of_gt (pow_pos2 n))
 have m3 := Int.emod_lt_of_pos v (pow_pos2 n)
 have m4 : 2 ^ n * (v / 2 ^ n) = v / 2 ^ n * 2 ^ n := Int.mul_comm _ _
 have hshl : shlI .i64 (v / 2 ^ n) (n : Int) = v / 2 ^ n * 2 ^ n := by
  simp only [shlI, Int.toNat_natCast, show IntKind.i64.bits = 64 from rfl, Nat.min_eq_left (show n ≤ 64 by omega)]
  have : (2 : Int) ^ n ≤ 2 ^ 62 := by
   have := Nat.pow_le_pow_right (n := 2) (by omega) h2
   exact (by exact_mod_cast this)
  have hlo : -9223372036854775808 ≤ v / 2 ^ n * 2 ^ n := by
   have hq : -(2 ^ (63 - n) : Int) ≤ v / 2 ^ n := by
    refine Int.le_ediv_of_mul_le (pow_pos2 n) ?_
    have e : (2 : Int) ^ (63 - n) * 2 ^ n = 2 ^ 63 := by rw [← Int.pow_add, Nat.sub_add_cancel (by omega)]
    rw [Int.neg_mul, e]; omega
   have := Int.mul_le_mul_of_nonneg_right hq (Int.le_of_lt (pow_pos2 n))
   have e : (2 : Int) ^ (63 - n) * 2 ^ n = 2 ^ 63 := by rw [← Int.pow_add, Nat.sub_add_cancel (by omega)]
   rw [Int.neg_mul, e] at this
   omega
  exact wrap_i64 hlo (by omega)
 have ws : IntKind.u64.wrap (n : Int) = (n : Int) := wrap_u64 (by omega) (by omega)
 have ws1 : IntKind.u64.wrap ((n - 1 : Nat) : Int) = ((n - 1 : Nat) : Int) := wrap_u64 (by omega) (by omega)
 have hs1 := shl1_i64 (n := n - 1) (by omega)
 have pu : (2 : Int) ^ (n - 1) ≤ 2 ^ 61 := by
  have := Nat.pow_le_pow_right (n := 2) (by omega) (show n - 1 ≤ 61 by omega)
  exact (by exact_mod_cast this)
 have hr : rnd n v = if v - v / 2 ^ n * 2 ^ n ≥ 2 ^ (n - 1) then v / 2 ^ n + 1 else v / 2 ^ n := by
  rw [rnd_parts h]
  have a1 := Int.emod_add_mul_ediv v (2 ^ (n - 1))
  have a2 := Int.emod_nonneg v (show (2 : Int) ^ (n - 1) ≠ 0 from Int.ne_of_gt p)
  have a3 := Int.emod_lt_of_pos v p
  rw [e2, epow] at *
  generalize v / 2 ^ (n - 1) = q at *
  have e3 : 2 ^ (n - 1) * q = 2 ^ (n - 1) * (q / 2 * 2) + 2 ^ (n - 1) * (q % 2) := by rw [← Int.mul_add]; congr 1; omega
  have e4 : q / 2 * (2 ^ (n - 1) * 2) = 2 ^ (n - 1) * (q / 2 * 2) := by rw [← Int.mul_assoc, Int.mul_comm (q / 2), Int.mul_assoc]
  rw [e4]
  rcases Int.emod_two_eq q with h5 | h5
  ·rw [h5, Int.mul_zero] at e3
   rw [if_neg (by omega)]; omega
  ·rw [h5, Int.mul_one] at e3
   rw [if_pos (by omega)]; omega
 rw [hr]
 have hbd : v / 2 ^ n < 9223372036854775807 := by rw [e2]; omega
 by_cases hc : v - v / 2 ^ n * 2 ^ n ≥ 2 ^ (n - 1)
 ·rw [if_pos hc]
  have d2 : decide (v - v / 2 ^ n * 2 ^ n ≥ 2 ^ (n - 1)) = true := decide_eq_true hc
  simp (disch := omega) only [g_r05_Round, dF, d, cond_false, ws, dT, wrap_i64, e1, ws1, shr_div (show n ≤ 64 by omega), hshl, hs1, d2, cond_true, Option.bind_some]
 ·rw [if_neg hc]
  have d2 : decide (v - v / 2 ^ n * 2 ^ n ≥ 2 ^ (n - 1)) = false := decide_eq_false hc
  simp (disch := omega) only [g_r05_Round, dF, d, cond_false, ws, dT, wrap_i64, e1, ws1, shr_div (show n ≤ 64 by omega), hshl, hs1, d2, Option.bind_some]
def sat16 (v : Int) : Int := if -32768 < (if 32767 < v then 32767 else v) then (if 32767 < v then 32767 else v) else -32768
theorem fixed_Sat_eq (v : Int) : g_fixed_Sat v 16 = some (sat16 v) := by kernel_rfl
theorem sat16_range (v : Int) : -32768 ≤ sat16 v ∧ sat16 v ≤ 32767 := by unfold sat16; split <;> split <;> omega
theorem root_576460752303423488 : g_fixed_Sqrt 576460752303423488 = some 759250124 ∧ g_r05_Sqrt 576460752303423488 = some 759250124 := by
 constructor
 ·have e : g_fixed_Sqrt 576460752303423488 = (iter g_fixed_Sqrt_r1 (576460752303423488, 1073741824, ())).bind fun j3 => some j3.1 := by kernel_rfl
  rw [e, iter_n (r := (759250124, ())) 40 (by kernel_rfl)]; rfl
 ·have e : g_r05_Sqrt 576460752303423488 = (iter g_r05_Sqrt_r1 (576460752303423488, 0, 31, ())).bind fun j3 => some j3.1 := by kernel_rfl
  rw [e, iter_n (r := (759250124, ())) 40 (by kernel_rfl)]; rfl
theorem root_984080058811416576 : g_fixed_Sqrt 984080058811416576 = some 992008094 ∧ g_r05_Sqrt 984080058811416576 = some 992008094 := by
 constructor
 ·have e : g_fixed_Sqrt 984080058811416576 = (iter g_fixed_Sqrt_r1 (984080058811416576, 1073741824, ())).bind fun j3 => some j3.1 := by kernel_rfl
  rw [e, iter_n (r := (992008094, ())) 40 (by kernel_rfl)]; rfl
 ·have e : g_r05_Sqrt 984080058811416576 = (iter g_r05_Sqrt_r1 (984080058811416576, 0, 31, ())).bind fun j3 => some j3.1 := by kernel_rfl
  rw [e, iter_n (r := (992008094, ())) 40 (by kernel_rfl)]; rfl
theorem root_168841445795430400 : g_fixed_Sqrt 168841445795430400 = some 410903207 ∧ g_r05_Sqrt 168841445795430400 = some 410903207 := by
 constructor
 ·have e : g_fixed_Sqrt 168841445795430400 = (iter g_fixed_Sqrt_r1 (168841445795430400, 536870912, ())).bind fun j3 => some j3.1 := by kernel_rfl
  rw [e, iter_n (r := (410903207, ())) 40 (by kernel_rfl)]; rfl
 ·have e : g_r05_Sqrt 168841445795430400 = (iter g_r05_Sqrt_r1 (168841445795430400, 0, 31, ())).bind fun j3 => some j3.1 := by kernel_rfl
  rw [e, iter_n (r := (410903207, ())) 40 (by kernel_rfl)]; rfl
theorem root_1109041042440585216 : g_fixed_Sqrt 1109041042440585216 = some 1053110175 ∧ g_r05_Sqrt 1109041042440585216 = some 1053110175 := by
 constructor
 ·have e : g_fixed_Sqrt 1109041042440585216 = (iter g_fixed_Sqrt_r1 (1109041042440585216, 1073741824, ())).bind fun j3 => some j3.1 := by kernel_rfl
  rw [e, iter_n (r := (1053110175, ())) 40 (by kernel_rfl)]; rfl
 ·have e : g_r05_Sqrt 1109041042440585216 = (iter g_r05_Sqrt_r1 (1109041042440585216, 0, 31, ())).bind fun j3 => some j3.1 := by kernel_rfl
  rw [e, iter_n (r := (1053110175, ())) 40 (by kernel_rfl)]; rfl
theorem root_43880462166261760 : g_fixed_Sqrt 43880462166261760 = some 209476638 ∧ g_r05_Sqrt 43880462166261760 = some 209476638 := by
 constructor
 ·have e : g_fixed_Sqrt 43880462166261760 = (iter g_fixed_Sqrt_r1 (43880462166261760, 268435456, ())).bind fun j3 => some j3.1 := by kernel_rfl
  rw [e, iter_n (r := (209476638, ())) 40 (by kernel_rfl)]; rfl
 ·have e : g_r05_Sqrt 43880462166261760 = (iter g_r05_Sqrt_r1 (43880462166261760, 0, 31, ())).bind fun j3 => some j3.1 := by kernel_rfl
  rw [e, iter_n (r := (209476638, ())) 40 (by kernel_rfl)]; rfl
theorem root_1141844972392153088 : g_fixed_Sqrt 1141844972392153088 = some 1068571463 ∧ g_r05_Sqrt 1141844972392153088 = some 1068571463 := by
 constructor
 ·have e : g_fixed_Sqrt 1141844972392153088 = (iter g_fixed_Sqrt_r1 (1141844972392153088, 1073741824, ())).bind fun j3 => some j3.1 := by kernel_rfl
  rw [e, iter_n (r := (1068571463, ())) 40 (by kernel_rfl)]; rfl
 ·have e : g_r05_Sqrt 1141844972392153088 = (iter g_r05_Sqrt_r1 (1141844972392153088, 0, 31, ())).bind fun j3 => some j3.1 := by kernel_rfl
  rw [e, iter_n (r := (1068571463, ())) 40 (by kernel_rfl)]; rfl
theorem root_11076532214693888 : g_fixed_Sqrt 11076532214693888 = some 105245105 ∧ g_r05_Sqrt 11076532214693888 = some 105245105 := by
 constructor
 ·have e : g_fixed_Sqrt 11076532214693888 = (iter g_fixed_Sqrt_r1 (11076532214693888, 134217728, ())).bind fun j3 => some j3.1 := by kernel_rfl
  rw [e, iter_n (r := (105245105, ())) 40 (by kernel_rfl)]; rfl
 ·have e : g_r05_Sqrt 11076532214693888 = (iter g_r05_Sqrt_r1 (11076532214693888, 0, 31, ())).bind fun j3 => some j3.1 := by kernel_rfl
  rw [e, iter_n (r := (105245105, ())) 40 (by kernel_rfl)]; rfl
theorem root_1150145688181407744 : g_fixed_Sqrt 1150145688181407744 = some 1072448454 ∧ g_r05_Sqrt 1150145688181407744 = some 1072448454 := by
 constructor
 ·have e : g_fixed_Sqrt 1150145688181407744 = (iter g_fixed_Sqrt_r1 (1150145688181407744, 1073741824, ())).bind fun j3 => some j3.1 := by kernel_rfl
  rw [e, iter_n (r := (1072448454, ())) 40 (by kernel_rfl)]; rfl
 ·have e : g_r05_Sqrt 1150145688181407744 = (iter g_r05_Sqrt_r1 (1150145688181407744, 0, 31, ())).bind fun j3 => some j3.1 := by kernel_rfl
  rw [e, iter_n (r := (1072448454, ())) 40 (by kernel_rfl)]; rfl
theorem root_2775816425439232 : g_fixed_Sqrt 2775816425439232 = some 52686017 ∧ g_r05_Sqrt 2775816425439232 = some 52686017 := by
 constructor
 ·have e : g_fixed_Sqrt 2775816425439232 = (iter g_fixed_Sqrt_r1 (2775816425439232, 67108864, ())).bind fun j3 => some j3.1 := by kernel_rfl
  rw [e, iter_n (r := (52686017, ())) 40 (by kernel_rfl)]; rfl
 ·have e : g_r05_Sqrt 2775816425439232 = (iter g_r05_Sqrt_r1 (2775816425439232, 0, 31, ())).bind fun j3 => some j3.1 := by kernel_rfl
  rw [e, iter_n (r := (52686017, ())) 40 (by kernel_rfl)]; rfl
def halfL : List (Int × Int) := [(0, 0), (-1073741824, 0), (0, 1073741824), (759250124, 759250124), (992008094, 410903207), (1053110175, 209476638), (1068571463, 105245105), (1072448454, 52686017)]
theorem halves_eq : g_table_halves = some halfL := by
 have e : g_table_halves = (iter g_table_halves_r1 (3, [(0, 0), (-1073741824, 0), (0, 1073741824), (0, 0), (0, 0), (0, 0), (0, 0), (0, 0)], ())).bind fun j4 => some j4.1 := by kernel_rfl
 have r3 : g_table_halves_r1 (3, [(0, 0), (-1073741824, 0), (0, 1073741824), (0, 0), (0, 0), (0, 0), (0, 0), (0, 0)], ()) = some (.inl (4, [(0, 0), (-1073741824, 0), (0, 1073741824), (759250124, 759250124), (0, 0), (0, 0), (0, 0), (0, 0)], ())) := by
  have e1 : g_table_halves_r1 (3, [(0, 0), (-1073741824, 0), (0, 1073741824), (0, 0), (0, 0), (0, 0), (0, 0), (0, 0)], ()) = (g_fixed_Sqrt 576460752303423488).bind fun y2 => (g_fixed_Sqrt 576460752303423488).bind fun y3 => some (Sum.inl (4, ([(0, 0), (-1073741824, 0), (0, 1073741824), (0, 0), (0, 0), (0, 0), (0, 0), (0, 0)] : List (Int × Int)).set 3 (IntKind.i64.wrap y2, IntKind.i64.wrap y3), ())) := by kernel_rfl
  rw [e1, root_576460752303423488.1]; rfl
 have r4 : g_table_halves_r1 (4, [(0, 0), (-1073741824, 0), (0, 1073741824), (759250124, 759250124), (0, 0), (0, 0), (0, 0), (0, 0)], ()) = some (.inl (5, [(0, 0), (-1073741824, 0), (0, 1073741824), (759250124, 759250124), (992008094, 410903207), (0, 0), (0, 0), (0, 0)], ())) := by
  have e1 : g_table_halves_r1 (4, [(0, 0), (-1073741824, 0), (0, 1073741824), (759250124, 759250124), (0, 0), (0, 0), (0, 0), (0, 0)], ()) = (g_fixed_Sqrt 984080058811416576).bind fun y2 => (g_fixed_Sqrt 168841445795430400).bind fun y3 => some (Sum.inl (5, ([(0, 0), (-1073741824, 0), (0, 1073741824), (759250124, 759250124), (0, 0), (0, 0), (0, 0), (0, 0)] : List (Int × Int)).set 4 (IntKind.i64.wrap y2, IntKind.i64.wrap y3), ())) := by kernel_rfl
  rw [e1, root_984080058811416576.1, root_168841445795430400.1]; rfl
 have r5 : g_table_halves_r1 (5, [(0, 0), (-1073741824, 0), (0, 1073741824), (759250124, 759250124), (992008094, 410903207), (0, 0), (0, 0), (0, 0)], ()) = some (.inl (6, [(0, 0), (-1073741824, 0), (0, 1073741824), (759250124, 759250124), (992008094, 410903207), (1053110175, 209476638), (0, 0), (0, 0)], ())) := by
  have e1 : g_table_halves_r1 (5, [(0, 0), (-1073741824, 0), (0, 1073741824), (759250124, 759250124), (992008094, 410903207), (0, 0), (0, 0), (0, 0)], ()) = (g_fixed_Sqrt 1109041042440585216).bind fun y2 => (g_fixed_Sqrt 43880462166261760).bind fun y3 => some (Sum.inl (6, ([(0, 0), (-1073741824, 0), (0, 1073741824), (759250124, 759250124), (992008094, 410903207), (0, 0), (0, 0), (0, 0)] : List (Int × Int)).set 5 (IntKind.i64.wrap y2, IntKind.i64.wrap y3), ())) := by kernel_rfl
  rw [e1, root_1109041042440585216.1, root_43880462166261760.1]; rfl
 have r6 : g_table_halves_r1 (6, [(0, 0), (-1073741824, 0), (0, 1073741824), (759250124, 759250124), (992008094, 410903207), (1053110175, 209476638), (0, 0), (0, 0)], ()) = some (.inl (7, [(0, 0), (-1073741824, 0), (0, 1073741824), (759250124, 759250124), (992008094, 410903207), (1053110175, 209476638), (1068571463, 105245105), (0, 0)], ())) := by
  have e1 : g_table_halves_r1 (6, [(0, 0), (-1073741824, 0), (0, 1073741824), (759250124, 759250124), (992008094, 410903207), (1053110175, 209476638), (0, 0), (0, 0)], ()) = (g_fixed_Sqrt 1141844972392153088).bind fun y2 => (g_fixed_Sqrt 11076532214693888).bind fun y3 => some (Sum.inl (7, ([(0, 0), (-1073741824, 0), (0, 1073741824), (759250124, 759250124), (992008094, 410903207), (1053110175, 209476638), (0, 0), (0, 0)] : List (Int × Int)).set 6 (IntKind.i64.wrap y2, IntKind.i64.wrap y3), ())) := by kernel_rfl
  rw [e1, root_1141844972392153088.1, root_11076532214693888.1]; rfl
 have r7 : g_table_halves_r1 (7, [(0, 0), (-1073741824, 0), (0, 1073741824), (759250124, 759250124), (992008094, 410903207), (1053110175, 209476638), (1068571463, 105245105), (0, 0)], ()) = some (.inl (8, [(0, 0), (-1073741824, 0), (0, 1073741824), (759250124, 759250124), (992008094, 410903207), (1053110175, 209476638), (1068571463, 105245105), (1072448454, 52686017)], ())) := by
  have e1 : g_table_halves_r1 (7, [(0, 0), (-1073741824, 0), (0, 1073741824), (759250124, 759250124), (992008094, 410903207), (1053110175, 209476638), (1068571463, 105245105), (0, 0)], ()) = (g_fixed_Sqrt 1150145688181407744).bind fun y2 => (g_fixed_Sqrt 2775816425439232).bind fun y3 => some (Sum.inl (8, ([(0, 0), (-1073741824, 0), (0, 1073741824), (759250124, 759250124), (992008094, 410903207), (1053110175, 209476638), (1068571463, 105245105), (0, 0)] : List (Int × Int)).set 7 (IntKind.i64.wrap y2, IntKind.i64.wrap y3), ())) := by kernel_rfl
  rw [e1, root_1150145688181407744.1, root_2775816425439232.1]; rfl
 rw [e, iter_inl r3, iter_inl r4, iter_inl r5, iter_inl r6, iter_inl r7, iter_inr (r := (halfL, ())) (by kernel_rfl)]; rfl
end Go.Sq
namespace Go.Sq
open Go.Rx
abbrev Pt := Int × Int
def trn (p q : Pt) : Pt := (rnd 30 (p.1 * q.1 - p.2 * q.2), rnd 30 (p.1 * q.2 + p.2 * q.1))
def pS (m : Nat) : Nat → Pt
 | 0 => (1073741824, 0)
 | i + 1 => if (m : Int) / 2 ^ (6 - i) % 2 = 1 then trn (pS m i) (halfL.getD (i + 1) (0, 0)) else pS m i
theorem pt_tight : ∀ m, m < 128 → ∀ i, i < 8 → (decide (-1082130432 ≤ (pS m i).1) && decide ((pS m i).1 ≤ 1082130432) && decide (-1082130432 ≤ (pS m i).2) && decide ((pS m i).2 ≤ 1082130432)) = true := by decide +kernel
theorem half_tight : ∀ i, i < 8 → (decide (-1073741824 ≤ (halfL.getD i (0, 0)).1) && decide ((halfL.getD i (0, 0)).1 ≤ 1073741824) && decide (-1073741824 ≤ (halfL.getD i (0, 0)).2) && decide ((halfL.getD i (0, 0)).2 ≤ 1073741824)) = true := by decide +kernel
theorem mul_tight {a b : Int} (h : -1082130432 ≤ a ∧ a ≤ 1082130432) (h' : -1073741824 ≤ b ∧ b ≤ 1073741824) : -1161928703861587968 ≤ a * b ∧ a * b ≤ 1161928703861587968 := by
 have h1 : a.natAbs ≤ 1082130432 := by omega
 have h2 : b.natAbs ≤ 1073741824 := by omega
 have h3 : (a * b).natAbs ≤ 1082130432 * 1073741824 := by rw [Int.natAbs_mul]; exact Nat.mul_le_mul h1 h2
 omega
theorem pS_range {m i : Nat} (hm : m < 128) (hi : i < 8) : (-1082130432 ≤ (pS m i).1 ∧ (pS m i).1 ≤ 1082130432) ∧ (-1082130432 ≤ (pS m i).2 ∧ (pS m i).2 ≤ 1082130432) := by
 have := pt_tight m hm i hi
 simpa [and_assoc] using this
theorem half_range {i : Nat} (hi : i < 8) : (-1073741824 ≤ (halfL.getD i (0, 0)).1 ∧ (halfL.getD i (0, 0)).1 ≤ 1073741824) ∧ (-1073741824 ≤ (halfL.getD i (0, 0)).2 ∧ (halfL.getD i (0, 0)).2 ≤ 1073741824) := by
 have := half_tight i hi
 simpa [and_assoc] using this
theorem trn_eq {m i : Nat} (hm : m < 128) (hi : i < 7) : g_table_point_turned (pS m i) (halfL.getD (i + 1) (0, 0)) = some (trn (pS m i) (halfL.getD (i + 1) (0, 0))) := by
 obtain ⟨a1, a2⟩ := pS_range hm (show i < 8 by omega)
 obtain ⟨b1, b2⟩ := half_range (show i + 1 < 8 by omega)
 generalize pS m i = p at *
 generalize halfL.getD (i + 1) (0, 0) = q at *
 have m1 := mul_tight a1 b1
 have m2 := mul_tight a2 b2
 have m3 := mul_tight a1 b2
 have m4 := mul_tight a2 b1
 have r1 := fixed_Round_eq (v := p.1 * q.1 - p.2 * q.2) (n := 30) (by omega) (by omega) (by omega) (by omega)
 have r2 := fixed_Round_eq (v := p.1 * q.2 + p.2 * q.1) (n := 30) (by omega) (by omega) (by omega) (by omega)
 have r1 : g_fixed_Round (p.1 * q.1 - p.2 * q.2) 30 = _ := r1
 have r2 : g_fixed_Round (p.1 * q.2 + p.2 * q.1) 30 = _ := r2
 simp (disch := omega) only [g_table_point_turned, wrap_i64, r1, r2, Option.bind_some]
 rfl
theorem bit_at {m k : Nat} (hm : m < 128) (hk : k < 7) : bitsI .and .i64 (shrI .i64 (m : Int) (7 - ((k : Int) + 1))) 1 = (m : Int) / 2 ^ (6 - k) % 2 := by
 have e : (7 : Int) - ((k : Int) + 1) = ((6 - k : Nat) : Int) := by omega
 have b := div_bound (v := (m : Int)) (n := 6 - k) (by omega) (by omega)
 rw [e, shr_div (by omega), and1_i64 b.1 b.2]
def ptT : List Pt := tab6 (fun m => pS m 7) 128
theorem z128 : (List.replicate 128 ((0, 0) : Pt)).length = 128 := List.length_replicate
theorem row_points : iter g_table_Row_r2 (0, List.replicate 128 (0, 0), halfL, ()) = some (ptT, ()) := by
 have inner : ∀ m : Nat, m < 128 → ∀ out, iter g_table_Row_r1 ((m : Int), 1, (m : Int), out, halfL, (1073741824, 0), ()) = some ((m : Int), (m : Int), out, halfL, pS m 7, ()) := fun m hm out => by
  have h := iter_count (f := g_table_Row_r1) (fun k => ((m : Int), ((k : Int) + 1), (m : Int), out, halfL, pS m k, ())) 7 (r := ((m : Int), (m : Int), out, halfL, pS m 7, ())) (fun k hk => by
   have eb := bit_at hm hk
   have ek : ((k : Int) + 1).toNat = k + 1 := by omega
   by_cases hb : (m : Int) / 2 ^ (6 - k) % 2 = 1
   ·have hp : pS m (k + 1) = trn (pS m k) (halfL.getD (k + 1) (0, 0)) := if_pos hb
    simp (disch := omega) only [g_table_Row_r1, dT, wrap_i64, eb, eT, wT, ek, trn_eq hm hk, Option.bind_some, hp]
    rfl
   ·have hp : pS m (k + 1) = pS m k := if_neg hb
    simp (disch := omega) only [g_table_Row_r1, dT, wrap_i64, eb, eF, Option.bind_some, hp]
    rfl) (by simp (disch := omega) only [g_table_Row_r1, dF])
  exact h
 have := iter_count (f := g_table_Row_r2) (fun m => ((m : Int), fillN (fun m => pS m 7) m (List.replicate 128 (0, 0)), halfL, ())) 128 (r := (fillN (fun m => pS m 7) 128 (List.replicate 128 (0, 0)), ())) (fun m hm => by
  simp (disch := omega) only [g_table_Row_r2, dT, inner m hm, Option.bind_some, wT, Int.toNat_natCast, wrap_succ, fill_step]) (by simp (disch := omega) only [g_table_Row_r2, dF])
 rw [fillN_eq z128] at this
 exact this
theorem at_points : iter g_table_at_r2 (0, List.replicate 128 (0, 0), halfL, ()) = some (ptT, ()) := by
 have inner : ∀ m : Nat, m < 128 → ∀ out, iter g_table_at_r1 ((m : Int), 1, (m : Int), out, halfL, (1073741824, 0), ()) = some ((m : Int), (m : Int), out, halfL, pS m 7, ()) := fun m hm out => by
  have h := iter_count (f := g_table_at_r1) (fun k => ((m : Int), ((k : Int) + 1), (m : Int), out, halfL, pS m k, ())) 7 (r := ((m : Int), (m : Int), out, halfL, pS m 7, ())) (fun k hk => by
   have eb := bit_at hm hk
   have ek : ((k : Int) + 1).toNat = k + 1 := by omega
   by_cases hb : (m : Int) / 2 ^ (6 - k) % 2 = 1
   ·have hp : pS m (k + 1) = trn (pS m k) (halfL.getD (k + 1) (0, 0)) := if_pos hb
    simp (disch := omega) only [g_table_at_r1, dT, wrap_i64, eb, eT, wT, ek, trn_eq hm hk, Option.bind_some, hp]
    rfl
   ·have hp : pS m (k + 1) = pS m k := if_neg hb
    simp (disch := omega) only [g_table_at_r1, dT, wrap_i64, eb, eF, Option.bind_some, hp]
    rfl) (by simp (disch := omega) only [g_table_at_r1, dF])
  exact h
 have := iter_count (f := g_table_at_r2) (fun m => ((m : Int), fillN (fun m => pS m 7) m (List.replicate 128 (0, 0)), halfL, ())) 128 (r := (fillN (fun m => pS m 7) 128 (List.replicate 128 (0, 0)), ())) (fun m hm => by
  simp (disch := omega) only [g_table_at_r2, dT, inner m hm, Option.bind_some, wT, Int.toNat_natCast, wrap_succ, fill_step]) (by simp (disch := omega) only [g_table_at_r2, dF])
 rw [fillN_eq z128] at this
 exact this
theorem and127 : ∀ a : Nat, a < 128 → bitsI .and .i64 (a : Int) 127 = (a : Int) := by decide +kernel
theorem at_eq {m : Nat} (hm : m < 128) : g_table_at (m : Int) = some (pS m 7) := by
 have e := and127 m hm
 have g : ptT.getD m (0, 0) = pS m 7 := tab6_get _ _ _ _ hm
 simp (disch := omega) only [g_table_at, halves_eq, Option.bind_some, at_points, e, wT, Int.toNat_natCast, g]
def cosF (m : Nat) : Int := rnd 6 (pS m 7).1
def sinF (m : Nat) : Int := rnd 6 (pS m 7).2
def WF (n : Nat) : Int := sinF (2 * n + 1)
def KF (n k : Nat) : Int := cosF ((2 * n + 17) * (2 * k + 1) % 128)
theorem round6 {m : Nat} (hm : m < 128) : g_fixed_Round (pS m 7).1 6 = some (cosF m) ∧ g_fixed_Round (pS m 7).2 6 = some (sinF m) ∧ g_r05_Round (pS m 7).1 6 = some (cosF m) ∧ g_r05_Round (pS m 7).2 6 = some (sinF m) := by
 obtain ⟨a1, a2⟩ := pS_range hm (show 7 < 8 by omega)
 exact ⟨fixed_Round_eq (n := 6) (by omega) (by omega) (by omega) (by omega), fixed_Round_eq (n := 6) (by omega) (by omega) (by omega) (by omega),
  r05_Round_eq (n := 6) (by omega) (by omega) (by omega) (by omega), r05_Round_eq (n := 6) (by omega) (by omega) (by omega) (by omega)⟩
theorem circ_range {m : Nat} (hm : m < 128) : (-16908289 ≤ cosF m ∧ cosF m ≤ 16908289) ∧ (-16908289 ≤ sinF m ∧ sinF m ≤ 16908289) := by
 obtain ⟨a1, a2⟩ := pS_range hm (show 7 < 8 by omega)
 unfold cosF sinF rnd
 simp only [Nat.reduceSub, Int.reducePow]
 omega
theorem Sin_eq {m : Nat} (hm : m < 128) : g_table_Sin (m : Int) = some (sinF m) := by
 simp only [g_table_Sin, at_eq hm, Option.bind_some, (round6 hm).2.1]
theorem Window_eq {n : Nat} (hn : n < 32) : g_table_Window (n : Int) = some (WF n, 0) := by
 have d : decide ((n : Int) ≥ 32) = false := decide_eq_false (by omega)
 have e : (2 : Int) * (n : Int) + 1 = ((2 * n + 1 : Nat) : Int) := by omega
 simp (disch := omega) only [g_table_Window, dF, d, Option.bind_some, cond_false, wrap_i64, e, Sin_eq (show 2 * n + 1 < 128 by omega)]
 rfl
theorem kern_eq {n k : Nat} (hn : n < 32) (hk : k < 16) : g_table_kernel (n : Int) (k : Int) = some (((2 * n + 17) * (2 * k + 1) : Nat) : Int) := by
 have h1 : (2 * n + 17) * (2 * k + 1) ≤ 79 * 31 := Nat.mul_le_mul (by omega) (by omega)
 have e : ((2 : Int) * (n : Int) + 16 + 1) * (2 * (k : Int) + 1) = (((2 * n + 17) * (2 * k + 1) : Nat) : Int) := by
  rw [Int.natCast_mul]; congr 1 <;> omega
 have w1 : IntKind.i64.wrap (((2 : Int) * (n : Int) + 16 + 1) * (2 * (k : Int) + 1)) = (((2 * n + 17) * (2 * k + 1) : Nat) : Int) := by rw [e, wrap_i64 (by omega) (by omega)]
 unfold g_table_kernel
 rw [wrap_i64 (n := (2 : Int) * (n : Int)) (by omega) (by omega), wrap_i64 (n := (2 : Int) * (n : Int) + 16) (by omega) (by omega), wrap_i64 (n := (2 : Int) * (n : Int) + 16 + 1) (by omega) (by omega), wrap_i64 (n := (2 : Int) * (k : Int)) (by omega) (by omega), wrap_i64 (n := (2 : Int) * (k : Int) + 1) (by omega) (by omega), w1]
theorem Row_eq {k : Nat} (hk : k < 16) : g_table_Row (k : Int) = some (tab6 (fun n => KF n k) 32, 0) := by
 have d : decide ((k : Int) ≥ 16) = false := decide_eq_false (by omega)
 have z32 : (List.replicate 32 (0 : Int)).length = 32 := List.length_replicate
 have loop := iter_count (f := g_table_Row_r3) (fun n => ((k : Int), fillN (fun n => KF n k) n (List.replicate 32 0), 32, (n : Int), ptT, ())) 32 (r := (fillN (fun n => KF n k) 32 (List.replicate 32 0), ())) (fun n hn => by
  have e : ((((2 * n + 17) * (2 * k + 1) : Nat) : Int)).tmod 128 = (((2 * n + 17) * (2 * k + 1) % 128 : Nat) : Int) := rfl
  have hm : (2 * n + 17) * (2 * k + 1) % 128 < 128 := Nat.mod_lt _ (by omega)
  have g : ptT.getD ((2 * n + 17) * (2 * k + 1) % 128) (0, 0) = pS ((2 * n + 17) * (2 * k + 1) % 128) 7 := tab6_get _ _ _ _ hm
  simp (disch := omega) only [g_table_Row_r3, dT, kern_eq hn hk, Option.bind_some, e, wT, Int.toNat_natCast, g, (round6 hm).1, fillN_len, z32, wrap_succ, fill_step]
  rfl) (by simp (disch := omega) only [g_table_Row_r3, dF])
 rw [fillN_eq z32] at loop
 have hroom : (decide ((0 : Int) ≤ 32) && decide ((32 : Int) ≤ 32) && room 8 32) = true := by decide
 simp (disch := omega) only [g_table_Row, dF, d, Option.bind_some, cond_false, halves_eq, row_points]
 refine (cT hroom).trans ?_
 rw [z32]
 refine (congrArg (fun o => Option.bind o _) loop).trans ?_
 rfl
def winL : List Int := tab6 WF 32
def rowL : List (List Int) := tab6 (fun k => tab6 (fun n => KF n k) 32) 16
theorem shaped_eq : g_lapped_shaped = some ((winL, rowL), 0) := by
 have z32 : (List.replicate 32 (0 : Int)).length = 32 := List.length_replicate
 have z16 : (List.replicate 16 ([] : List Int)).length = 16 := List.length_replicate
 have l1 := iter_count (f := g_lapped_shaped_r1) (fun n => ((n : Int), (fillN WF n (List.replicate 32 0), List.replicate 16 []), ())) 32 (r := .inl ((fillN WF 32 (List.replicate 32 0), List.replicate 16 []), ())) (fun n hn => by
  simp (disch := omega) only [g_lapped_shaped_r1, dT, Window_eq hn, Option.bind_some, wT, nF, Int.toNat_natCast, wrap_succ, fill_step]) (by simp (disch := omega) only [g_lapped_shaped_r1, dF])
 rw [fillN_eq z32] at l1
 have l2 := iter_count (f := g_lapped_shaped_r2) (fun k => ((k : Int), (winL, fillN (fun k => tab6 (fun n => KF n k) 32) k (List.replicate 16 [])), ())) 16 (r := .inl ((winL, fillN (fun k => tab6 (fun n => KF n k) 32) 16 (List.replicate 16 [])), ())) (fun k hk => by
  simp (disch := omega) only [g_lapped_shaped_r2, dT, Row_eq hk, Option.bind_some, wT, nF, Int.toNat_natCast, wrap_succ, fill_step]) (by simp (disch := omega) only [g_lapped_shaped_r2, dF])
 rw [fillN_eq z16] at l2
 unfold g_lapped_shaped
 rw [show iter g_lapped_shaped_r1 (0, (List.replicate 32 0, List.replicate 16 []), ()) = _ from l1]
 simp only [Option.bind_some]
 rw [show iter g_lapped_shaped_r2 (0, (tab6 WF 32, List.replicate 16 []), ()) = _ from l2]
 rfl
end Go.Sq
namespace Go.Sq
open Go.Rx
section
variable {α : Type}
def mix (g h : Nat → α) (i : Nat) : Nat → α := fun j => if j < i then g j else h j
theorem mix_set {g h : Nat → α} {n i : Nat} (d : α) (hi : i < n) : (tab6 (mix g h i) n).set i (g i) = tab6 (mix g h (i + 1)) n := by
 refine list_ext_getD d (by rw [List.length_set, tab6_len, tab6_len]) fun j hj => ?_
 rw [List.length_set, tab6_len] at hj
 rw [set_getD _ _ _ _ _ (by rw [tab6_len]; exact hi), tab6_get _ _ _ _ hj, tab6_get _ _ _ _ hj]
 unfold mix
 by_cases h1 : j = i
 ·subst h1; rw [if_pos rfl, if_pos (by omega)]
 ·rw [if_neg h1]
  by_cases h2 : j < i
  ·rw [if_pos h2, if_pos (by omega)]
  ·rw [if_neg h2, if_neg (by omega)]
theorem mix_get {g h : Nat → α} {n i : Nat} (d : α) (hi : i < n) : (tab6 (mix g h i) n).getD i d = h i := by
 rw [tab6_get _ _ _ _ hi]; exact if_neg (by omega)
theorem mix_zero (g h : Nat → α) (n : Nat) : tab6 (mix g h 0) n = tab6 h n := rfl
theorem tab6_congr {g h : Nat → α} {n : Nat} (e : ∀ i, i < n → g i = h i) : tab6 g n = tab6 h n :=
 List.map_congr_left fun i hi => e i (List.mem_range.1 hi)
theorem mix_all (g h : Nat → α) (n : Nat) : tab6 (mix g h n) n = tab6 g n := tab6_congr fun _ hi => if_pos hi
end
def bndP (B : Int) (n : Nat) (l : List Int) : Prop := ∀ i, i < n → -B ≤ l.getD i 0 ∧ l.getD i 0 ≤ B
instance (B : Int) (n : Nat) (l : List Int) : Decidable (bndP B n l) := by unfold bndP; infer_instance
theorem bnd_loop {X : Type} {f : X → Option (X ⊕ (Unit ⊕ (Bool × Unit)))} (st : Nat → X) (l : List Int) (B : Int) (n : Nat)
  (ok : ∀ i, i < n → -B ≤ l.getD i 0 ∧ l.getD i 0 ≤ B → f (st i) = some (.inl (st (i + 1))))
  (bad : ∀ i, i < n → ¬ (-B ≤ l.getD i 0 ∧ l.getD i 0 ≤ B) → f (st i) = some (.inr (.inr (false, ()))))
  (fin : f (st n) = some (.inr (.inl ()))) :
  iter f (st 0) = some (if bndP B n l then .inl () else .inr (false, ())) := by
 rcases first_not (fun i => -B ≤ l.getD i 0 ∧ l.getD i 0 ≤ B) n with h | ⟨k, hk, h, h'⟩
 ·rw [if_pos (show bndP B n l from h)]
  exact iter_count st n (fun i hi => ok i hi (h i hi)) fin
 ·rw [if_neg fun hb : bndP B n l => h' (hb k hk)]
  exact iter_count st k (fun i hi => ok i (by omega) (h i hi)) (bad k hk h')
theorem bounded_eq {l : List Int} {n : Nat} (hl : l.length = n) (hn : n < 1000) {B : Int} (h0 : 0 ≤ B) (h1 : B < 9000000000000000000) : g_lapped_bounded ((l.drop 0).take n) B = some (decide (bndP B n l)) := by
 have e : (l.drop 0).take n = l := by rw [List.drop_zero, ← hl, List.take_length]
 rw [e]
 have h := bnd_loop (f := g_lapped_bounded_r1) (fun i => (B, l, (n : Int), (i : Int), ())) l B n (fun i hi hb => by
   have d2 : decide (l.getD i 0 > B) = false := decide_eq_false (by omega)
   simp (disch := omega) only [g_lapped_bounded_r1, dT, wT, Int.toNat_natCast, wrap_i64, dF, d2, Option.bind_some, cond_false]; rfl)
  (fun i hi hb => by
   by_cases h2 : l.getD i 0 < 0 - B
   ·simp (disch := omega) only [g_lapped_bounded_r1, dT, wT, Int.toNat_natCast, wrap_i64, Option.bind_some, cond_true]
   ·have d2 : decide (l.getD i 0 > B) = true := decide_eq_true (by omega)
    simp (disch := omega) only [g_lapped_bounded_r1, dT, wT, Int.toNat_natCast, wrap_i64, dF, d2, Option.bind_some, cond_true])
  (by simp (disch := omega) only [g_lapped_bounded_r1, dF])
 unfold g_lapped_bounded
 rw [hl, show iter g_lapped_bounded_r1 (B, l, (n : Int), 0, ()) = _ from h]
 by_cases hb : bndP B n l
 ·rw [if_pos hb, decide_eq_true hb]; rfl
 ·rw [if_neg hb, decide_eq_false hb]; rfl
def dotP (x : List Int) (n : Nat) : Nat → Int
 | 0 => 0
 | k + 1 => dotP x n k + x.getD k 0 * KF n k
theorem mul_bd {a b A B : Int} (h : -A ≤ a ∧ a ≤ A) (h' : -B ≤ b ∧ b ≤ B) : -(A * B) ≤ a * b ∧ a * b ≤ A * B := by
 have h1 : a.natAbs ≤ A.toNat := by omega
 have h2 : b.natAbs ≤ B.toNat := by omega
 have h3 : (a * b).natAbs ≤ A.toNat * B.toNat := by rw [Int.natAbs_mul]; exact Nat.mul_le_mul h1 h2
 have e : ((A.toNat * B.toNat : Nat) : Int) = A * B := by rw [Int.natCast_mul, Int.toNat_of_nonneg (by omega), Int.toNat_of_nonneg (by omega)]
 omega
theorem KF_range {n k : Nat} : -16908289 ≤ KF n k ∧ KF n k ≤ 16908289 := (circ_range (Nat.mod_lt _ (by omega))).1
theorem WF_range {n : Nat} (hn : n < 32) : -16908289 ≤ WF n ∧ WF n ≤ 16908289 := (circ_range (by omega)).2
theorem xk_range {x : List Int} (hx : bndP 67108864 16 x) {n k : Nat} (hk : k < 16) : -1134696066973696 ≤ x.getD k 0 * KF n k ∧ x.getD k 0 * KF n k ≤ 1134696066973696 := by
 have := mul_bd (hx k hk) (KF_range (n := n) (k := k))
 omega
theorem dot_range {x : List Int} (hx : bndP 67108864 16 x) {n : Nat} : ∀ k : Nat, k ≤ 16 → -(1134696066973696 * (k : Int)) ≤ dotP x n k ∧ dotP x n k ≤ 1134696066973696 * (k : Int)
 | 0, _ => by show _ ≤ (0 : Int) ∧ (0 : Int) ≤ _; omega
 | k + 1, hk => by
  have ih := dot_range hx (n := n) k (by omega)
  have h := xk_range hx (n := n) (show k < 16 by omega)
  simp only [dotP]
  omega
def r20 (x : List Int) (n : Nat) : Int := rnd 20 (dotP x n 16)
def invS (x : List Int) (n : Nat) : Int := rnd 27 (r20 x n * WF n)
def invL (x : List Int) : List Int := tab6 (invS x) 32
theorem r20_range {x : List Int} (hx : bndP 67108864 16 x) {n : Nat} : -17314087937 ≤ r20 x n ∧ r20 x n ≤ 17314087937 := by
 have := dot_range hx (n := n) 16 (by omega)
 unfold r20 rnd
 simp only [Nat.reduceSub, Int.reducePow]
 omega
theorem r20w_range {x : List Int} (hx : bndP 67108864 16 x) {n : Nat} (hn : n < 32) : -292751602610209793 ≤ r20 x n * WF n ∧ r20 x n * WF n ≤ 292751602610209793 := by
 have := mul_bd (r20_range hx (n := n)) (WF_range hn)
 omega
theorem invS_range {x : List Int} (hx : bndP 67108864 16 x) {n : Nat} (hn : n < 32) : -2200000000 ≤ invS x n ∧ invS x n ≤ 2200000000 := by
 have := r20w_range hx hn
 unfold invS rnd
 simp only [Nat.reduceSub, Int.reducePow]
 omega
theorem invL_may {x : List Int} (hx : bndP 67108864 16 x) : bndP 1099511627776 32 (invL x) := fun i hi => by
 have := invS_range hx hi
 rw [show (invL x).getD i 0 = invS x i from tab6_get _ _ _ _ hi]
 omega
theorem rows_get {k : Nat} (hk : k < 16) : rowL.getD k [] = tab6 (fun n => KF n k) 32 := tab6_get _ _ _ _ hk
theorem inv_row {x : List Int} (hx : bndP 67108864 16 x) {k : Nat} (hk : k < 16) :
  iter g_lapped_Inverse_r1 ((k : Int), rowL, (k : Int), tab6 (fun n => KF n k) 32, 32, 0, x, tab6 (fun n => dotP x n k) 32, (winL, rowL), ())
   = some (rowL, (k : Int), x, tab6 (fun n => dotP x n (k + 1)) 32, (winL, rowL), ()) := by
 have h := iter_count (f := g_lapped_Inverse_r1) (fun n : Nat => ((k : Int), rowL, (k : Int), tab6 (fun n => KF n k) 32, 32, (n : Int), x, tab6 (mix (fun n => dotP x n (k + 1)) (fun n => dotP x n k) n) 32, (winL, rowL), ())) 32
  (r := (rowL, (k : Int), x, tab6 (mix (fun n => dotP x n (k + 1)) (fun n => dotP x n k) 32) 32, (winL, rowL), ())) (fun n hn => by
   have g1 : (tab6 (fun n => KF n k) 32).getD n 0 = KF n k := tab6_get _ _ _ _ hn
   have g2 : (tab6 (mix (fun n => dotP x n (k + 1)) (fun n => dotP x n k) n) 32).getD n 0 = dotP x n k := mix_get _ hn
   have a := xk_range hx (n := n) hk
   have b := dot_range hx (n := n) k (by omega)
   have s : (tab6 (mix (fun n => dotP x n (k + 1)) (fun n => dotP x n k) n) 32).set n (dotP x n k + x.getD k 0 * KF n k) = _ := mix_set 0 hn
   simp (disch := omega) only [g_lapped_Inverse_r1, dT, wT, tab6_len, Int.toNat_natCast, g1, g2, wrap_i64, s]
   rfl) (by simp (disch := omega) only [g_lapped_Inverse_r1, dF])
 rw [mix_all] at h
 exact h
theorem lapped_Inverse_ok {x : List Int} (hl : x.length = 16) (hx : bndP 67108864 16 x) : g_lapped_Inverse x = some (invL x, 0) := by
 have l2 := iter_count (f := g_lapped_Inverse_r2) (fun k : Nat => (rowL, (k : Int), x, tab6 (fun n => dotP x n k) 32, (winL, rowL), ())) 16 (r := (tab6 (fun n => dotP x n 16) 32, (winL, rowL), ())) (fun k hk => by
  have e : ((tab6 (fun n => KF n k) 32).length : Int) = 32 := by rw [tab6_len]; rfl
  simp (disch := omega) only [g_lapped_Inverse_r2, dT, wT, Int.toNat_natCast, rows_get hk, e, inv_row hx hk, Option.bind_some, wrap_succ]) (by simp (disch := omega) only [g_lapped_Inverse_r2, dF])
 have l3 := iter_count (f := g_lapped_Inverse_r3) (fun n : Nat => ((n : Int), tab6 (mix (invS x) (fun n : Nat => dotP x n 16) n) 32, (winL, rowL), ())) 32 (r := (tab6 (mix (invS x) (fun n => dotP x n 16) 32) 32, ())) (fun n hn => by
  have g2 : (tab6 (mix (invS x) (fun n => dotP x n 16) n) 32).getD n 0 = dotP x n 16 := mix_get _ hn
  have g1 : winL.getD n 0 = WF n := tab6_get _ _ _ _ hn
  have b := dot_range hx (n := n) 16 (by omega)
  have a1 : g_fixed_Round (dotP x n 16) 20 = some (r20 x n) := fixed_Round_eq (n := 20) (by omega) (by omega) (by omega) (by omega)
  have b2 := r20w_range hx hn
  have a2 : g_fixed_Round (r20 x n * WF n) 27 = some (invS x n) := fixed_Round_eq (n := 27) (by omega) (by omega) (by omega) (by omega)
  have s : (tab6 (mix (invS x) (fun n => dotP x n 16) n) 32).set n (invS x n) = _ := mix_set 0 hn
  simp (disch := omega) only [g_lapped_Inverse_r3, dT, wT, Int.toNat_natCast, g1, g2, a1, Option.bind_some, wrap_i64, a2, s]
  rfl) (by simp (disch := omega) only [g_lapped_Inverse_r3, dF])
 rw [mix_all] at l3
 unfold g_lapped_Inverse
 simp only [bounded_eq hl (by omega) (show (0 : Int) ≤ 67108864 by omega) (by omega), decide_eq_true hx, Option.bind_some, Bool.not_true, cond_false, shaped_eq, bne_self_eq_false]
 rw [show iter g_lapped_Inverse_r2 (rowL, 0, x, List.replicate 32 0, (winL, rowL), ()) = _ from l2]
 simp only [Option.bind_some]
 rw [show iter g_lapped_Inverse_r3 (0, tab6 (fun n => dotP x n 16) 32, (winL, rowL), ()) = _ from l3]
 rfl
def lapS (t w : List Int) (i : Nat) : Int := sat16 (rnd 8 (t.getD i 0 + w.getD i 0))
def lapP (t w : List Int) : List Int := tab6 (lapS t w) 16
def lapT (w : List Int) : List Int := tab6 (fun i => w.getD (16 + i) 0) 16
theorem lapped_Lap_ok {t w : List Int} (ht : t.length = 16) (hw : w.length = 32) (bt : bndP 1099511627776 16 t) (bw : bndP 1099511627776 32 w) : g_lapped_Lap t w = some (lapP t w, (lapT w, 0)) := by
 have z16 : (List.replicate 16 (0 : Int)).length = 16 := List.length_replicate
 have l1 := iter_count (f := g_lapped_Lap_r1) (fun i : Nat => ((i : Int), t, w, fillN (lapS t w) i (List.replicate 16 0), List.replicate 16 0, ())) 16 (r := (w, fillN (lapS t w) 16 (List.replicate 16 0), List.replicate 16 0, ())) (fun i hi => by
  have b1 := bt i hi
  have b2 := bw i (by omega)
  have a1 : g_fixed_Round (t.getD i 0 + w.getD i 0) 8 = some (rnd 8 (t.getD i 0 + w.getD i 0)) := fixed_Round_eq (n := 8) (by omega) (by omega) (by omega) (by omega)
  simp (disch := omega) only [g_lapped_Lap_r1, dT, wT, Int.toNat_natCast, wrap_i64, a1, fixed_Sat_eq, Option.bind_some, fill_step]
  rfl) (by simp (disch := omega) only [g_lapped_Lap_r1, dF])
 rw [fillN_eq z16] at l1
 have e : copyL (List.replicate 16 0) 0 (((w.drop 16).take 16).take 16) = lapT w := by
  have e1 : ((w.drop 16).take 16).take 16 = w.drop 16 := by
   rw [List.take_take, Nat.min_self, List.take_of_length_le (by rw [List.length_drop]; omega)]
  have e2 : (w.drop 16).length = 16 := by rw [List.length_drop]; omega
  rw [e1]
  simp only [copyL, List.take_zero, List.nil_append, e2, Nat.zero_add, List.drop_replicate, Nat.sub_self, List.replicate_zero, List.append_nil]
  refine list_ext_getD 0 (by rw [e2]; exact (tab6_len _ _).symm) fun i hi => ?_
  rw [e2] at hi
  rw [show (lapT w).getD i 0 = w.getD (16 + i) 0 from tab6_get _ _ _ _ hi]
  simp [List.getD_eq_getElem?_getD, List.getElem?_drop]
 unfold g_lapped_Lap
 simp only [bounded_eq ht (by omega) (show (0 : Int) ≤ 1099511627776 by omega) (by omega), bounded_eq hw (by omega) (show (0 : Int) ≤ 1099511627776 by omega) (by omega), decide_eq_true bt, decide_eq_true bw, Option.bind_some, Bool.not_true, cond_false]
 rw [show iter g_lapped_Lap_r1 (0, t, w, List.replicate 16 0, List.replicate 16 0, ()) = _ from l1]
 simp only [Option.bind_some, e]
 rfl
theorem lapped_Lap_bad {t w : List Int} (ht : t.length = 16) (hw : w.length = 32) (bt : ¬ (bndP 1099511627776 16 t ∧ bndP 1099511627776 32 w)) : g_lapped_Lap t w = some (List.replicate 16 0, (List.replicate 16 0, 1)) := by
 unfold g_lapped_Lap
 by_cases h : bndP 1099511627776 16 t
 ·have h2 : ¬ bndP 1099511627776 32 w := fun h2 => bt ⟨h, h2⟩
  simp only [bounded_eq ht (by omega) (show (0 : Int) ≤ 1099511627776 by omega) (by omega), bounded_eq hw (by omega) (show (0 : Int) ≤ 1099511627776 by omega) (by omega), decide_eq_true h, decide_eq_false h2, Option.bind_some, Bool.not_true, Bool.not_false, cond_false, cond_true]
 ·simp only [bounded_eq ht (by omega) (show (0 : Int) ≤ 1099511627776 by omega) (by omega), decide_eq_false h, Option.bind_some, Bool.not_false, cond_true]
theorem lapT_len (w : List Int) : (lapT w).length = 16 := tab6_len _ _
theorem invL_len (w : List Int) : (invL w).length = 32 := tab6_len _ _
theorem lapT_may {w : List Int} (h : bndP 1099511627776 32 w) : bndP 1099511627776 16 (lapT w) := fun i hi => by
 rw [show (lapT w).getD i 0 = w.getD (16 + i) 0 from tab6_get _ _ _ _ hi]
 exact h _ (by omega)
end Go.Sq
namespace Go.Sq
open Go.Rx
theorem mix_keep {α : Type} {g h : Nat → α} {n i : Nat} (e : g i = h i) : tab6 (mix g h i) n = tab6 (mix g h (i + 1)) n := tab6_congr fun j _ => by
 unfold mix
 by_cases h1 : j = i
 ·subst h1; rw [if_neg (by omega), if_pos (by omega)]; exact e.symm
 ·by_cases h2 : j < i
  ·rw [if_pos h2, if_pos (by omega)]
  ·rw [if_neg h2, if_neg (by omega)]
theorem rep_tab (n : Nat) : List.replicate n (0 : Int) = tab6 (fun _ => 0) n := by
 refine list_ext_getD 0 (by rw [List.length_replicate, tab6_len]) fun i hi => ?_
 rw [List.length_replicate] at hi
 rw [tab6_get _ _ _ _ hi, rep0]
def held (v : Int) : Int := if (-67108864) < (if 67108864 < v then 67108864 else v) then (if 67108864 < v then 67108864 else v) else (-67108864)
theorem held_range (v : Int) : -67108864 ≤ held v ∧ held v ≤ 67108864 := by unfold held; split <;> split <;> omega
theorem held_eq (v : Int) : g_quant_held v = some (held v) := rfl
theorem stepS_range {L : Nat} (hL : L < 256) {w : Int} (h1 : 1 ≤ w) (h7 : w ≤ 7) : 0 ≤ stepS L w ∧ stepS L w ≤ 4026531842 := by
 have p := peakS_range hL
 have m := (mostS_range (w := w) (by omega) h7).2.2 h1
 have := div_range (p := peakS L - 1) (m := mostS w) (by omega) (by omega) m
 unfold stepS; omega
theorem stepF_range {l : List Int} (hl : l.length = 6) (h : lv l) (n : Nat) : 0 ≤ stepF l n ∧ stepF l n ≤ 4026531842 := by
 have w := wideF_range hl h n
 have b := h _ (band_lt n)
 unfold stepF
 split
 ·omega
 ·exact stepS_range (by omega) (by omega) (by omega)
noncomputable def greatS (q l : List Int) (n : Nat) : Int := held (q.getD n 0 * stepF l n)
noncomputable def greatL (q l : List Int) : List Int := tab6 (greatS q l) 16
theorem greatL_may (q l : List Int) : bndP 67108864 16 (greatL q l) := fun i hi => by
 rw [show (greatL q l).getD i 0 = greatS q l i from tab6_get _ _ _ _ hi]
 exact held_range _
theorem greatL_len (q l : List Int) : (greatL q l).length = 16 := tab6_len _ _
theorem qstep_range {q l : List Int} (hl : l.length = 6) (h : mayP q l) {n : Nat} (hn : n < 16) : -600000000000 ≤ q.getD n 0 * stepF l n ∧ q.getD n 0 * stepF l n ≤ 600000000000 := by
 have a := h.2 n hn
 have b := mostF_range hl h.1 n
 have c := stepF_range hl h.1 n
 have := mul_bd (a := q.getD n 0) (b := stepF l n) (A := 127) (B := 4026531842) (by omega) (by omega)
 omega
open Classical in
theorem quant_Great_ok {q l : List Int} (hq : q.length = 16) (hl : l.length = 6) (h : mayP q l) : g_quant_Great q l = some (greatL q l, 0) := by
 have z16 : (List.replicate 16 (0 : Int)).length = 16 := List.length_replicate
 have l1 := iter_count (f := g_quant_Great_r1) (fun i : Nat => (0, (i : Int), q, fillN (greatS q l) i (List.replicate 16 0), tab6 (scF l) 16, ())) 16 (r := (0, fillN (greatS q l) 16 (List.replicate 16 0), ())) (fun i hi => by
  have g : (tab6 (scF l) 16).getD i (0, 0) = scF l i := tab6_get _ _ _ _ hi
  have b := qstep_range hl h hi
  simp (disch := omega) only [g_quant_Great_r1, dT, wT, Int.toNat_natCast, g, scF_eq, wrap_i64, held_eq, Option.bind_some, fill_step]
  rfl) (by simp (disch := omega) only [g_quant_Great_r1, dF])
 rw [fillN_eq z16] at l1
 unfold g_quant_Great
 simp only [quant_May_eq hq hl, decide_eq_true h, Option.bind_some, Bool.not_true, cond_false, scales_ok hl h.1]
 rw [show iter g_quant_Great_r1 (0, 0, q, List.replicate 16 0, tab6 (scF l) 16, ()) = _ from l1]
 rfl
def seedS (s : Int) : Nat → Int
 | 0 => s
 | n + 1 => IntKind.u32.wrap (IntKind.u32.wrap (seedS s n * 1664525) + 1013904223)
theorem wrap_u32_range (v : Int) : 0 ≤ IntKind.u32.wrap v ∧ IntKind.u32.wrap v < 4294967296 := by
 simp only [IntKind.wrap, IntKind.signed, IntKind.bits]; simp; omega
theorem seed_range {s : Int} (n : Nat) : 0 ≤ seedS s (n + 1) ∧ seedS s (n + 1) < 4294967296 := wrap_u32_range _
theorem shr16 {v : Int} (h : 0 ≤ v) (h' : v < 4294967296) : shrI .u32 v 16 = v / 65536 := by
 have : shrI .u32 v 16 = v.fdiv 65536 := rfl
 rw [this, Int.fdiv_eq_ediv_of_nonneg _ (by omega)]
def noiseV (s : Int) (l : List Int) (n : Nat) : Int := (seedS s (n + 1) / 65536 - 32768) * peakS (l.getD (bandOf n) 0).toNat
def noiseS (s : Int) (l : List Int) (n : Nat) : Int := if l.getD (bandOf n) 0 > 0 then held (rnd 18 (noiseV s l n)) else 0
def noiseL (s : Int) (l : List Int) : List Int := tab6 (noiseS s l) 16
theorem noiseL_len (s : Int) (l : List Int) : (noiseL s l).length = 16 := tab6_len _ _
theorem noiseS_range (s : Int) (l : List Int) (n : Nat) : -67108864 ≤ noiseS s l n ∧ noiseS s l n ≤ 67108864 := by
 unfold noiseS; split
 ·exact held_range _
 ·omega
theorem noiseL_may (s : Int) (l : List Int) : bndP 67108864 16 (noiseL s l) := fun i hi => by
 rw [show (noiseL s l).getD i 0 = noiseS s l i from tab6_get _ _ _ _ hi]
 exact noiseS_range _ _ _
theorem noiseV_range {s : Int} {l : List Int} (h : lv l) (n : Nat) : -140000000000000 ≤ noiseV s l n ∧ noiseV s l n ≤ 140000000000000 := by
 have b := h _ (band_lt n)
 have p := peakS_range (L := (l.getD (bandOf n) 0).toNat) (by omega)
 have sr := seed_range (s := s) n
 have := mul_bd (a := seedS s (n + 1) / 65536 - 32768) (b := peakS (l.getD (bandOf n) 0).toNat) (A := 32768) (B := 4026531841) (by omega) (by omega)
 unfold noiseV; omega
theorem quant_Noise_ok {s : Int} {l : List Int} (hl : l.length = 6) (h : lv l) : g_quant_Noise s l = some (noiseL s l, (seedS s 16, 0)) := by
 have l1 := iter_count (f := g_quant_Noise_r1) (fun i : Nat => (seedS s i, (i : Int), l, tab6 (mix (noiseS s l) (fun _ => 0) i) 16, ())) 16 (r := (seedS s 16, tab6 (mix (noiseS s l) (fun _ => 0) 16) 16, ())) (fun i hi => by
  have b := h _ (band_lt i)
  have bl := band_lt i
  have sr := seed_range (s := s) i
  have es : IntKind.u32.wrap (IntKind.u32.wrap (seedS s i * 1664525) + 1013904223) = seedS s (i + 1) := rfl
  have pk : g_quant_Peak (l.getD (bandOf i) 0) = some (peakS (l.getD (bandOf i) 0).toNat, 0) := by
   have := quant_Peak_eq (L := (l.getD (bandOf i) 0).toNat) (by omega)
   rwa [Int.toNat_of_nonneg b.1] at this
  have nv := noiseV_range (s := s) h i
  have a1 : g_fixed_Round (noiseV s l i) 18 = some (rnd 18 (noiseV s l i)) := fixed_Round_eq (n := 18) (by omega) (by omega) (by omega) (by omega)
  have ev : (seedS s (i + 1) / 65536 - 32768) * peakS (l.getD (bandOf i) 0).toNat = noiseV s l i := rfl
  by_cases hb : l.getD (bandOf i) 0 > 0
  ·have e : noiseS s l i = held (rnd 18 (noiseV s l i)) := if_pos hb
   have st : (tab6 (mix (noiseS s l) (fun _ => 0) i) 16).set i (held (rnd 18 (noiseV s l i))) = tab6 (mix (noiseS s l) (fun _ => 0) (i + 1)) 16 := e ▸ mix_set 0 hi
   simp (disch := omega) only [g_quant_Noise_r1, dT, wT, Int.toNat_natCast, bands_Of_eq hi, pk, es, shr16, wrap_i64, ev, a1, held_eq, Option.bind_some, st]
   rfl
  ·have e : noiseS s l i = 0 := if_neg hb
   have st : tab6 (mix (noiseS s l) (fun _ => 0) i) 16 = tab6 (mix (noiseS s l) (fun _ => 0) (i + 1)) 16 := mix_keep e
   simp (disch := omega) only [g_quant_Noise_r1, dT, dF, wT, Int.toNat_natCast, bands_Of_eq hi, pk, es, Option.bind_some, wrap_succ, ← st]) (by simp (disch := omega) only [g_quant_Noise_r1, dF])
 rw [mix_all] at l1
 unfold g_quant_Noise
 simp (disch := omega) only [bands_Check_eq hl, ckL_pos h, Option.bind_some, nF]
 rw [rep_tab 16, show iter g_quant_Noise_r1 (s, 0, l, tab6 (fun _ => 0) 16, ()) = _ from l1]
 rfl
abbrev SyT := List Int × List Int × Bool × Bool × Int
def sizedY (s : SyT) : Prop := s.1.length = 16 ∧ s.2.1.length = 6
def okY (s : SyT) : Prop := bndP 1099511627776 16 s.1 ∧ lv s.2.1 ∧ ¬ (s.2.2.1 = true ∧ s.2.2.2.1 = true)
instance (s : SyT) : Decidable (okY s) := by unfold okY; infer_instance
def ckY (s : SyT) : Int := if okY s then 0 else 1
def zY : SyT := (List.replicate 16 0, (List.replicate 6 0, (false, (false, 0))))
def zP : List Int := List.replicate 16 0
theorem zero_may {B : Int} (hB : 0 ≤ B) (n m : Nat) : bndP B n (List.replicate m 0) := fun i _ => by rw [rep0]; omega
theorem ckY_pos {s : SyT} (h : okY s) : ckY s = 0 := if_pos h
theorem ckY_neg {s : SyT} (h : ¬ okY s) : ckY s = 1 := if_neg h
theorem decoder_Check_eq {s : SyT} (hs : sizedY s) : g_decoder_Check s = some (ckY s) := by
  obtain ⟨t, l, a, b, c⟩ := s
  obtain ⟨h1, h2⟩ := hs
  simp only at h1 h2
  have ez : ([0, 0, 0, 0, 0, 0, 0, 0, 0, 0, 0, 0, 0, 0, 0, 0, 0, 0, 0, 0, 0, 0, 0, 0, 0, 0, 0, 0, 0, 0, 0, 0] : List Int) = List.replicate 32 0 := rfl
  have c2 := bands_Check_eq h2
  unfold g_decoder_Check
  rw [ez]
  by_cases ht : bndP 1099511627776 16 t
  · simp only [lapped_Lap_ok h1 List.length_replicate ht (zero_may (by omega) 32 32), Option.bind_some, bne_self_eq_false, cond_false]
    cases a <;> cases b <;> simp only [cond_true, cond_false, Option.bind_some, c2]
    all_goals first
      | (by_cases hl : lv l
         · rw [ckL_pos hl, ckY_pos ⟨ht, hl, by simp⟩]
         · rw [ckL_neg hl, ckY_neg fun h => hl h.2.1])
      | rw [ckY_neg fun h => h.2.2 ⟨rfl, rfl⟩]
  · have e := lapped_Lap_bad (t := t) (w := List.replicate 32 0) h1 List.length_replicate (fun h => ht h.1)
    have hk : ckY (t, l, a, b, c) = 1 := ckY_neg fun h => ht h.1
    rw [e, hk]; rfl
end Go.Sq
namespace Go.Sq
open Go.Rx
def soundY (s : SyT) (x : List Int) : SyT × List Int × Int := ((lapT (invL x), s.2), (lapP s.1 (invL x), 0))
def hissY (s : SyT) : SyT × List Int × Int := soundY (s.1, (s.2.1, (s.2.2.1, (s.2.2.2.1, seedS s.2.2.2.2 16)))) (noiseL s.2.2.2.2 s.2.1)
def errY (e : Int) : SyT × List Int × Int := (zY, (zP, e))
def restY (s : SyT) : SyT × List Int × Int :=
 if okY s then (bif s.2.2.2.1 then hissY s else soundY (s.1, (s.2.1, (false, s.2.2.2))) zP) else errY 1
def minB (v : Int) : Int := if 255 < v then 255 else v
def lessS (by_ v : Int) : Int := if 0 < v - by_ then v - by_ else 0
def fadeL (l : List Int) (by_ : Int) : List Int := tab6 (fun b => lessS by_ (l.getD b 0)) 6
def fadeY (s : SyT) (by_ : Int) : SyT × List Int × Int :=
 if okY s ∧ 1 ≤ by_ then hissY (s.1, (fadeL s.2.1 (minB by_), (false, s.2.2.2))) else errY 1
noncomputable def stepY (s : SyT) (b : List Int) : SyT × List Int × Int :=
 if okY s then
  if (readF b s.2.1).2 ≠ 0 then errY (readF b s.2.1).2
  else if (readF b s.2.1).1.1 = 1 ∧ s.2.2.1 = false then errY 40
  else if (readF b s.2.1).1.1 = 2 then hissY (s.1, ((readF b s.2.1).1.2.1, (false, (true, s.2.2.2.2))))
  else soundY (s.1, ((readF b s.2.1).1.2.1, (true, (false, s.2.2.2.2)))) (greatL (readF b s.2.1).1.2.2 (readF b s.2.1).1.2.1)
 else errY 1
theorem lit16 : ([0, 0, 0, 0, 0, 0, 0, 0, 0, 0, 0, 0, 0, 0, 0, 0] : List Int) = List.replicate 16 0 := rfl
theorem zP_may : bndP 67108864 16 zP := zero_may (by omega) 16 16
theorem zP_len : zP.length = 16 := List.length_replicate
theorem ne10 : ((1 : Int) != 0) = true := rfl
theorem eq10 : ((1 : Int) == 0) = false := rfl
theorem decoder_Rest_eq {s : SyT} (hs : sizedY s) : g_decoder_Rest s = some (restY s) := by
 have c := decoder_Check_eq hs
 obtain ⟨t, l, a, h, sd⟩ := s
 by_cases ok : okY (t, l, a, h, sd)
 ·rw [ckY_pos ok] at c
  have e : restY (t, l, a, h, sd) = bif h then hissY (t, l, a, h, sd) else soundY (t, l, false, h, sd) zP := if_pos ok
  rw [e]
  unfold g_decoder_Rest
  cases h
  ·have i1 := lapped_Inverse_ok zP_len zP_may
   have i2 := lapped_Lap_ok hs.1 (invL_len _) ok.1 (invL_may zP_may)
   simp only [c, lit16, show List.replicate 16 (0 : Int) = zP from rfl, i1, i2, Option.bind_some, bne_self_eq_false, beq_self_eq_true, cond_false, cond_true]
   rfl
  ·have n0 := quant_Noise_ok (s := sd) hs.2 ok.2.1
   have i1 := lapped_Inverse_ok (noiseL_len sd l) (noiseL_may sd l)
   have i2 := lapped_Lap_ok hs.1 (invL_len _) ok.1 (invL_may (noiseL_may sd l))
   simp only [c, n0, i1, i2, Option.bind_some, bne_self_eq_false, beq_self_eq_true, cond_false, cond_true]
   rfl
 ·rw [ckY_neg ok] at c
  have e : restY (t, l, a, h, sd) = errY 1 := if_neg ok
  rw [e]
  unfold g_decoder_Rest
  simp only [c, Option.bind_some, ne10, cond_true]
  rfl
theorem fadeL_len (l : List Int) (v : Int) : (fadeL l v).length = 6 := tab6_len _ _
theorem fadeL_lv {l : List Int} (h : lv l) {v : Int} (hv : 0 ≤ v) : lv (fadeL l v) := fun i hi => by
 rw [show (fadeL l v).getD i 0 = lessS v (l.getD i 0) from tab6_get _ _ _ _ hi]
 have := h i hi
 unfold lessS; split <;> omega
theorem fade_loop {s : SyT} (hs : sizedY s) (ok : okY s) {v : Int} (h1 : 1 ≤ v) (h2 : v ≤ 255) {e : Int} {p q : List Int} {z : SyT} :
  iter g_decoder_Fade_r1 (v, 0, z, p, (s, (q, e)), ()) = some (z, p, ((s.1, (fadeL s.2.1 v, s.2.2)), (q, e)), ()) := by
 have l1 := iter_count (f := g_decoder_Fade_r1) (fun i : Nat => (v, (i : Int), z, p, ((s.1, (tab6 (mix (fun b => lessS v (s.2.1.getD b 0)) (fun b => s.2.1.getD b 0) i) 6, s.2.2)), (q, e)), ())) 6
  (r := (z, p, ((s.1, (tab6 (mix (fun b => lessS v (s.2.1.getD b 0)) (fun b => s.2.1.getD b 0) 6) 6, s.2.2)), (q, e)), ())) (fun i hi => by
   have b := ok.2.1 i hi
   have g : (tab6 (mix (fun b => lessS v (s.2.1.getD b 0)) (fun b => s.2.1.getD b 0) i) 6).getD i 0 = s.2.1.getD i 0 := mix_get _ hi
   have st : (tab6 (mix (fun b => lessS v (s.2.1.getD b 0)) (fun b => s.2.1.getD b 0) i) 6).set i (if 0 < s.2.1.getD i 0 - v then s.2.1.getD i 0 - v else 0) = _ := mix_set (g := fun b => lessS v (s.2.1.getD b 0)) 0 hi
   simp (disch := omega) only [g_decoder_Fade_r1, dT, wT, Int.toNat_natCast, g, wrap_i64, st]
   rfl) (by simp (disch := omega) only [g_decoder_Fade_r1, dF])
 rw [mix_all, mix_zero, ← eq_tab6 0 hs.2] at l1
 exact l1
theorem decoder_Fade_eq {s : SyT} (hs : sizedY s) {v : Int} : g_decoder_Fade s v = some (fadeY s v) := by
 have c := decoder_Check_eq hs
 obtain ⟨t, l, a, h, sd⟩ := s
 by_cases ok : okY (t, l, a, h, sd)
 ·rw [ckY_pos ok] at c
  by_cases hv : 1 ≤ v
  ·have e : fadeY (t, l, a, h, sd) v = hissY (t, fadeL l (minB v), false, h, sd) := if_pos ⟨ok, hv⟩
   rw [e]
   have m : 1 ≤ minB v ∧ minB v ≤ 255 := by unfold minB; split <;> omega
   have loop := fade_loop hs ok m.1 m.2 (e := 0) (p := List.replicate 16 0) (q := List.replicate 16 0) (z := zY)
   have fl := fadeL_lv ok.2.1 (v := minB v) (by omega)
   have n0 := quant_Noise_ok (s := sd) (fadeL_len l (minB v)) fl
   have i1 := lapped_Inverse_ok (noiseL_len sd (fadeL l (minB v))) (noiseL_may _ _)
   have i2 := lapped_Lap_ok hs.1 (invL_len _) ok.1 (invL_may (noiseL_may sd (fadeL l (minB v))))
   unfold g_decoder_Fade
   simp (disch := omega) only [c, Option.bind_some, dF, bne_self_eq_false, cond_false]
   refine (congrArg (fun o => Option.bind o _) loop).trans ?_
   simp only [n0, i1, i2, Option.bind_some, bne_self_eq_false, beq_self_eq_true, cond_false, cond_true]
   rfl
  ·have e : fadeY (t, l, a, h, sd) v = errY 1 := if_neg fun h => hv h.2
   rw [e]
   unfold g_decoder_Fade
   simp (disch := omega) only [c, Option.bind_some, dT, beq_self_eq_true, cond_true, ne10]
   rfl
 ·rw [ckY_neg ok] at c
  have e : fadeY (t, l, a, h, sd) v = errY 1 := if_neg fun h => ok h.1
  rw [e]
  unfold g_decoder_Fade
  by_cases hv : 1 ≤ v
  ·simp (disch := omega) only [c, Option.bind_some, dF, ne10, cond_true]
   rfl
  ·simp (disch := omega) only [c, Option.bind_some, dT, eq10, cond_false, ne10, cond_true]
   rfl
theorem beqF {x y : Int} (h : x ≠ y) : (x == y) = false := beq_false_of_ne h
theorem bneT {x y : Int} (h : x ≠ y) : (x != y) = true := bne_iff_ne.2 h
theorem decoder_Step_eq {s : SyT} (hs : sizedY s) {b : List Int} (hb : bytes b) (sm : small b) : g_decoder_Step s b = some (stepY s b) := by
  have c := decoder_Check_eq hs
  obtain ⟨t, l, a, h, sd⟩ := s
  by_cases ok : okY (t, l, a, h, sd)
  · rw [ckY_pos ok] at c
    have rd := frame_Read_eq hb sm hs.2
    have e := show stepY (t, l, a, h, sd) b = _ from if_pos ok
    rw [e]
    simp only at e rd ⊢
    cases hr : readF b l with
    | mk f er =>
      rw [hr] at rd
      simp only
      by_cases he : er ≠ 0
      · rw [if_pos he]
        unfold g_decoder_Step
        simp only [c, rd, Option.bind_some, bne_self_eq_false, beq_self_eq_true, beqF he, bneT he, cond_true, cond_false]
        rfl
      · rw [if_neg he]
        have he : er = 0 := Decidable.not_not.1 he
        subst he
        obtain ⟨of, wr, gs⟩ := read_zero hr
        have sz := (guess_sized hb of.1 gs).1
        obtain ⟨k, fl, fq⟩ := f
        by_cases hk : k = 1 ∧ a = false
        · rw [if_pos hk]
          obtain ⟨rfl, rfl⟩ := hk
          unfold g_decoder_Step
          simp only [c, rd, Option.bind_some, bne_self_eq_false, beq_self_eq_true, cond_true, cond_false, Bool.not_false, bneT (show (40 : Int) ≠ 0 by decide)]
          rfl
        · rw [if_neg hk]
          have h3 : (bif (k == 1) then !a else false) = false := by
            by_cases h1 : k = 1
            · subst h1; cases a
              · exact absurd ⟨rfl, rfl⟩ hk
              · rfl
            · rw [beqF h1]; rfl
          have step : ∀ r, (∀ (z : SyT) (p : List Int), (bif k == 2 then
                (g_quant_Noise sd fl).bind fun y6 => (g_lapped_Inverse y6.1).bind fun y8 => (g_lapped_Lap t y8.1).bind fun y10 => some (((y10.2.1, (fl, (k != 2, (k == 2, y6.2.1)))), (y10.1, (0 : Int))) : SyT × List Int × Int)
              else (g_quant_Great fq fl).bind fun y12 => (g_lapped_Inverse y12.1).bind fun y14 => (g_lapped_Lap t y14.1).bind fun y16 => some ((y16.2.1, (fl, (k != 2, (k == 2, sd)))), (y16.1, 0))) = some r) → g_decoder_Step (t, l, a, h, sd) b = some r := by
            intro r hr
            have hr := hr zY zP
            unfold g_decoder_Step
            simp only [c, rd, Option.bind_some, bne_self_eq_false, beq_self_eq_true, cond_true, cond_false]
            by_cases k2 : k = 2
            · subst k2
              have n0 := quant_Noise_ok (s := sd) sz.1 of.2.1.1
              have i1 := lapped_Inverse_ok (noiseL_len sd fl) (noiseL_may sd fl)
              have i2 := lapped_Lap_ok hs.1 (invL_len _) ok.1 (invL_may (noiseL_may sd fl))
              simp only [n0, i1, i2, Option.bind_some, beq_self_eq_true, cond_true, cond_false, bne_self_eq_false, beqF (show (2 : Int) ≠ 1 by decide)] at hr ⊢
              exact hr
            · have n0 := quant_Great_ok sz.2 sz.1 of.2.1
              have i1 := lapped_Inverse_ok (greatL_len fq fl) (greatL_may fq fl)
              have i2 := lapped_Lap_ok hs.1 (invL_len _) ok.1 (invL_may (greatL_may fq fl))
              by_cases h1 : k = 1
              · subst h1
                cases a
                · exact absurd ⟨rfl, rfl⟩ hk
                · simp only [n0, i1, i2, Option.bind_some, beq_self_eq_true, cond_true, cond_false, Bool.not_true, bne_self_eq_false, beqF (show (1 : Int) ≠ 2 by decide)] at hr ⊢
                  exact hr
              · simp only [n0, i1, i2, Option.bind_some, beq_self_eq_true, cond_true, cond_false, bne_self_eq_false, beqF h1, beqF k2] at hr ⊢
                exact hr
          apply step
          intro _ _
          by_cases k2 : k = 2
          · subst k2
            rw [if_pos rfl]
            have n0 := quant_Noise_ok (s := sd) sz.1 of.2.1.1
            have i1 := lapped_Inverse_ok (noiseL_len sd fl) (noiseL_may sd fl)
            have i2 := lapped_Lap_ok hs.1 (invL_len _) ok.1 (invL_may (noiseL_may sd fl))
            simp only [n0, i1, i2, Option.bind_some, beq_self_eq_true, cond_true, bne_self_eq_false]
            rfl
          · rw [if_neg k2]
            have n0 := quant_Great_ok sz.2 sz.1 of.2.1
            have i1 := lapped_Inverse_ok (greatL_len fq fl) (greatL_may fq fl)
            have i2 := lapped_Lap_ok hs.1 (invL_len _) ok.1 (invL_may (greatL_may fq fl))
            simp only [n0, i1, i2, Option.bind_some, beqF k2, bneT k2, cond_false]
            rfl
  · rw [ckY_neg ok] at c
    have e : stepY (t, l, a, h, sd) b = errY 1 := if_neg ok
    rw [e]
    unfold g_decoder_Step
    simp only [c, Option.bind_some, ne10, cond_true]
    rfl

theorem soundY_ok {s : SyT} {x : List Int} (hx : bndP 67108864 16 x) (hl : lv s.2.1) (hh : ¬ (s.2.2.1 = true ∧ s.2.2.2.1 = true)) : okY (soundY s x).1 :=
 ⟨lapT_may (invL_may hx), hl, hh⟩
theorem soundY_sized {s : SyT} {x : List Int} (hl : s.2.1.length = 6) : sizedY (soundY s x).1 := ⟨lapT_len _, hl⟩
theorem zY_sized : sizedY zY := ⟨List.length_replicate, List.length_replicate⟩
theorem restY_sized {s : SyT} (hs : sizedY s) : sizedY (restY s).1 := by
 unfold restY
 split
 ·cases s.2.2.2.1
  ·exact soundY_sized hs.2
  ·exact soundY_sized hs.2
 ·exact zY_sized
theorem fadeY_sized {s : SyT} (v : Int) : sizedY (fadeY s v).1 := by
 unfold fadeY
 split
 ·exact soundY_sized (fadeL_len _ _)
 ·exact zY_sized
theorem stepY_sized {s : SyT} {b : List Int} (hb : bytes b) : sizedY (stepY s b).1 := by
 unfold stepY
 split
 ·split
  ·exact zY_sized
  ·rename_i he
   have he : (readF b s.2.1).2 = 0 := Decidable.not_not.1 he
   obtain ⟨of, wr, gs⟩ := read_zero (f := (readF b s.2.1).1) (Prod.ext rfl he)
   have sz := (guess_sized hb of.1 gs).1
   split
   ·exact zY_sized
   ·split
    ·exact soundY_sized sz.1
    ·exact soundY_sized sz.1
 ·exact zY_sized
theorem restY_ok {s : SyT} (ok : okY s) : okY (restY s).1 ∧ (restY s).2.2 = 0 := by
 have e : restY s = bif s.2.2.2.1 then hissY s else soundY (s.1, (s.2.1, (false, s.2.2.2))) zP := if_pos ok
 rw [e]
 cases hh : s.2.2.2.1
 ·exact ⟨soundY_ok zP_may ok.2.1 (fun h => Bool.false_ne_true h.1), rfl⟩
 ·exact ⟨soundY_ok (noiseL_may _ _) ok.2.1 (fun h => ok.2.2 ⟨h.1, hh⟩), rfl⟩
theorem fadeY_ok {s : SyT} (ok : okY s) {v : Int} (hv : 1 ≤ v) : okY (fadeY s v).1 ∧ (fadeY s v).2.2 = 0 := by
 have e : fadeY s v = hissY (s.1, (fadeL s.2.1 (minB v), (false, s.2.2.2))) := if_pos ⟨ok, hv⟩
 rw [e]
 have m : 0 ≤ minB v := by unfold minB; split <;> omega
 exact ⟨soundY_ok (noiseL_may _ _) (fadeL_lv ok.2.1 m) (fun h => Bool.false_ne_true h.1), rfl⟩
theorem stepY_ok {s : SyT} {b : List Int} (ok : okY s) (h0 : (stepY s b).2.2 = 0) : okY (stepY s b).1 ∧ (readF b s.2.1).2 = 0 ∧ ¬ ((readF b s.2.1).1.1 = 1 ∧ s.2.2.1 = false) := by
 have e := show stepY s b = _ from if_pos ok
 rw [e] at h0 ⊢
 by_cases he : (readF b s.2.1).2 ≠ 0
 ·rw [if_pos he] at h0; exact absurd h0 he
 ·rw [if_neg he] at h0 ⊢
  have he : (readF b s.2.1).2 = 0 := Decidable.not_not.1 he
  obtain ⟨of, wr, gs⟩ := read_zero (f := (readF b s.2.1).1) (Prod.ext rfl he)
  by_cases hk : (readF b s.2.1).1.1 = 1 ∧ s.2.2.1 = false
  ·rw [if_pos hk] at h0; exact absurd h0 (by decide)
  ·rw [if_neg hk] at h0 ⊢
   refine ⟨?_, he, hk⟩
   split
   ·exact soundY_ok (noiseL_may _ _) of.2.1.1 (fun h => Bool.false_ne_true h.1)
   ·exact soundY_ok (greatL_may _ _) of.2.1.1 (fun h => Bool.false_ne_true h.2)
end Go.Sq
namespace Go.Sq
open Go.Rx
def zW : List Int := List.replicate 32 0
theorem lapP_zero : lapP zP zW = zP := by
 unfold lapP
 rw [show zP = tab6 (fun _ => 0) 16 from rep_tab 16]
 exact tab6_congr fun i hi => by
  unfold lapS
  rw [tab6_get _ _ _ _ hi, show zW.getD i 0 = 0 from rep0 _ _]; rfl
def sY : SyT := (List.replicate 16 0, (List.replicate 6 0, (false, (false, 1))))
theorem start_eq : g_decoder_Start = some sY := rfl
theorem sY_sized : sizedY sY := ⟨List.length_replicate, List.length_replicate⟩
theorem sY_ok : okY sY := ⟨zero_may (by omega) 16 16, z6_lv, fun h => Bool.false_ne_true h.1⟩
theorem great_zero : greatL (List.replicate 16 0) (List.replicate 6 0) = zP := by
 unfold zP
 rw [rep_tab 16]
 exact tab6_congr fun i hi => by unfold greatS; rw [tab6_get _ _ _ _ hi, Int.zero_mul]; rfl
def fewP (l : List (List Int)) : Prop := (∀ i, i < l.length → (l.getD i []).length ≤ 300) ∧ l.length ≤ 30
instance (l : List (List Int)) : Decidable (fewP l) := by unfold fewP; infer_instance
end Go.Sq
namespace Go.Sq
open Go.Rx
end Go.Sq
namespace Go.Sq
open Go.Rx
end Go.Sq
namespace Go.Sq
open Go.Rx
end Go.Sq
namespace Go.Sq
open Go.Rx
theorem sat_sat (v : Int) : sat16 (sat16 v) = sat16 v := by
 have := sat16_range v
 generalize sat16 v = w at *
 unfold sat16
 rw [if_neg (show ¬ 32767 < w by omega)]
 split <;> omega
theorem lapped_Check_lap (t w : List Int) : g_lapped_Check (lapP t w) = some 0 := by
 unfold g_lapped_Check
 rw [show iter g_lapped_Check_r1 (lapP t w, 0, ()) = some (.inl ()) from iter_count (fun i : Nat => (lapP t w, (i : Int), ())) 16 (fun i hi => by
  have g : (lapP t w).getD i 0 = lapS t w i := tab6_get _ _ _ _ hi
  have e : sat16 (lapS t w i) = lapS t w i := sat_sat _
  simp (disch := omega) only [g_lapped_Check_r1, dT, wT, Int.toNat_natCast, g, fixed_Sat_eq, Option.bind_some, nF, wrap_succ]) (by simp (disch := omega) only [g_lapped_Check_r1, dF])]
 rfl
theorem fade_check {s : SyT} (ok : okY s) {v : Int} (hv : 1 ≤ v) : g_lapped_Check (fadeY s v).2.1 = some 0 := by
 have e : fadeY s v = hissY (s.1, (fadeL s.2.1 (minB v), (false, s.2.2.2))) := if_pos ⟨ok, hv⟩
 rw [e]; exact lapped_Check_lap _ _
theorem step_check {s : SyT} (ok : okY s) {b : List Int} (h0 : (stepY s b).2.2 = 0) : g_lapped_Check (stepY s b).2.1 = some 0 ∧ ((stepY s b).1.2.2.1 == (stepY s b).1.2.2.2.1) = false := by
 have e := show stepY s b = _ from if_pos ok
 rw [e] at h0 ⊢
 by_cases he : (readF b s.2.1).2 ≠ 0
 ·rw [if_pos he] at h0; exact absurd h0 he
 ·rw [if_neg he] at h0 ⊢
  by_cases hk : (readF b s.2.1).1.1 = 1 ∧ s.2.2.1 = false
  ·rw [if_pos hk] at h0; exact absurd h0 (by decide)
  ·rw [if_neg hk]
   split
   ·exact ⟨lapped_Check_lap _ _, rfl⟩
   ·exact ⟨lapped_Check_lap _ _, rfl⟩
end Go.Sq
