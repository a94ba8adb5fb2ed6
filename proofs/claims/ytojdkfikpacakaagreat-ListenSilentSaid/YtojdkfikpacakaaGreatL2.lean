/- Parts of a proof: evaluation of Go code over typed values, and what it computes. -/
import Derived.Test.YtojdkfikpacakaaGreatL1
import Derived.KernelRfl
import Derived.Test.YtojdkfikpacakaaGreatX4
set_option linter.unusedSimpArgs false
set_option linter.unusedVariables false
set_option linter.unusedSectionVars false
namespace Go.Sq
open Go.Rx
def bI (l : List Bool) (i : Nat) : Int := (((l.getD i false).toNat : Nat) : Int)
theorem bI_range (l : List Bool) (i : Nat) : 0 ≤ bI l i ∧ bI l i ≤ 1 := by unfold bI; have := bool_lt (l.getD i false); omega
def decS : Nat → Int → Int → Int → Nat → List Bool → Int × Int × Int × Nat
 | 0, lo, hi, c, p, _ => (lo, hi, c, p)
 | n + 1, lo, hi, c, p, l =>
  if hi < 2147483648 then decS n (2 * lo) (2 * hi + 1) (2 * c + bI l p) (p + 1) l
  else if lo ≥ 2147483648 then decS n (2 * (lo - 2147483648)) (2 * (hi - 2147483648) + 1) (2 * (c - 2147483648) + bI l p) (p + 1) l
  else if lo ≥ 1073741824 ∧ hi < 3221225472 then decS n (2 * (lo - 1073741824)) (2 * (hi - 1073741824) + 1) (2 * (c - 1073741824) + bI l p) (p + 1) l
  else (lo, hi, c, p)
theorem or_bI {x y : Int} (h0 : 0 ≤ x) (h1 : x < 4611686018427387904) (hy : y = 0 ∨ y = 1) : bitsI .or .u64 (2 * x) y = 2 * x + y := by
 rcases hy with rfl | rfl
 ·obtain ⟨n, rfl⟩ : ∃ n : Nat, x = n := ⟨x.toNat, by omega⟩
  have := or_nat64 (a := 2 * n) (b := 0) (by omega) (by omega)
  rw [Nat.or_zero] at this
  rw [show 2 * (n : Int) = ((2 * n : Nat) : Int) from by omega]
  exact this
 ·exact or1 h0 h1
theorem coder_bit_bI {l : List Bool} {i : Nat} (hl : l.length ≤ 65536) (hi2 : i < 2 ^ 60) : g_coder_bit (pk l, (l.length : Int)) (i : Int) = some (bI l i) := coder_bit_eq hl hi2
theorem r04_bitAt_eq {l : List Bool} {i : Nat} (hl : l.length ≤ 65536) (hi2 : i < 2 ^ 60) : g_r04_bitAt (pk l, (l.length : Int)) (i : Int) = some (bI l i) := by
 have hc := r01_Check_eq (N := l.length) (pk_bytes l) (small_pk hl)
 rw [ck_pk hl] at hc
 by_cases h : i < l.length
 ·have hpl := pk_len l
  have hb := r01_bit_eq (B := pk l) (N := l.length) (pk_bytes l) (i := i) (by omega) hi2
  rw [bt_pk] at hb
  have hb : g_r01_bit (pk l, (l.length : Int)) (i : Int) = some (bI l i) := hb
  have hr := bI_range l i
  have hor : bitsI .or .u64 (2 * 0) (bI l i) = 2 * 0 + bI l i := or_bI (by omega) (by omega) (by omega)
  have h1 : iter g_r01_Get_r1 ((i : Int), 0, 1, 0, (pk l, (l.length : Int)), ()) = some (bI l i, ()) := by
   rw [iter_inl (y := ((i : Int), bI l i, 1, 1, (pk l, (l.length : Int)), ()))]
   ·apply iter_inr
    simp (disch := omega) only [g_r01_Get_r1, dF]
   ·have h2 := shl1 (x := 0) (by omega) (by omega)
    simp (disch := omega) only [g_r01_Get_r1, dT, wrap_i64, Int.add_zero, hb, h2, Option.bind_some]
    rw [hor]; simp
  simp (disch := omega) only [g_r04_bitAt, g_r01_Get, hc, nF, dF, Option.bind_some, cond_false, wrap_i64, h1]
 ·have e : bI l i = 0 := by unfold bI; rw [getD_out (by omega)]; rfl
  rw [e]
  by_cases h2 : i > l.length
  ·simp (disch := omega) only [g_r04_bitAt, g_r01_Get, hc, nF, nT, dF, dT, Option.bind_some, cond_false, cond_true]
  ·simp (disch := omega) only [g_r04_bitAt, g_r01_Get, hc, nF, nT, dF, dT, Option.bind_some, cond_false, cond_true, wrap_i64]
abbrev DecT := Int × Int × Int × (List Int × Int) × Int
theorem coder_read {n : Nat} {lo hi c : Int} {p : Nat} {l : List Bool} {s : Int} {d z : DecT} (hr : roomy n lo hi) (hc : lo ≤ c ∧ c ≤ hi) (hl : l.length ≤ 65536) (hn : n ≤ 32) (hp : p ≤ 65600) (hd : d.2.2.2.1 = (pk l, (l.length : Int))) :
  iter g_coder_Next_r1 (c, (p : Int), s, d, z, (lo, hi), ()) =
   some ((decS (n + 1) lo hi c p l).2.2.1, (((decS (n + 1) lo hi c p l).2.2.2 : Nat) : Int), s, d, z, ((decS (n + 1) lo hi c p l).1, (decS (n + 1) lo hi c p l).2.1), ()) := by
 obtain ⟨d1, d2, d3, ⟨d4, d5⟩, d6⟩ := d
 obtain ⟨z1, z2, z3, ⟨z4, z5⟩, z6⟩ := z
 have hd : (d4, d5) = (pk l, (l.length : Int)) := hd
 let W := decS (n + 1) lo hi c p l
 have loop : ∃ r, iter g_coder_Next_r1 (c, (p : Int), s, (d1, d2, d3, (d4, d5), d6), (z1, z2, z3, (z4, z5), z6), (lo, hi), ()) = some r ∧
   r = (W.2.2.1, ((W.2.2.2 : Nat) : Int), s, (d1, d2, d3, (d4, d5), d6), (z1, z2, z3, (z4, z5), z6), (W.1, W.2.1), ()) := by
  refine iter_ex (fun x => (8589934592 - (x.2.2.2.2.2.1.2 - x.2.2.2.2.2.1.1)).toNat)
   (fun x => ∃ (n : Nat) (lo hi c : Int) (p : Nat), x = (c, (p : Int), s, (d1, d2, d3, (d4, d5), d6), (z1, z2, z3, (z4, z5), z6), (lo, hi), ()) ∧ roomy n lo hi ∧ (lo ≤ c ∧ c ≤ hi) ∧ p + n ≤ 65632 ∧ decS (n + 1) lo hi c p l = W)
   (fun r => r = (W.2.2.1, ((W.2.2.2 : Nat) : Int), s, (d1, d2, d3, (d4, d5), d6), (z1, z2, z3, (z4, z5), z6), (W.1, W.2.1), ())) ?_ _ ⟨n, lo, hi, c, p, rfl, hr, hc, by omega, rfl⟩
  rintro x ⟨n, lo, hi, c, p, rfl, hr, hc, hp, hW⟩
  have hm := move_eq (lo := lo) (hi := hi)
  obtain ⟨r1, r2, r3, r4⟩ := hr
  have hr : roomy n lo hi := ⟨r1, r2, r3, r4⟩
  have hbit := coder_bit_bI (l := l) (i := p) hl (by omega)
  rw [← hd] at hbit
  have hbr := bI_range l p
  rw [decS] at hW
  by_cases h1 : hi < 2147483648
  ·rw [if_pos h1] at hm hW
   obtain ⟨k, rfl⟩ : ∃ k, n = k + 1 := by
    cases n with
    | zero => have := roomy_zero hr; omega
    | succ k => exact ⟨k, rfl⟩
   left
   have h9 := or_bI (x := c) (y := bI l p) (by omega) (by omega) (by omega)
   refine ⟨(2 * c + bI l p, ((p + 1 : Nat) : Int), s, (d1, d2, d3, (d4, d5), d6), (z1, z2, z3, (z4, z5), z6), (2 * lo, 2 * hi + 1), ()), ?_, ⟨k, _, _, _, _, rfl, roomy_next hr (by omega) (by omega) (by omega), by omega, by omega, hW⟩, by simp; omega⟩
   simp (disch := omega) only [g_coder_Next_r1, hm, eF, Option.bind_some, hbit, Int.sub_zero, wrap_i64, wrap_u64, shl1, or1, h9]
   rfl
  rw [if_neg h1] at hm hW
  by_cases h2 : lo ≥ 2147483648
  ·rw [if_pos h2] at hm hW
   obtain ⟨k, rfl⟩ : ∃ k, n = k + 1 := by
    cases n with
    | zero => have := roomy_zero hr; omega
    | succ k => exact ⟨k, rfl⟩
   left
   have h9 := or_bI (x := c - 2147483648) (y := bI l p) (by omega) (by omega) (by omega)
   refine ⟨(2 * (c - 2147483648) + bI l p, ((p + 1 : Nat) : Int), s, (d1, d2, d3, (d4, d5), d6), (z1, z2, z3, (z4, z5), z6), (2 * (lo - 2147483648), 2 * (hi - 2147483648) + 1), ()), ?_, ⟨k, _, _, _, _, rfl, roomy_next hr (by omega) (by omega) (by omega), by omega, by omega, hW⟩, by simp; omega⟩
   simp (disch := omega) only [g_coder_Next_r1, hm, eF, Option.bind_some, hbit, wrap_i64, wrap_u64, shl1, or1, h9]
   rfl
  rw [if_neg h2] at hm hW
  by_cases h3 : lo ≥ 1073741824 ∧ hi < 3221225472
  ·rw [if_pos h3] at hm hW
   obtain ⟨k, rfl⟩ : ∃ k, n = k + 1 := by
    cases n with
    | zero => have := roomy_zero hr; omega
    | succ k => exact ⟨k, rfl⟩
   left
   have h9 := or_bI (x := c - 1073741824) (y := bI l p) (by omega) (by omega) (by omega)
   refine ⟨(2 * (c - 1073741824) + bI l p, ((p + 1 : Nat) : Int), s, (d1, d2, d3, (d4, d5), d6), (z1, z2, z3, (z4, z5), z6), (2 * (lo - 1073741824), 2 * (hi - 1073741824) + 1), ()), ?_, ⟨k, _, _, _, _, rfl, roomy_next hr (by omega) (by omega) (by omega), by omega, by omega, hW⟩, by simp; omega⟩
   simp (disch := omega) only [g_coder_Next_r1, hm, eF, Option.bind_some, hbit, wrap_i64, wrap_u64, shl1, or1, h9]
   rfl
  ·rw [if_neg h3] at hm hW
   right
   refine ⟨_, ?_, rfl⟩
   rw [← hW]
   simp (disch := omega) only [g_coder_Next_r1, hm, eT, Option.bind_some]
 obtain ⟨r, h1, h2⟩ := loop
 rw [h1, h2]
theorem r04_read {n : Nat} {lo hi c : Int} {p : Nat} {l : List Bool} {s : Int} {d z : DecT} (hr : roomy n lo hi) (hc : lo ≤ c ∧ c ≤ hi) (hl : l.length ≤ 65536) (hn : n ≤ 32) (hp : p ≤ 65600) (hd : d.2.2.2.1 = (pk l, (l.length : Int))) :
  iter g_r04_Next_r1 (lo, hi, c, s, (p : Int), d, z, ()) =
   some (s, 0, (IntKind.u32.wrap (decS (n + 1) lo hi c p l).1, (IntKind.u32.wrap (decS (n + 1) lo hi c p l).2.1, (IntKind.u32.wrap (decS (n + 1) lo hi c p l).2.2.1, ((pk l, (l.length : Int)), (((decS (n + 1) lo hi c p l).2.2.2 : Nat) : Int))))), ()) := by
 obtain ⟨d1, d2, d3, ⟨d4, d5⟩, d6⟩ := d
 obtain ⟨z1, z2, z3, ⟨z4, z5⟩, z6⟩ := z
 have hd : (d4, d5) = (pk l, (l.length : Int)) := hd
 have hcp := Copy_eq hl
 rw [← hd] at hcp
 let W := decS (n + 1) lo hi c p l
 have loop : ∃ r, iter g_r04_Next_r1 (lo, hi, c, s, (p : Int), (d1, d2, d3, (d4, d5), d6), (z1, z2, z3, (z4, z5), z6), ()) = some r ∧
   r = (s, 0, (IntKind.u32.wrap W.1, (IntKind.u32.wrap W.2.1, (IntKind.u32.wrap W.2.2.1, ((d4, d5), ((W.2.2.2 : Nat) : Int))))), ()) := by
  refine iter_ex (fun x => (8589934592 - (x.2.1 - x.1)).toNat)
   (fun x => ∃ (n : Nat) (lo hi c : Int) (p : Nat), x = (lo, hi, c, s, (p : Int), (d1, d2, d3, (d4, d5), d6), (z1, z2, z3, (z4, z5), z6), ()) ∧ roomy n lo hi ∧ (lo ≤ c ∧ c ≤ hi) ∧ p + n ≤ 65632 ∧ decS (n + 1) lo hi c p l = W)
   (fun r => r = (s, 0, (IntKind.u32.wrap W.1, (IntKind.u32.wrap W.2.1, (IntKind.u32.wrap W.2.2.1, ((d4, d5), ((W.2.2.2 : Nat) : Int))))), ())) ?_ _ ⟨n, lo, hi, c, p, rfl, hr, hc, by omega, rfl⟩
  rintro x ⟨n, lo, hi, c, p, rfl, hr, hc, hp, hW⟩
  obtain ⟨r1, r2, r3, r4⟩ := hr
  have hr : roomy n lo hi := ⟨r1, r2, r3, r4⟩
  have hbit := r04_bitAt_eq (l := l) (i := p) hl (by omega)
  rw [← hd] at hbit
  have hbr := bI_range l p
  rw [decS] at hW
  by_cases h1 : hi < 2147483648
  ·rw [if_pos h1] at hW
   obtain ⟨k, rfl⟩ : ∃ k, n = k + 1 := by
    cases n with
    | zero => have := roomy_zero hr; omega
    | succ k => exact ⟨k, rfl⟩
   left
   refine ⟨(2 * lo, 2 * hi + 1, 2 * c + bI l p, s, ((p + 1 : Nat) : Int), (d1, d2, d3, (d4, d5), d6), (z1, z2, z3, (z4, z5), z6), ()), ?_, ⟨k, _, _, _, _, rfl, roomy_next hr (by omega) (by omega) (by omega), by omega, by omega, hW⟩, by simp; omega⟩
   simp (disch := omega) only [g_r04_Next_r1, dT, Option.bind_some, hbit, Int.sub_zero, wrap_i64, wrap_u64]
   rfl
  rw [if_neg h1] at hW
  by_cases h2 : lo ≥ 2147483648
  ·rw [if_pos h2] at hW
   obtain ⟨k, rfl⟩ : ∃ k, n = k + 1 := by
    cases n with
    | zero => have := roomy_zero hr; omega
    | succ k => exact ⟨k, rfl⟩
   left
   refine ⟨(2 * (lo - 2147483648), 2 * (hi - 2147483648) + 1, 2 * (c - 2147483648) + bI l p, s, ((p + 1 : Nat) : Int), (d1, d2, d3, (d4, d5), d6), (z1, z2, z3, (z4, z5), z6), ()), ?_, ⟨k, _, _, _, _, rfl, roomy_next hr (by omega) (by omega) (by omega), by omega, by omega, hW⟩, by simp; omega⟩
   simp (disch := omega) only [g_r04_Next_r1, dT, dF, Option.bind_some, hbit, wrap_i64, wrap_u64]
   rfl
  rw [if_neg h2] at hW
  by_cases h3 : lo ≥ 1073741824 ∧ hi < 3221225472
  ·rw [if_pos h3] at hW
   obtain ⟨k, rfl⟩ : ∃ k, n = k + 1 := by
    cases n with
    | zero => have := roomy_zero hr; omega
    | succ k => exact ⟨k, rfl⟩
   left
   refine ⟨(2 * (lo - 1073741824), 2 * (hi - 1073741824) + 1, 2 * (c - 1073741824) + bI l p, s, ((p + 1 : Nat) : Int), (d1, d2, d3, (d4, d5), d6), (z1, z2, z3, (z4, z5), z6), ()), ?_, ⟨k, _, _, _, _, rfl, roomy_next hr (by omega) (by omega) (by omega), by omega, by omega, hW⟩, by simp; omega⟩
   simp (disch := omega) only [g_r04_Next_r1, dT, dF, Option.bind_some, hbit, wrap_i64, wrap_u64]
   rfl
  ·rw [if_neg h3] at hW
   right
   refine ⟨_, ?_, rfl⟩
   rw [← hW]
   by_cases h5 : lo ≥ 1073741824
   ·simp (disch := omega) only [g_r04_Next_r1, dT, dF, Option.bind_some, hcp]
   ·simp (disch := omega) only [g_r04_Next_r1, dF, Option.bind_some, hcp, cond_false]
 obtain ⟨r, h1, h2⟩ := loop
 rw [h1, h2, hd]
end Go.Sq
namespace Go.Sq
open Go.Rx
def codeS (l : List Bool) : Nat → Int
 | 0 => 0
 | n + 1 => 2 * codeS l n + bI l n
theorem codeS_range (l : List Bool) : ∀ n, 0 ≤ codeS l n ∧ codeS l n < 2 ^ n
 | 0 => by simp [codeS]
 | n + 1 => by
  have := codeS_range l n
  have := bI_range l n
  simp only [codeS, Int.pow_succ]
  omega
theorem codeS_lt (l : List Bool) {n : Nat} (h : n ≤ 32) : 0 ≤ codeS l n ∧ codeS l n < 4294967296 := by
 have h1 := codeS_range l n
 have h2 : (2 : Int) ^ n ≤ 2 ^ 32 := by
  have : (2 : Nat) ^ n ≤ 2 ^ 32 := Nat.pow_le_pow_right (by omega) h
  exact_mod_cast this
 have h3 : (2 : Int) ^ 32 = 4294967296 := by decide
 omega
def zDec : DecT := (0, (0, (0, (([], 0), 0))))
theorem coder_Start_ok {l : List Bool} (hl : l.length ≤ 65536) : g_coder_Start (pk l, (l.length : Int)) = some ((0, (4294967295, (codeS l 32, ((pk l, (l.length : Int)), 32)))), 0) := by
 have hc := bits_Check_eq (N := l.length) (pk_bytes l) (small_pk hl)
 rw [ck_pk hl] at hc
 have loop : ∃ r, iter g_coder_Start_r1 (0, 0, (pk l, (l.length : Int)), (0, (0, (0, (([], 0), 0)))), ()) = some r ∧ r = (codeS l 32, (pk l, (l.length : Int)), (0, (0, (0, (([], 0), 0)))), ()) := by
  refine iter_ex (fun x => (32 - x.2.1).toNat) (fun x => ∃ i : Nat, x = (codeS l i, (i : Int), (pk l, (l.length : Int)), (0, (0, (0, (([], 0), 0)))), ()) ∧ i ≤ 32)
   (fun r => r = (codeS l 32, (pk l, (l.length : Int)), (0, (0, (0, (([], 0), 0)))), ())) ?_ _ ⟨0, rfl, by omega⟩
  rintro x ⟨i, rfl, h1⟩
  by_cases h2 : i < 32
  ·left
   have hb := coder_bit_bI (l := l) (i := i) hl (by omega)
   have hr := bI_range l i
   have hcr := codeS_lt l (n := i) (by omega)
   have h9 := or_bI (x := codeS l i) (y := bI l i) (by omega) (by omega) (by omega)
   refine ⟨(codeS l (i + 1), ((i + 1 : Nat) : Int), (pk l, (l.length : Int)), (0, (0, (0, (([], 0), 0)))), ()), ?_, ⟨i + 1, rfl, h2⟩, by simp only; omega⟩
   simp (disch := omega) only [g_coder_Start_r1, dT, hb, Option.bind_some, shl1, h9, wrap_i64]
   rfl
  ·right
   have : i = 32 := by omega
   subst this
   refine ⟨_, ?_, rfl⟩
   simp (disch := omega) only [g_coder_Start_r1, dF]
 obtain ⟨r, h1, rfl⟩ := loop
 have hcr := codeS_lt l (n := 32) (by omega)
 simp (disch := omega) only [g_coder_Start, hc, nF, Option.bind_some, h1, owned_eq hl, wrap_u32]
theorem r04_Start_ok {l : List Bool} (hl : l.length ≤ 65536) : g_r04_Start (pk l, (l.length : Int)) = some ((0, (4294967295, (codeS l 32, ((pk l, (l.length : Int)), 32)))), 0) := by
 have hc := r01_Check_eq (N := l.length) (pk_bytes l) (small_pk hl)
 rw [ck_pk hl] at hc
 have loop : ∃ r, iter g_r04_Start_r1 (0, 0, (pk l, (l.length : Int)), (0, (0, (0, (([], 0), 0)))), ()) = some r ∧ r = (codeS l 32, (pk l, (l.length : Int)), (0, (0, (0, (([], 0), 0)))), ()) := by
  refine iter_ex (fun x => (32 - x.2.1).toNat) (fun x => ∃ i : Nat, x = (codeS l i, (i : Int), (pk l, (l.length : Int)), (0, (0, (0, (([], 0), 0)))), ()) ∧ i ≤ 32)
   (fun r => r = (codeS l 32, (pk l, (l.length : Int)), (0, (0, (0, (([], 0), 0)))), ())) ?_ _ ⟨0, rfl, by omega⟩
  rintro x ⟨i, rfl, h1⟩
  by_cases h2 : i < 32
  ·left
   have hb := r04_bitAt_eq (l := l) (i := i) hl (by omega)
   have hr := bI_range l i
   have hcr := codeS_lt l (n := i) (by omega)
   refine ⟨(codeS l (i + 1), ((i + 1 : Nat) : Int), (pk l, (l.length : Int)), (0, (0, (0, (([], 0), 0)))), ()), ?_, ⟨i + 1, rfl, h2⟩, by simp only; omega⟩
   simp (disch := omega) only [g_r04_Start_r1, dT, hb, Option.bind_some, wrap_u64, wrap_i64]
   rfl
  ·right
   have : i = 32 := by omega
   subst this
   refine ⟨_, ?_, rfl⟩
   simp (disch := omega) only [g_r04_Start_r1, dF]
 obtain ⟨r, h1, rfl⟩ := loop
 have hcr := codeS_lt l (n := 32) (by omega)
 simp (disch := omega) only [g_r04_Start, hc, nF, Option.bind_some, h1, Copy_eq hl, wrap_u32]
theorem Start_same {B : List Int} {N : Int} (hB : bytes B) (hs : small B) : ∃ r, g_coder_Start (B, N) = some r ∧ g_r04_Start (B, N) = some r ∧ ((r = (zDec, 1) ∧ ¬ okB B N) ∨
  ∃ l : List Bool, l.length ≤ 65536 ∧ B = pk l ∧ N = l.length ∧ r = ((0, (4294967295, (codeS l 32, ((pk l, (l.length : Int)), 32)))), 0)) := by
 by_cases h : okB B N
 ·obtain ⟨l, rfl, rfl, hl⟩ := (okB_iff hB).1 h
  exact ⟨_, coder_Start_ok hl, r04_Start_ok hl, .inr ⟨l, hl, rfl, rfl, rfl⟩⟩
 ·have h1 := bits_Check_eq (N := N) hB hs
  have h2 := r01_Check_eq (N := N) hB hs
  unfold ck at h1 h2
  rw [if_neg h] at h1 h2
  refine ⟨(zDec, 1), ?_, ?_, .inl ⟨rfl, h⟩⟩
  ·simp (disch := omega) only [g_coder_Start, h1, nT, Option.bind_some]; rfl
  ·simp (disch := omega) only [g_r04_Start, h2, nT, Option.bind_some]; rfl
def okD (d : DecT) : Prop := goodP d.1 d.2.1 ∧ d.1 ≤ d.2.2.1 ∧ d.2.2.1 ≤ d.2.1 ∧ okB d.2.2.2.1.1 d.2.2.2.1.2 ∧ 32 ≤ d.2.2.2.2 ∧ d.2.2.2.2 ≤ 65600
def wfD (d : DecT) : Prop := (0 ≤ d.1 ∧ d.1 < 4294967296) ∧ (0 ≤ d.2.1 ∧ d.2.1 < 4294967296) ∧ (0 ≤ d.2.2.1 ∧ d.2.2.1 < 4294967296) ∧ bytes d.2.2.2.1.1 ∧ small d.2.2.2.1.1
theorem CheckDec_t {d : DecT} (h : wfD d) (ho : okD d) : g_r04_CheckDec d = some true := by
 obtain ⟨lo, hi, c, ⟨B, N⟩, p⟩ := d
 obtain ⟨h1, h2, h3, h4, h5⟩ := h
 have h1 : 0 ≤ lo ∧ lo < 4294967296 := h1
 have h2 : 0 ≤ hi ∧ hi < 4294967296 := h2
 have h4 : bytes B := h4
 have h5 : small B := h5
 obtain ⟨o1, o2, o3, o4, o5, o6⟩ := ho
 have o1 : goodP lo hi := o1
 have o2 : lo ≤ c := o2
 have o3 : c ≤ hi := o3
 have o4 : okB B N := o4
 have o5 : 32 ≤ p := o5
 have o6 : p ≤ 65600 := o6
 have hw := wide_eq (lo := lo) (hi := hi) (by omega)
 rw [decide_eq_true o1] at hw
 have hc := r01_Check_eq (N := N) h4 h5
 unfold ck at hc
 rw [if_pos o4] at hc
 have e1 := wrap_u64 (n := lo) (by omega) (by omega)
 have e2 := wrap_u64 (n := hi) (by omega) (by omega)
 simp (disch := omega) only [g_r04_CheckDec, e1, e2, hw, hc, Option.bind_some, dT, cond_true, eT]
 rw [decide_eq_true (by omega)]
theorem CheckDec_f {d : DecT} (h : wfD d) (ho : ¬ okD d) : g_r04_CheckDec d = some false := by
 obtain ⟨lo, hi, c, ⟨B, N⟩, p⟩ := d
 obtain ⟨h1, h2, h3, h4, h5⟩ := h
 have h1 : 0 ≤ lo ∧ lo < 4294967296 := h1
 have h2 : 0 ≤ hi ∧ hi < 4294967296 := h2
 have h4 : bytes B := h4
 have h5 : small B := h5
 have hw := wide_eq (lo := lo) (hi := hi) (by omega)
 have hc := r01_Check_eq (N := N) h4 h5
 have e1 := wrap_u64 (n := lo) (by omega) (by omega)
 have e2 := wrap_u64 (n := hi) (by omega) (by omega)
 by_cases o1 : goodP lo hi
 ·rw [decide_eq_true o1] at hw
  by_cases o2 : lo ≤ c
  ·by_cases o3 : c ≤ hi
   ·unfold ck at hc
    by_cases o4 : okB B N
    ·rw [if_pos o4] at hc
     by_cases o5 : 32 ≤ p
     ·simp (disch := omega) only [g_r04_CheckDec, e1, e2, hw, hc, Option.bind_some, dT, cond_true, eT]
      rw [decide_eq_false (fun o6 => ho ⟨o1, o2, o3, o4, o5, o6⟩)]
     ·simp (disch := omega) only [g_r04_CheckDec, e1, e2, hw, hc, Option.bind_some, dT, dF, cond_true, eT]
    ·rw [if_neg o4] at hc
     simp (disch := omega) only [g_r04_CheckDec, e1, e2, hw, hc, Option.bind_some, dT, cond_true, eF]
   ·simp (disch := omega) only [g_r04_CheckDec, e1, e2, hw, Option.bind_some, dT, dF, cond_true]
  ·simp (disch := omega) only [g_r04_CheckDec, e1, e2, hw, Option.bind_some, dF, cond_true]
 ·rw [decide_eq_false o1] at hw
  simp (disch := omega) only [g_r04_CheckDec, e1, e2, hw, Option.bind_some, cond_false]
end Go.Sq
namespace Go.Sq
open Go.Rx
def findX (lo hi c t : Int) : Int := ((c - lo + 1) * t - 1) / (hi - lo + 1)
theorem find_facts {lo hi c t : Int} (h1 : lo ≤ c) (h2 : c ≤ hi) (hr : hi - lo + 1 ≤ 4294967296) (ht : 1 ≤ t) (ht2 : t ≤ 16384) :
  0 ≤ (c - lo + 1) * t - 1 ∧ (c - lo + 1) * t ≤ 70368744177664 ∧ 0 ≤ findX lo hi c t ∧ findX lo hi c t < t ∧ findX lo hi c t * (hi - lo + 1) ≤ (c - lo + 1) * t - 1 ∧ (c - lo + 1) * t ≤ (findX lo hi c t + 1) * (hi - lo + 1) := by
 have e1 : 1 * 1 ≤ (c - lo + 1) * t := Int.mul_le_mul (by omega) ht (by omega) (by omega)
 have e2 : (c - lo + 1) * t ≤ 4294967296 * 16384 := Int.mul_le_mul (by omega) ht2 (by omega) (by omega)
 have e3 : (c - lo + 1) * t ≤ (hi - lo + 1) * t := Int.mul_le_mul_of_nonneg_right (by omega) (by omega)
 have e4 : 0 ≤ findX lo hi c t := Int.ediv_nonneg (by omega) (by omega)
 have e5 : findX lo hi c t < t := by
  unfold findX
  apply Int.ediv_lt_of_lt_mul (by omega)
  rw [Int.mul_comm t]; omega
 have e6 : findX lo hi c t * (hi - lo + 1) ≤ (c - lo + 1) * t - 1 := Int.ediv_mul_le _ (by omega)
 have e7 : (c - lo + 1) * t - 1 < (findX lo hi c t + 1) * (hi - lo + 1) := Int.lt_ediv_add_one_mul_self _ (by omega)
 exact ⟨by omega, by omega, e4, e5, e6, by omega⟩
theorem find_within {lo hi c t a b : Int} (h1 : lo ≤ c) (h2 : c ≤ hi) (hr : hi - lo + 1 ≤ 4294967296) (ht : 1 ≤ t) (ht2 : t ≤ 16384) (ha : a ≤ findX lo hi c t) (hb : findX lo hi c t < b) :
  narL lo hi a t ≤ c ∧ c ≤ narH lo hi b t := by
 obtain ⟨f1, f2, f3, f4, f5, f6⟩ := find_facts h1 h2 hr ht ht2
 have g1 : a * (hi - lo + 1) ≤ findX lo hi c t * (hi - lo + 1) := Int.mul_le_mul_of_nonneg_right ha (by omega)
 have g2 : (findX lo hi c t + 1) * (hi - lo + 1) ≤ b * (hi - lo + 1) := Int.mul_le_mul_of_nonneg_right hb (by omega)
 have g3 : (hi - lo + 1) * a / t < c - lo + 1 := by
  apply Int.ediv_lt_of_lt_mul (by omega)
  rw [Int.mul_comm _ a]; omega
 have g4 : c - lo + 1 ≤ (hi - lo + 1) * b / t := by
  apply Int.le_ediv_of_mul_le (by omega)
  rw [Int.mul_comm _ b]; omega
 unfold narL narH
 omega
noncomputable def nextR (lo hi c : Int) (p : Nat) (l : List Bool) (C : List Int) (s : Nat) : DecT × Int × Int :=
  ((IntKind.u32.wrap (decS 33 (narL lo hi (C.getD s 0) (totS C)) (narH lo hi (C.getD (s + 1) 0) (totS C)) c p l).1,
    (IntKind.u32.wrap (decS 33 (narL lo hi (C.getD s 0) (totS C)) (narH lo hi (C.getD (s + 1) 0) (totS C)) c p l).2.1,
     (IntKind.u32.wrap (decS 33 (narL lo hi (C.getD s 0) (totS C)) (narH lo hi (C.getD (s + 1) 0) (totS C)) c p l).2.2.1,
      ((pk l, (l.length : Int)), (((decS 33 (narL lo hi (C.getD s 0) (totS C)) (narH lo hi (C.getD (s + 1) 0) (totS C)) c p l).2.2.2 : Nat) : Int))))), ((s : Int), 0))
theorem coder_Next_ok {lo hi c : Int} {p : Nat} {l : List Bool} {C : List Int} {s : Nat} (hlo : 0 ≤ lo) (hhi : hi < 4294967296) (hg : goodP lo hi) (hc1 : lo ≤ c) (hc2 : c ≤ hi) (hl : l.length ≤ 65536)
  (hp1 : 32 ≤ p) (hp2 : p ≤ l.length + 32) (hF : okF C) (hs : isSym C (findX lo hi c (totS C)) s) :
  g_coder_Next (lo, (hi, (c, ((pk l, (l.length : Int)), (p : Int))))) C = some (nextR lo hi c p l C s) := by
 have hF2 := hF.2.1
 have hsm : small C := by unfold small; omega
 have hgl := hg.1
 have e1 := wrap_u64 (n := lo) (by omega) (by omega)
 have e2 := wrap_u64 (n := hi) (by omega) (by omega)
 have e3 := wrap_u64 (n := c) (by omega) (by omega)
 have hgd := good_eq (lo := lo) (hi := hi)
 rw [decide_eq_true hg] at hgd
 have hc := bits_Check_eq (N := l.length) (pk_bytes l) (small_pk hl)
 rw [ck_pk hl] at hc
 have hfc := freq_Check_eq hsm
 rw [ckF_pos hF] at hfc
 have ht := freq_Total_eq hsm
 obtain ⟨_, ht1, ht2⟩ := totS_pos hF
 have hfind := freq_Find_eq hF hs
 have hs1 := hs.1
 have a0 := okF_mono hF (i := 0) (j := s) (by omega) (by omega)
 rw [hF.2.2.1] at a0
 have a1 := hF.2.2.2.2 s hs1
 have a2 := okF_mono hF (i := s + 1) (j := C.length - 1) (by omega) (by omega)
 rw [← (totS_pos hF).1] at a2
 have hgw := good_wide hg
 have hw := find_within (a := C.getD s 0) (b := C.getD (s + 1) 0) hc1 hc2 (by omega) ht1 ht2 hs.2.1 hs.2.2
 obtain ⟨q1, q2, q3, q4, _, _⟩ := find_facts hc1 hc2 (by omega) ht1 ht2
 have e4 : ((s : Int) + 1).toNat = s + 1 := by omega
 unfold nextR
 generalize hga : C.getD s 0 = a at *
 generalize hgb : C.getD (s + 1) 0 = b at *
 generalize totS C = t at *
 obtain ⟨f1, f2, f3, f4, f5, f6, f7⟩ := nar_facts (r := hi - lo + 1) (a := a) (b := b) (t := t) (by omega) (by omega) a0 a1 a2 ht1 ht2
 have d0 : ((c - lo + 1) * t - 1).tdiv (hi - lo + 1) = findX lo hi c t := Int.tdiv_eq_ediv_of_nonneg q1
 have d1 : ((hi - lo + 1) * a).tdiv t = (hi - lo + 1) * a / t := Int.tdiv_eq_ediv_of_nonneg f1
 have d2 : ((hi - lo + 1) * b).tdiv t = (hi - lo + 1) * b / t := Int.tdiv_eq_ediv_of_nonneg f3
 have hL : narL lo hi a t = lo + (hi - lo + 1) * a / t := rfl
 have hH : narH lo hi b t = lo + (hi - lo + 1) * b / t - 1 := rfl
 rw [hL, hH] at hw ⊢
 generalize findX lo hi c t = x at *
 generalize (hi - lo + 1) * a / t = qa at *
 generalize (hi - lo + 1) * b / t = qb at *
 have hit := fun (d z : DecT) (hd : d.2.2.2.1 = (pk l, (l.length : Int))) => coder_read (n := 32) (lo := lo + qa) (hi := lo + qb - 1) (c := c) (p := p) (l := l) (s := (s : Int)) (d := d) (z := z) (roomy_start (by omega) (by omega) (by omega)) hw hl (by omega) (by omega) hd
 have hit := hit (lo, (hi, (c, ((pk l, (l.length : Int)), (p : Int))))) (0, (0, (0, (([], 0), 0)))) rfl
 simp (disch := omega) only [g_coder_Next, e1, e2, e3, hgd, hc, hfc, ht, Bool.not_true, cond_false, dF, nF, nT, Option.bind_some, wrap_i64, wrap_u64, d0, d1, d2, hfind, wT, Int.toNat_natCast, e4, hga, hgb, hit, owned_eq hl]
theorem r04_Next_ok {lo hi c : Int} {p : Nat} {l : List Bool} {C : List Int} {s : Nat} (hlo : 0 ≤ lo) (hhi : hi < 4294967296) (hg : goodP lo hi) (hc1 : lo ≤ c) (hc2 : c ≤ hi) (hl : l.length ≤ 65536)
  (hp1 : 32 ≤ p) (hp2 : p ≤ l.length + 32) (hF : okF C) (hs : isSym C (findX lo hi c (totS C)) s) :
  g_r04_Next (lo, (hi, (c, ((pk l, (l.length : Int)), (p : Int))))) C = some (nextR lo hi c p l C s) := by
 have hF2 := hF.2.1
 have hsm : small C := by unfold small; omega
 have hgl := hg.1
 have e1 := wrap_u64 (n := lo) (by omega) (by omega)
 have e2 := wrap_u64 (n := hi) (by omega) (by omega)
 have e3 := wrap_u64 (n := c) (by omega) (by omega)
 have hce := CheckDec_t (d := (lo, (hi, (c, ((pk l, (l.length : Int)), (p : Int)))))) ⟨by simp only; omega, by simp only; omega, by simp only; omega, pk_bytes l, small_pk hl⟩
  ⟨hg, hc1, hc2, (okB_iff (pk_bytes l)).2 ⟨l, rfl, rfl, hl⟩, by simp only; omega, by simp only; omega⟩
 have hfc := r03_Check_eq hsm
 rw [ckF_pos hF] at hfc
 have ht := r03_Total_eq hsm
 obtain ⟨_, ht1, ht2⟩ := totS_pos hF
 have hfind := r03_Find_eq hF hs
 have hsp := r03_Span_eq (s := (s : Int)) hsm (by have := hs.1; omega)
 unfold spanS at hsp
 rw [if_pos ⟨hF, by omega, by have := hs.1; omega⟩, Int.toNat_natCast] at hsp
 have hs1 := hs.1
 have a0 := okF_mono hF (i := 0) (j := s) (by omega) (by omega)
 rw [hF.2.2.1] at a0
 have a1 := hF.2.2.2.2 s hs1
 have a2 := okF_mono hF (i := s + 1) (j := C.length - 1) (by omega) (by omega)
 rw [← (totS_pos hF).1] at a2
 have hgw := good_wide hg
 have hw := find_within (a := C.getD s 0) (b := C.getD (s + 1) 0) hc1 hc2 (by omega) ht1 ht2 hs.2.1 hs.2.2
 obtain ⟨q1, q2, q3, q4, _, _⟩ := find_facts hc1 hc2 (by omega) ht1 ht2
 have e4 : ((s : Int) + 1).toNat = s + 1 := by omega
 unfold nextR
 generalize hga : C.getD s 0 = a at *
 generalize hgb : C.getD (s + 1) 0 = b at *
 generalize totS C = t at *
 obtain ⟨f1, f2, f3, f4, f5, f6, f7⟩ := nar_facts (r := hi - lo + 1) (a := a) (b := b) (t := t) (by omega) (by omega) a0 a1 a2 ht1 ht2
 have d0 : ((c - lo + 1) * t - 1).tdiv (hi - lo + 1) = findX lo hi c t := Int.tdiv_eq_ediv_of_nonneg q1
 have d1 : ((hi - lo + 1) * a).tdiv t = (hi - lo + 1) * a / t := Int.tdiv_eq_ediv_of_nonneg f1
 have d2 : ((hi - lo + 1) * b).tdiv t = (hi - lo + 1) * b / t := Int.tdiv_eq_ediv_of_nonneg f3
 have hL : narL lo hi a t = lo + (hi - lo + 1) * a / t := rfl
 have hH : narH lo hi b t = lo + (hi - lo + 1) * b / t - 1 := rfl
 rw [hL, hH] at hw ⊢
 generalize findX lo hi c t = x at *
 generalize (hi - lo + 1) * a / t = qa at *
 generalize (hi - lo + 1) * b / t = qb at *
 have hit := fun (d z : DecT) (hd : d.2.2.2.1 = (pk l, (l.length : Int))) => r04_read (n := 32) (lo := lo + qa) (hi := lo + qb - 1) (c := c) (p := p) (l := l) (s := (s : Int)) (d := d) (z := z) (roomy_start (by omega) (by omega) (by omega)) hw hl (by omega) (by omega) hd
 have hit := hit (lo, (hi, (c, ((pk l, (l.length : Int)), (p : Int))))) (0, (0, (0, (([], 0), 0)))) rfl
 simp (disch := omega) only [g_r04_Next, g_r04_narrow, e1, e2, e3, hce, hfc, ht, Bool.not_true, cond_false, dF, nF, nT, Option.bind_some, wrap_i64, wrap_u64, d0, d1, d2, hfind, hsp, hit]
theorem coder_Next_arg {d : DecT} {C : List Int} (hd : wfD d) (hC : small C) (h : ¬ (okD d ∧ okF C)) : g_coder_Next d C = some (zDec, (0, 1)) := by
 obtain ⟨lo, hi, c, ⟨B, N⟩, p⟩ := d
 obtain ⟨h1, h2, h3, h4, h5⟩ := hd
 have h1 : 0 ≤ lo ∧ lo < 4294967296 := h1
 have h2 : 0 ≤ hi ∧ hi < 4294967296 := h2
 have h3 : 0 ≤ c ∧ c < 4294967296 := h3
 have h4 : bytes B := h4
 have h5 : small B := h5
 have e1 := wrap_u64 (n := lo) (by omega) (by omega)
 have e2 := wrap_u64 (n := hi) (by omega) (by omega)
 have e3 := wrap_u64 (n := c) (by omega) (by omega)
 have hgd := good_eq (lo := lo) (hi := hi)
 have hc := bits_Check_eq (N := N) h4 h5
 have hfc := freq_Check_eq hC
 have hz : zDec = (0, (0, (0, (([], 0), 0)))) := rfl
 rw [hz]
 by_cases g : goodP lo hi
 ·rw [decide_eq_true g] at hgd
  by_cases g1 : lo ≤ c
  ·by_cases g2 : c ≤ hi
   ·unfold ck at hc
    by_cases g3 : okB B N
    ·rw [if_pos g3] at hc
     by_cases g4 : 32 ≤ p
     ·by_cases g5 : p ≤ 65600
      ·rw [ckF_neg (fun hh => h ⟨⟨g, g1, g2, g3, g4, g5⟩, hh⟩)] at hfc
       simp (disch := omega) only [g_coder_Next, e1, e2, e3, hgd, hc, hfc, Bool.not_true, cond_false, dF, nF, nT, Option.bind_some]
      ·simp (disch := omega) only [g_coder_Next, e1, e2, e3, hgd, hc, Bool.not_true, cond_false, cond_true, dF, dT, nF, Option.bind_some]
     ·simp (disch := omega) only [g_coder_Next, e1, e2, e3, hgd, hc, Bool.not_true, cond_false, cond_true, dF, dT, nF, Option.bind_some]
    ·rw [if_neg g3] at hc
     simp (disch := omega) only [g_coder_Next, e1, e2, e3, hgd, hc, Bool.not_true, cond_false, cond_true, dF, nT, Option.bind_some]
   ·simp (disch := omega) only [g_coder_Next, e1, e2, e3, hgd, Bool.not_true, cond_false, cond_true, dF, dT, Option.bind_some]
  ·simp (disch := omega) only [g_coder_Next, e1, e2, e3, hgd, Bool.not_true, cond_false, cond_true, dT, Option.bind_some]
 ·rw [decide_eq_false g] at hgd
  simp (disch := omega) only [g_coder_Next, e1, e2, e3, hgd, Bool.not_false, cond_true, Option.bind_some]
theorem r04_Next_arg {d : DecT} {C : List Int} (hd : wfD d) (hC : small C) (h : ¬ (okD d ∧ okF C)) : g_r04_Next d C = some (zDec, (0, 1)) := by
 have hfc := r03_Check_eq hC
 have hz : zDec = (0, (0, (0, (([], 0), 0)))) := rfl
 rw [hz]
 by_cases g : okD d
 ·have hce := CheckDec_t hd g
  rw [ckF_neg (fun hh => h ⟨g, hh⟩)] at hfc
  simp (disch := omega) only [g_r04_Next, hce, hfc, Bool.not_true, cond_false, nT, Option.bind_some]
 ·have hce := CheckDec_f hd g
  simp (disch := omega) only [g_r04_Next, hce, Bool.not_false, cond_true, Option.bind_some]
theorem coder_Next_short {lo hi c : Int} {p : Nat} {l : List Bool} {C : List Int} (hlo : 0 ≤ lo) (hhi : hi < 4294967296) (hg : goodP lo hi) (hc1 : lo ≤ c) (hc2 : c ≤ hi) (hl : l.length ≤ 65536)
  (hp1 : 32 ≤ p) (hp2 : l.length + 32 < p) (hp3 : p ≤ 65600) (hF : okF C) : g_coder_Next (lo, (hi, (c, ((pk l, (l.length : Int)), (p : Int))))) C = some (zDec, (0, 20)) := by
 have hF2 := hF.2.1
 have hsm : small C := by unfold small; omega
 have e1 := wrap_u64 (n := lo) (by omega) (by omega)
 have e2 := wrap_u64 (n := hi) (by omega) (by omega)
 have e3 := wrap_u64 (n := c) (by omega) (by omega)
 have hgd := good_eq (lo := lo) (hi := hi)
 rw [decide_eq_true hg] at hgd
 have hc := bits_Check_eq (N := l.length) (pk_bytes l) (small_pk hl)
 rw [ck_pk hl] at hc
 have hfc := freq_Check_eq hsm
 rw [ckF_pos hF] at hfc
 have hz : zDec = (0, (0, (0, (([], 0), 0)))) := rfl
 rw [hz]
 simp (disch := omega) only [g_coder_Next, e1, e2, e3, hgd, hc, hfc, Bool.not_true, cond_false, dF, dT, nF, Option.bind_some, bne_self_eq_false, wrap_i64]
theorem r04_Next_short {lo hi c : Int} {p : Nat} {l : List Bool} {C : List Int} (hlo : 0 ≤ lo) (hhi : hi < 4294967296) (hg : goodP lo hi) (hc1 : lo ≤ c) (hc2 : c ≤ hi) (hl : l.length ≤ 65536)
  (hp1 : 32 ≤ p) (hp2 : l.length + 32 < p) (hp3 : p ≤ 65600) (hF : okF C) : g_r04_Next (lo, (hi, (c, ((pk l, (l.length : Int)), (p : Int))))) C = some (zDec, (0, 20)) := by
 have hF2 := hF.2.1
 have hsm : small C := by unfold small; omega
 have hce := CheckDec_t (d := (lo, (hi, (c, ((pk l, (l.length : Int)), (p : Int)))))) ⟨by simp only; omega, by simp only; omega, by simp only; omega, pk_bytes l, small_pk hl⟩
  ⟨hg, hc1, hc2, (okB_iff (pk_bytes l)).2 ⟨l, rfl, rfl, hl⟩, by simp only; omega, by simp only; omega⟩
 have hfc := r03_Check_eq hsm
 rw [ckF_pos hF] at hfc
 have hz : zDec = (0, (0, (0, (([], 0), 0)))) := rfl
 rw [hz]
 simp (disch := omega) only [g_r04_Next, hce, hfc, Bool.not_true, cond_false, dT, nF, Option.bind_some, bne_self_eq_false, wrap_i64]
theorem okD_form {d : DecT} (h : wfD d) (ho : okD d) : ∃ (lo hi c : Int) (p : Nat) (l : List Bool), d = (lo, (hi, (c, ((pk l, (l.length : Int)), (p : Int))))) ∧ 0 ≤ lo ∧ hi < 4294967296 ∧ goodP lo hi ∧ lo ≤ c ∧ c ≤ hi ∧ l.length ≤ 65536 ∧ 32 ≤ p ∧ p ≤ 65600 := by
 obtain ⟨lo, hi, c, ⟨B, N⟩, p⟩ := d
 obtain ⟨h1, h2, h3, h4, h5⟩ := h
 obtain ⟨o1, o2, o3, o4, o5, o6⟩ := ho
 have o5 : 32 ≤ p := o5
 have o6 : p ≤ 65600 := o6
 have h1 : 0 ≤ lo ∧ lo < 4294967296 := h1
 have h2 : 0 ≤ hi ∧ hi < 4294967296 := h2
 obtain ⟨l, hB, hN, hl⟩ := (okB_iff h4).1 o4
 have hB : B = pk l := hB
 have hN : N = l.length := hN
 subst hB; subst hN
 obtain ⟨n, rfl⟩ : ∃ n : Nat, p = n := ⟨p.toNat, by omega⟩
 exact ⟨lo, hi, c, n, l, rfl, h1.1, h2.2, o1, o2, o3, hl, by omega, by omega⟩
theorem Next_same {d : DecT} {C : List Int} (hd : wfD d) (hC : small C) : ∃ r, g_coder_Next d C = some r ∧ g_r04_Next d C = some r ∧
  ((r = (zDec, (0, 1)) ∧ ¬ (okD d ∧ okF C)) ∨ ∃ (lo hi c : Int) (p : Nat) (l : List Bool), d = (lo, (hi, (c, ((pk l, (l.length : Int)), (p : Int))))) ∧ okD d ∧ okF C ∧ l.length ≤ 65536 ∧ 0 ≤ lo ∧ hi < 4294967296 ∧ goodP lo hi ∧ lo ≤ c ∧ c ≤ hi ∧ 32 ≤ p ∧
   ((r = (zDec, (0, 20)) ∧ l.length + 32 < p) ∨ ∃ s, p ≤ l.length + 32 ∧ isSym C (findX lo hi c (totS C)) s ∧ r = nextR lo hi c p l C s)) := by
 by_cases h : okD d ∧ okF C
 ·obtain ⟨ho, hF⟩ := h
  obtain ⟨lo, hi, c, p, l, rfl, a1, a2, a3, a4, a5, a6, a7, a8⟩ := okD_form hd ho
  by_cases hp : l.length + 32 < p
  ·exact ⟨_, coder_Next_short a1 a2 a3 a4 a5 a6 a7 hp a8 hF, r04_Next_short a1 a2 a3 a4 a5 a6 a7 hp a8 hF, .inr ⟨lo, hi, c, p, l, rfl, ho, hF, a6, a1, a2, a3, a4, a5, a7, .inl ⟨rfl, hp⟩⟩⟩
  ·have hgl := a3.1
   obtain ⟨_, t1, t2⟩ := totS_pos hF
   obtain ⟨_, _, f3, f4, _, _⟩ := find_facts a4 a5 (by omega) t1 t2
   obtain ⟨s, hs⟩ := isSym_ex hF f3 f4
   exact ⟨_, coder_Next_ok a1 a2 a3 a4 a5 a6 a7 (by omega) hF hs, r04_Next_ok a1 a2 a3 a4 a5 a6 a7 (by omega) hF hs, .inr ⟨lo, hi, c, p, l, rfl, ho, hF, a6, a1, a2, a3, a4, a5, a7, .inr ⟨s, by omega, hs, rfl⟩⟩⟩
 ·exact ⟨_, coder_Next_arg hd hC h, r04_Next_arg hd hC h, .inl ⟨rfl, h⟩⟩
end Go.Sq
namespace Go.Sq
open Go.Rx
theorem u32_range (x : Int) : 0 ≤ IntKind.u32.wrap x ∧ IntKind.u32.wrap x < 4294967296 := by
 simp only [IntKind.wrap, IntKind.bits, IntKind.signed]; simp; omega
def zEnc : EncT := (0, (0, (0, ([], 0))))
theorem wfE_zero : wfE zEnc := ⟨by simp [zEnc], by simp [zEnc], fun x hx => (nomatch hx), by simp [zEnc, small]⟩
theorem wfE_pk {lo hi : Int} {w : Int} {l : List Bool} (h1 : 0 ≤ lo ∧ lo < 4294967296) (h2 : 0 ≤ hi ∧ hi < 4294967296) (hl : l.length ≤ 65536) : wfE (lo, (hi, (w, (pk l, (l.length : Int))))) := ⟨h1, h2, pk_bytes l, small_pk hl⟩
theorem doneS_wf {n : Nat} {lo hi : Int} {w : Nat} {l : List Bool} (hl : l.length ≤ 65536) : wfE (doneS (widS n lo hi w l)).2.1 := by
 cases h : widS n lo hi w l with
 | none => exact wfE_zero
 | some r =>
  obtain ⟨lo', hi', w', l'⟩ := r
  have := widS_len hl h
  unfold doneS
  dsimp only
  split
  ·exact wfE_zero
  ·exact wfE_pk (u32_range _) (u32_range _) this.1
noncomputable def PutF (e : EncT) (C : List Int) (s : Int) : EncT × Int := (g_coder_Put e C s).getD (zEnc, 1)
theorem PutF_same {e : EncT} {C : List Int} {s : Int} (he : wfE e) (hC : small C) (hs : s < 2 ^ 63) : g_coder_Put e C s = some (PutF e C s) ∧ g_r04_Put e C s = some (PutF e C s) ∧ wfE (PutF e C s).1 := by
 obtain ⟨r, h1, h2, h3⟩ := Put_same he hC hs
 have : PutF e C s = r := by unfold PutF; rw [h1]; rfl
 rw [this]
 refine ⟨h1, h2, ?_⟩
 rcases h3 with ⟨rfl, _⟩ | ⟨lo, hi, w, l, _, _, _, _, hl, rfl⟩
 ·exact wfE_zero
 ·exact doneS_wf hl
noncomputable def EndF (e : EncT) : (List Int × Int) × Int := (g_coder_End e).getD (([], 0), 1)
theorem EndF_same {e : EncT} (he : wfE e) : g_coder_End e = some (EndF e) ∧ g_r04_End e = some (EndF e) := by
 obtain ⟨r, h1, h2, _⟩ := End_same he
 have : EndF e = r := by unfold EndF; rw [h1]; rfl
 rw [this]; exact ⟨h1, h2⟩
noncomputable def putAll : List (Int × List Int) → EncT → EncT × Int
 | [], e => (e, 0)
 | x :: r, e => if (PutF e x.2 x.1).2 ≠ 0 then (zEnc, (PutF e x.2 x.1).2) else putAll r (PutF e x.2 x.1).1
def eBegin : EncT := (0, (4294967295, (0, ([], 0))))
theorem wfE_begin : wfE eBegin := ⟨by simp [eBegin], by simp [eBegin], fun x hx => (nomatch hx), by simp [eBegin, small]⟩
noncomputable def allF (l : List Int) (F : List (List Int)) : (List Int × Int) × Int :=
 if l.length ≠ F.length then (([], 0), 1) else if (putAll (l.zip F) eBegin).2 ≠ 0 then (([], 0), (putAll (l.zip F) eBegin).2) else EndF (putAll (l.zip F) eBegin).1
theorem zip_drop {l : List Int} {F : List (List Int)} (h : l.length = F.length) {i : Nat} (hi : i < l.length) : (l.zip F).drop i = (l.getD i 0, F.getD i []) :: (l.zip F).drop (i + 1) := by
 have hz : i < (l.zip F).length := by rw [List.length_zip]; omega
 rw [List.drop_eq_getElem_cons hz]
 congr 1
 rw [List.getElem_zip, List.getD_eq_getElem?_getD, List.getElem?_eq_getElem hi, List.getD_eq_getElem?_getD, List.getElem?_eq_getElem (by omega)]
 rfl
theorem mem_get {F : List (List Int)} {i : Nat} (h : i < F.length) : F.getD i [] ∈ F := by
 rw [List.getD_eq_getElem?_getD, List.getElem?_eq_getElem h]; exact List.getElem_mem h
theorem mem_getI {l : List Int} {i : Nat} (h : i < l.length) : l.getD i 0 ∈ l := by
 rw [List.getD_eq_getElem?_getD, List.getElem?_eq_getElem h]; exact List.getElem_mem h
def runR (W : EncT × Int) (r : ((List Int × Int) × EncT × Unit) ⊕ (Int × (List Int × Int) × Unit)) : Prop :=
 (∃ e, r = .inl (([], 0), e, ()) ∧ W = (e, 0) ∧ wfE e) ∨ (∃ k, r = .inr (k, ([], 0), ()) ∧ W = (zEnc, k) ∧ k ≠ 0)
theorem coder_run {l : List Int} {F : List (List Int)} (h : l.length = F.length) (hl : small l) (hF : ∀ C ∈ F, small C) (hr : ∀ s ∈ l, s < 2 ^ 63) {e : EncT} (he : wfE e) :
  ∃ r, iter g_coder_All_r1 (F, l, (l.length : Int), 0, ([], 0), e, ()) = some r ∧ runR (putAll (l.zip F) e) r := by
 unfold small at hl
 refine iter_ex (fun x => ((l.length : Int) - x.2.2.2.1).toNat) (fun x => ∃ (i : Nat) (e' : EncT), x = (F, l, (l.length : Int), (i : Int), ([], 0), e', ()) ∧ i ≤ l.length ∧ wfE e' ∧ putAll ((l.zip F).drop i) e' = putAll (l.zip F) e)
  (runR (putAll (l.zip F) e)) ?_ _ ⟨0, e, rfl, Nat.zero_le _, he, rfl⟩
 rintro x ⟨i, ⟨a1, a2, a3, a4, a5⟩, rfl, h1, h2, h3⟩
 by_cases h4 : i < l.length
 ·have hp := PutF_same h2 (hF _ (mem_get (i := i) (by omega))) (hr _ (mem_getI h4))
  obtain ⟨p1, _, p3⟩ := hp
  rw [zip_drop h h4, putAll] at h3
  generalize hy : PutF (a1, a2, a3, a4, a5) (F.getD i []) (l.getD i 0) = y at p1 p3 h3
  obtain ⟨⟨y1, y2, y3, y4, y5⟩, k⟩ := y
  by_cases h5 : k ≠ 0
  ·right
   refine ⟨_, ?_, .inr ⟨k, rfl, by rw [← h3]; exact if_pos h5, h5⟩⟩
   simp (disch := omega) only [g_coder_All_r1, dT, wT, Int.toNat_natCast, p1, Option.bind_some, nT]
  ·have hk : k = 0 := Decidable.not_not.1 h5
   subst hk
   left
   refine ⟨(F, l, (l.length : Int), ((i + 1 : Nat) : Int), ([], 0), (y1, y2, y3, y4, y5), ()), ?_, ⟨i + 1, _, rfl, h4, p3, h3⟩, by simp only; omega⟩
   simp (disch := omega) only [g_coder_All_r1, dT, wT, Int.toNat_natCast, p1, Option.bind_some, nF, wrap_i64]
   rfl
 ·right
  have hi : i = l.length := by omega
  rw [List.drop_eq_nil_of_le (by rw [List.length_zip]; omega), putAll] at h3
  refine ⟨_, ?_, .inl ⟨_, rfl, h3.symm, h2⟩⟩
  simp (disch := omega) only [g_coder_All_r1, dF]
theorem r04_run {l : List Int} {F : List (List Int)} (h : l.length = F.length) (hl : small l) (hF : ∀ C ∈ F, small C) (hr : ∀ s ∈ l, s < 2 ^ 63) {e : EncT} (he : wfE e) :
  ∃ r, iter g_r04_All_r1 (F, l, (l.length : Int), 0, ([], 0), e, ()) = some r ∧ runR (putAll (l.zip F) e) r := by
 unfold small at hl
 refine iter_ex (fun x => ((l.length : Int) - x.2.2.2.1).toNat) (fun x => ∃ (i : Nat) (e' : EncT), x = (F, l, (l.length : Int), (i : Int), ([], 0), e', ()) ∧ i ≤ l.length ∧ wfE e' ∧ putAll ((l.zip F).drop i) e' = putAll (l.zip F) e)
  (runR (putAll (l.zip F) e)) ?_ _ ⟨0, e, rfl, Nat.zero_le _, he, rfl⟩
 rintro x ⟨i, ⟨a1, a2, a3, a4, a5⟩, rfl, h1, h2, h3⟩
 by_cases h4 : i < l.length
 ·have hp := PutF_same h2 (hF _ (mem_get (i := i) (by omega))) (hr _ (mem_getI h4))
  obtain ⟨_, p1, p3⟩ := hp
  rw [zip_drop h h4, putAll] at h3
  generalize hy : PutF (a1, a2, a3, a4, a5) (F.getD i []) (l.getD i 0) = y at p1 p3 h3
  obtain ⟨⟨y1, y2, y3, y4, y5⟩, k⟩ := y
  by_cases h5 : k ≠ 0
  ·right
   refine ⟨_, ?_, .inr ⟨k, rfl, by rw [← h3]; exact if_pos h5, h5⟩⟩
   simp (disch := omega) only [g_r04_All_r1, dT, wT, Int.toNat_natCast, p1, Option.bind_some, nT]
  ·have hk : k = 0 := Decidable.not_not.1 h5
   subst hk
   left
   refine ⟨(F, l, (l.length : Int), ((i + 1 : Nat) : Int), ([], 0), (y1, y2, y3, y4, y5), ()), ?_, ⟨i + 1, _, rfl, h4, p3, h3⟩, by simp only; omega⟩
   simp (disch := omega) only [g_r04_All_r1, dT, wT, Int.toNat_natCast, p1, Option.bind_some, nF, wrap_i64]
   rfl
 ·right
  have hi : i = l.length := by omega
  rw [List.drop_eq_nil_of_le (by rw [List.length_zip]; omega), putAll] at h3
  refine ⟨_, ?_, .inl ⟨_, rfl, h3.symm, h2⟩⟩
  simp (disch := omega) only [g_r04_All_r1, dF]
theorem All_same {l : List Int} {F : List (List Int)} (hl : small l) (hl2 : small F) (hF : ∀ C ∈ F, small C) (hr : ∀ s ∈ l, s < 2 ^ 63) : g_coder_All l F = some (allF l F) ∧ g_r04_All l F = some (allF l F) := by
 unfold allF
 unfold small at hl hl2
 by_cases h : l.length = F.length
 ·rw [if_neg (by omega)]
  obtain ⟨r, h1, h2⟩ := coder_run h hl hF hr wfE_begin
  obtain ⟨r', h1', h2'⟩ := r04_run h hl hF hr wfE_begin
  have b1 : g_coder_Begin = some eBegin := rfl
  have b2 : g_r04_Begin = some eBegin := rfl
  constructor
  ·rcases h2 with ⟨⟨e1, e2, e3, e4, e5⟩, rfl, hW, he⟩ | ⟨k, rfl, hW, hk⟩
   ·rw [hW, if_neg (by simp)]
    have := (EndF_same he).1
    simp (disch := omega) only [g_coder_All, nF, b1, Option.bind_some]
    rw [show (eBegin.1, eBegin.2.1, eBegin.2.2.1, eBegin.2.2.2.1, eBegin.2.2.2.2) = eBegin from rfl, h1]
    simp only [Option.bind_some, this]
   ·rw [hW, if_pos hk]
    simp (disch := omega) only [g_coder_All, nF, b1, Option.bind_some]
    rw [show (eBegin.1, eBegin.2.1, eBegin.2.2.1, eBegin.2.2.2.1, eBegin.2.2.2.2) = eBegin from rfl, h1]
    simp only [Option.bind_some]
  ·rcases h2' with ⟨⟨e1, e2, e3, e4, e5⟩, rfl, hW, he⟩ | ⟨k, rfl, hW, hk⟩
   ·rw [hW, if_neg (by simp)]
    have := (EndF_same he).2
    simp (disch := omega) only [g_r04_All, nF, b2, Option.bind_some]
    rw [show (eBegin.1, eBegin.2.1, eBegin.2.2.1, eBegin.2.2.2.1, eBegin.2.2.2.2) = eBegin from rfl, h1']
    simp only [Option.bind_some, this]
   ·rw [hW, if_pos hk]
    simp (disch := omega) only [g_r04_All, nF, b2, Option.bind_some]
    rw [show (eBegin.1, eBegin.2.1, eBegin.2.2.1, eBegin.2.2.2.1, eBegin.2.2.2.2) = eBegin from rfl, h1']
    simp only [Option.bind_some]
 ·rw [if_pos h]
  simp (disch := omega) only [g_coder_All, g_r04_All, nT, and_self]
end Go.Sq
namespace Go.Sq
open Go.Rx
theorem wfD_zero : wfD zDec := ⟨by simp [zDec], by simp [zDec], by simp [zDec], fun x hx => (nomatch hx), by simp [zDec, small]⟩
theorem nextR_wf {lo hi c : Int} {p : Nat} {l : List Bool} {C : List Int} {s : Nat} (hl : l.length ≤ 65536) : wfD (nextR lo hi c p l C s).1 := ⟨u32_range _, u32_range _, u32_range _, pk_bytes l, small_pk hl⟩
noncomputable def NextF (d : DecT) (C : List Int) : DecT × Int × Int := (g_coder_Next d C).getD (zDec, (0, 1))
theorem NextF_same {d : DecT} {C : List Int} (hd : wfD d) (hC : small C) : g_coder_Next d C = some (NextF d C) ∧ g_r04_Next d C = some (NextF d C) ∧ wfD (NextF d C).1 := by
 obtain ⟨r, h1, h2, h3⟩ := Next_same hd hC
 have : NextF d C = r := by unfold NextF; rw [h1]; rfl
 rw [this]
 refine ⟨h1, h2, ?_⟩
 rcases h3 with ⟨rfl, _⟩ | ⟨lo, hi, c, p, l, _, _, _, hl, _, _, _, _, _, _, ⟨rfl, _⟩ | ⟨s, _, _, rfl⟩⟩
 ·exact wfD_zero
 ·exact wfD_zero
 ·exact nextR_wf hl
noncomputable def StartF (b : List Int × Int) : DecT × Int := (g_coder_Start b).getD (zDec, 1)
theorem StartF_same {B : List Int} {N : Int} (hB : bytes B) (hs : small B) : g_coder_Start (B, N) = some (StartF (B, N)) ∧ g_r04_Start (B, N) = some (StartF (B, N)) ∧ wfD (StartF (B, N)).1 := by
 obtain ⟨r, h1, h2, h3⟩ := Start_same (N := N) hB hs
 have : StartF (B, N) = r := by unfold StartF; rw [h1]; rfl
 rw [this]
 refine ⟨h1, h2, ?_⟩
 rcases h3 with ⟨rfl, _⟩ | ⟨l, hl, _, _, rfl⟩
 ·exact wfD_zero
 ·exact ⟨by simp, by simp, codeS_lt l (by omega), pk_bytes l, small_pk hl⟩
noncomputable def backS : List (List Int) → DecT → List Int → List Int × Int
 | [], _, acc => (acc, 0)
 | C :: r, d, acc => if (NextF d C).2.2 ≠ 0 then ([], (NextF d C).2.2) else backS r (NextF d C).1 (acc ++ [(NextF d C).2.1])
end Go.Sq
namespace Go.Sq
open Go.Rx
theorem PutF_ok {lo hi : Int} {w : Nat} {l : List Bool} {C : List Int} {s : Int} (hlo : 0 ≤ lo) (hhi : hi < 4294967296) (hg : goodP lo hi) (hw : w ≤ 65536) (hl : l.length ≤ 65536) (hs : okSpan C s) :
  PutF (lo, (hi, ((w : Int), (pk l, (l.length : Int))))) C s = putR lo hi w l C s := by
 unfold PutF; rw [coder_Put_ok hlo hhi hg hw hl hs]; rfl
theorem putR_eq {lo hi t lo' hi' : Int} {w w' : Nat} {l l' : List Bool} {C : List Int} {s : Int} (ht : totS C = t) (hW : widS 33 (narL lo hi (C.getD s.toNat 0) t) (narH lo hi (C.getD (s.toNat + 1) 0) t) w l = some (lo', hi', w', l'))
  (hw : w' ≤ 65536) (h1 : 0 ≤ lo' ∧ lo' < 4294967296) (h2 : 0 ≤ hi' ∧ hi' < 4294967296) : putR lo hi w l C s = ((lo', (hi', ((w' : Int), (pk l', (l'.length : Int))))), 0) := by
 unfold putR
 rw [ht, hW]
 unfold doneS flip3
 dsimp only
 rw [if_neg (by omega), wrap_u32 h1.1 h1.2, wrap_u32 h2.1 h2.2]
theorem NextF_ok {lo hi c : Int} {p : Nat} {l : List Bool} {C : List Int} {s : Nat} (hlo : 0 ≤ lo) (hhi : hi < 4294967296) (hg : goodP lo hi) (hc1 : lo ≤ c) (hc2 : c ≤ hi) (hl : l.length ≤ 65536)
  (hp1 : 32 ≤ p) (hp2 : p ≤ l.length + 32) (hF : okF C) (hs : isSym C (findX lo hi c (totS C)) s) : NextF (lo, (hi, (c, ((pk l, (l.length : Int)), (p : Int))))) C = nextR lo hi c p l C s := by
 unfold NextF; rw [coder_Next_ok hlo hhi hg hc1 hc2 hl hp1 hp2 hF hs]; rfl
theorem nextR_eq {lo hi c t lo' hi' c' : Int} {p p' : Nat} {l : List Bool} {C : List Int} {s : Nat} (ht : totS C = t) (hW : decS 33 (narL lo hi (C.getD s 0) t) (narH lo hi (C.getD (s + 1) 0) t) c p l = (lo', hi', c', p'))
  (h1 : 0 ≤ lo' ∧ lo' < 4294967296) (h2 : 0 ≤ hi' ∧ hi' < 4294967296) (h3 : 0 ≤ c' ∧ c' < 4294967296) : nextR lo hi c p l C s = ((lo', (hi', (c', ((pk l, (l.length : Int)), (p' : Int))))), ((s : Int), 0)) := by
 unfold nextR
 rw [ht, hW]
 dsimp only
 rw [wrap_u32 h1.1 h1.2, wrap_u32 h2.1 h2.2, wrap_u32 h3.1 h3.2]
theorem EndF_ok {lo hi : Int} {w : Nat} {l : List Bool} (hlo : 0 ≤ lo) (hhi : hi < 4294967296) (hg : goodP lo hi) (hw : w ≤ 65536) (hl : l.length ≤ 65536) :
  EndF (lo, (hi, ((w : Int), (pk l, (l.length : Int))))) = outS l (decide (1073741824 ≤ lo)) (w + 1) := by
 unfold EndF; rw [coder_End_ok hlo hhi hg hw hl]; rfl
end Go.Sq
namespace Go.Sq
open Go.Rx
end Go.Sq
namespace Go.Sq
open Go.Rx
theorem wf_u8 {x : Int} (h : wf (.int .u8) x) : 0 ≤ x ∧ x ≤ 255 := by
 have e : IntKind.u8.max = 255 := by decide
 have e' : IntKind.u8.min = 0 := by decide
 have h1 : IntKind.u8.min ≤ x := h.1
 have h2 : x ≤ IntKind.u8.max := h.2
 rw [e'] at h1
 rw [e] at h2
 omega
theorem small_of {α : Type} {l : List α} (h : l.length ≤ maxLen) : small l := by unfold small; unfold maxLen at h; omega
theorem wf_bytes {l : List Int} (h : wf (.sl (.int .u8)) l) : small l ∧ bytes l := ⟨small_of h.1, fun x hx => wf_u8 (h.2 x hx)⟩
end Go.Sq
namespace Go.Sq
open Go.Rx
end Go.Sq
namespace Go.Sq
open Go.Rx
def evenC : List Int := (List.range 257).map fun (j : Nat) => (j : Int)
theorem rng_get (n i : Nat) (h : i < n) : ((List.range n).map fun (j : Nat) => (j : Int)).getD i 0 = (i : Int) := by
 simp [List.getD_eq_getElem?_getD, h]
theorem evenC_len : evenC.length = 257 := by simp [evenC]
theorem evenC_get {i : Nat} (h : i < 257) : evenC.getD i 0 = (i : Int) := rng_get 257 i h
theorem evenC_ok : okF evenC := by
 refine ⟨by rw [evenC_len]; omega, by rw [evenC_len]; omega, evenC_get (by omega), ?_, fun i hi => ?_⟩
 ·rw [evenC_len, evenC_get (by omega)]; omega
 ·rw [evenC_len] at hi
  rw [evenC_get (by omega), evenC_get (by omega)]; omega
theorem even_repeat : g_slices_Repeat_Sint_int [1] 256 = some (List.replicate 256 1) := by
 have step : ∀ a b : List Int, ∀ n m : Int, g_slices_Repeat_Sint_int_r1 (a, n, ()) = some (.inl (b, m, ())) → iter g_slices_Repeat_Sint_int_r1 (a, n, ()) = iter g_slices_Repeat_Sint_int_r1 (b, m, ()) := fun a b n m h => iter_inl h
 have h0 : g_slices_Repeat_Sint_int [1] 256 = (iter g_slices_Repeat_Sint_int_r1 (1 :: List.replicate 255 0, 1, ())).bind fun j4 => some j4.1 := by kernel_rfl
 rw [h0]
 rw [step _ (List.replicate 2 1 ++ List.replicate 254 0) _ 2 (by kernel_rfl), step _ (List.replicate 4 1 ++ List.replicate 252 0) _ 4 (by kernel_rfl), step _ (List.replicate 8 1 ++ List.replicate 248 0) _ 8 (by kernel_rfl),
  step _ (List.replicate 16 1 ++ List.replicate 240 0) _ 16 (by kernel_rfl), step _ (List.replicate 32 1 ++ List.replicate 224 0) _ 32 (by kernel_rfl), step _ (List.replicate 64 1 ++ List.replicate 192 0) _ 64 (by kernel_rfl),
  step _ (List.replicate 128 1 ++ List.replicate 128 0) _ 128 (by kernel_rfl), step _ (List.replicate 256 1) _ 256 (by kernel_rfl)]
 rw [iter_inr (r := (List.replicate 256 1, ())) (by kernel_rfl)]
 rfl
theorem rng_succ (n : Nat) : ((List.range (n + 1)).map fun (j : Nat) => (j : Int)) ++ [((n + 1 : Nat) : Int)] = (List.range (n + 2)).map fun (j : Nat) => (j : Int) := by
 rw [List.range_succ (n := n + 1)]; simp
theorem new_ones {ones : List Int} (hl : ones.length = 256) (ho : ∀ i, i < 256 → ones.getD i 0 = 1) : g_freq_New ones = some (evenC, 0) := by
 have loop : iter g_freq_New_r1 (ones, ones, (ones.length : Int), 0, [], [0], ()) = some (.inl (ones, [], evenC, ())) := by
  obtain ⟨r, h1, h2⟩ := iter_ex (f := g_freq_New_r1) (fun x => (256 - x.2.2.2.1).toNat) (fun x => ∃ i : Nat, x = (ones, ones, (ones.length : Int), (i : Int), [], ((List.range (i + 1)).map fun (j : Nat) => (j : Int)), ()) ∧ i ≤ 256)
   (fun r => r = .inl (ones, [], evenC, ())) (by
    rintro x ⟨i, rfl, h1⟩
    by_cases h2 : i < 256
    ·left
     have hg := ho i h2
     have hlen : ((List.range (i + 1)).map fun (j : Nat) => (j : Int)).length = i + 1 := by simp
     have hlast := last_eq (C := (List.range (i + 1)).map fun (j : Nat) => (j : Int)) (by omega) (by omega)
     rw [hlen, Nat.add_sub_cancel, rng_get _ _ (by omega)] at hlast
     have hroom : room 8 ((List.range (i + 2)).map fun (j : Nat) => (j : Int)).length = true := room_iff.2 (by simp; omega)
     refine ⟨_, ?_, ⟨i + 1, rfl, h2⟩, by simp only; omega⟩
     have hs := rng_succ i
     have e : ((i + 1 : Nat) : Int) = (i : Int) + 1 := by omega
     rw [e] at hs
     simp (disch := omega) only [g_freq_New_r1, dT, dF, wT, Int.toNat_natCast, hg, hlast, Option.bind_some, wrap_i64, hs, hroom, cond_true]
     rw [e]
    ·right
     have : i = 256 := by omega
     subst this
     refine ⟨_, ?_, rfl⟩
     simp (disch := omega) only [g_freq_New_r1, dF]
     rfl) _ ⟨0, rfl, by omega⟩
  have h1' : iter g_freq_New_r1 (ones, ones, (ones.length : Int), 0, [], [0], ()) = some r := h1
  rw [h1', h2]
 have hroom : (decide ((0 : Int) ≤ 1) && decide (1 ≤ (256 : Int) + 1) && room 8 ((256 : Int) + 1).toNat) = true := by decide
 have e : (ones.length : Int) = 256 := by omega
 rw [e] at loop
 have hrep : List.replicate 1 (0 : Int) = [0] := rfl
 have e2 : ((256 : Int) == 0) = false := by decide
 simp (disch := omega) only [g_freq_New, dF, e, wrap_i64, hrep, loop, Option.bind_some, eF]
 exact cT hroom
theorem even_new : g_freq_New (List.replicate 256 1) = some (evenC, 0) := new_ones List.length_replicate fun i hi => by
 rw [List.getD_eq_getElem?_getD, List.getElem?_replicate, if_pos hi]; rfl
theorem even_eq : g_freq_Even 256 = some (evenC, 0) := by
 simp (disch := omega) only [g_freq_Even, dF, Option.bind_some, even_repeat, even_new, decide_false, cond_false]
def bits8 (l : List Int) : List Bool := l.flatMap fun x => bn x.toNat 8
theorem bits8_len (l : List Int) : (bits8 l).length = 8 * l.length := by
 induction l with
 | nil => rfl
 | cons x l ih =>
  show (bn x.toNat 8 ++ bits8 l).length = _
  rw [List.length_append, bn_len, ih, List.length_cons]; omega
theorem pk_cons8 {x M : List Bool} (hx : x.length = 8) : pk (x ++ M) = ((byt x 0 : Nat) : Int) :: pk M := by
 symm
 apply pk_ext
 ·rw [List.length_cons, pk_len, List.length_append, hx]; omega
 ·intro k hk
  cases k with
  | zero =>
   rw [List.getD_cons_zero]
   congr 1
   exact (byt_app_low (by omega)).symm
  | succ k =>
   rw [List.getD_cons_succ, pk_get]
   congr 1
   apply Nat.eq_of_testBit_eq
   intro i
   rw [byt_test, byt_test, getD_app, hx]
   by_cases hi : i < 8
   ·rw [if_neg (by omega), show 8 * (k + 1) + (7 - i) - 8 = 8 * k + (7 - i) from by omega]
   ·simp [hi]
theorem byt_bn {b : Nat} (hb : b < 256) : byt (bn b 8) 0 = b := by
 apply Nat.eq_of_testBit_eq
 intro i
 rw [byt_test, bn_get]
 by_cases hi : i < 8
 ·have : 8 * 0 + (7 - i) < 8 := by omega
  simp only [hi, this, decide_true, Bool.true_and]
  congr 1; omega
 ·rw [Nat.testBit_lt_two_pow (Nat.lt_of_lt_of_le hb (show 2 ^ 8 ≤ 2 ^ i from Nat.pow_le_pow_right (by omega) (by omega)))]
  simp [hi]
theorem pk_bits8 : ∀ (l : List Int) (M : List Bool), bytes l → pk (bits8 l ++ M) = l ++ pk M
 | [], M, _ => rfl
 | x :: l, M, hb => by
  have hx := hb x List.mem_cons_self
  obtain ⟨b, rfl⟩ : ∃ b : Nat, x = b := ⟨x.toNat, by omega⟩
  show pk ((bn ((b : Int).toNat) 8 ++ bits8 l) ++ M) = _
  rw [Int.toNat_natCast, List.append_assoc, pk_cons8 (bn_len _ _), byt_bn (by omega), pk_bits8 l M (fun y hy => hb y (List.mem_cons_of_mem _ hy))]
  rfl
end Go.Sq
namespace Go.Sq
open Go.Rx
def bval : List Bool → Nat
 | [] => 0
 | b :: l => b.toNat * 2 ^ l.length + bval l
theorem bval_app : ∀ (l m : List Bool), bval (l ++ m) = bval l * 2 ^ m.length + bval m
 | [], m => by simp [bval]
 | b :: l, m => by
  simp only [List.cons_append, bval, List.length_append, bval_app l m, Nat.pow_add, Nat.add_mul, Nat.mul_assoc]
  omega
end Go.Sq
namespace Go.Sq
open Go.Rx
def base (l : List Bool) (w : Nat) : Int := (bval l : Int) * (4294967296 * 2 ^ w) + 2147483648 * (2 ^ w - 1)
theorem bval_rep (b : Bool) : ∀ k, bval (List.replicate k b) = b.toNat * (2 ^ k - 1)
 | 0 => by simp [bval]
 | k + 1 => by
  have := Nat.two_pow_pos k
  rw [List.replicate_succ, bval, bval_rep b k, List.length_replicate, Nat.pow_succ]
  cases b
  ·simp
  ·simp; omega
theorem bval_outL (l : List Bool) (b : Bool) (w : Nat) : bval (outL l b w) = bval l * 2 ^ w * 2 + (b.toNat * 2 ^ w + (!b).toNat * (2 ^ w - 1)) := by
 unfold outL
 rw [bval_app, bval, bval_rep, List.length_cons, List.length_replicate, Nat.pow_succ, Nat.mul_assoc]
theorem base_out0 (l : List Bool) (w : Nat) : base (outL l false w) 0 = 2 * base l w := by
 unfold base
 rw [bval_outL]
 have hp : (1 : Int) ≤ 2 ^ w := by have := Int.pow_pos (n := 2) (m := w) (by decide); omega
 have hc : ((2 ^ w : Nat) : Int) = (2 : Int) ^ w := by simp
 have h1 : (((bval l * 2 ^ w * 2 + (false.toNat * 2 ^ w + (!false).toNat * (2 ^ w - 1)) : Nat)) : Int) = (bval l : Int) * 2 ^ w * 2 + (2 ^ w - 1) := by
  have : bval l * 2 ^ w * 2 + (false.toNat * 2 ^ w + (!false).toNat * (2 ^ w - 1)) = bval l * 2 ^ w * 2 + (2 ^ w - 1) := by simp
  rw [this]
  have hp' := Nat.two_pow_pos w
  rw [Int.natCast_add, Int.natCast_mul, Int.natCast_mul, hc]
  omega
 rw [h1]
 have h2 : (bval l : Int) * (4294967296 * 2 ^ w) = 4294967296 * ((bval l : Int) * 2 ^ w) := by rw [Int.mul_left_comm]
 rw [h2]
 simp
 omega
theorem base_out1 (l : List Bool) (w : Nat) : base (outL l true w) 0 = 2 * base l w + 4294967296 := by
 unfold base
 rw [bval_outL]
 have hc : ((2 ^ w : Nat) : Int) = (2 : Int) ^ w := by simp
 have h1 : (((bval l * 2 ^ w * 2 + (true.toNat * 2 ^ w + (!true).toNat * (2 ^ w - 1)) : Nat)) : Int) = (bval l : Int) * 2 ^ w * 2 + 2 ^ w := by
  have : bval l * 2 ^ w * 2 + (true.toNat * 2 ^ w + (!true).toNat * (2 ^ w - 1)) = bval l * 2 ^ w * 2 + 2 ^ w := by simp
  rw [this, Int.natCast_add, Int.natCast_mul, Int.natCast_mul, hc]
  omega
 rw [h1]
 have h2 : (bval l : Int) * (4294967296 * 2 ^ w) = 4294967296 * ((bval l : Int) * 2 ^ w) := by rw [Int.mul_left_comm]
 rw [h2]
 simp
 omega
theorem base_wait (l : List Bool) (w : Nat) : base l (w + 1) = 2 * base l w + 2147483648 := by
 unfold base
 have h2 : ∀ x : Int, (bval l : Int) * (4294967296 * x) = 4294967296 * ((bval l : Int) * x) := fun x => Int.mul_left_comm _ _ _
 have h3 : (bval l : Int) * (2 ^ w * 2) = (bval l : Int) * 2 ^ w * 2 := (Int.mul_assoc _ _ _).symm
 rw [h2, h2, Int.pow_succ, h3]
 omega
def seen (B : List Bool) (w : Nat) (l : List Bool) : Int := codeS B (l.length + w + 32) - base l w
def inside (B : List Bool) (lo hi : Int) (w : Nat) (l : List Bool) : Prop := lo ≤ seen B w l ∧ seen B w l ≤ hi
theorem seen_out0 (B : List Bool) (w : Nat) (l : List Bool) : seen B 0 (outL l false w) = 2 * seen B w l + bI B (l.length + w + 32) := by
 unfold seen
 rw [base_out0, outL_len, show l.length + w + 1 + 0 + 32 = (l.length + w + 32) + 1 from by omega, codeS]; omega
theorem seen_out1 (B : List Bool) (w : Nat) (l : List Bool) : seen B 0 (outL l true w) = 2 * (seen B w l - 2147483648) + bI B (l.length + w + 32) := by
 unfold seen
 rw [base_out1, outL_len, show l.length + w + 1 + 0 + 32 = (l.length + w + 32) + 1 from by omega, codeS]; omega
theorem seen_wait (B : List Bool) (w : Nat) (l : List Bool) : seen B (w + 1) l = 2 * (seen B w l - 1073741824) + bI B (l.length + w + 32) := by
 unfold seen
 rw [base_wait, show l.length + (w + 1) + 32 = (l.length + w + 32) + 1 from by omega, codeS]; omega
theorem widS_ok : ∀ {n : Nat} {lo hi : Int} {w : Nat} {l : List Bool} {lo' hi' : Int} {w' : Nat} {l' : List Bool}, roomy n lo hi → widS (n + 1) lo hi w l = some (lo', hi', w', l') →
  goodP lo' hi' ∧ 0 ≤ lo' ∧ hi' < 4294967296 ∧ ∃ k, l'.length + w' = l.length + w + k ∧ hi' - lo' + 1 = (hi - lo + 1) * 2 ^ k := by
 intro n
 induction n with
 | zero =>
  intro lo hi w l lo' hi' w' l' hr h
  have := roomy_zero hr
  rw [widS, if_neg (by omega), if_neg (by omega), if_neg (by omega)] at h
  cases h
  exact ⟨by unfold goodP; omega, by omega, by omega, 0, rfl, by simp⟩
 | succ n ih =>
  intro lo hi w l lo' hi' w' l' hr h
  obtain ⟨r1, r2, r3, r4⟩ := hr
  have hr : roomy (n + 1) lo hi := ⟨r1, r2, r3, r4⟩
  have dbl : ∀ (a k : Int) (m : Nat), a = 2 * k → a * 2 ^ m = k * 2 ^ (m + 1) := fun a k m e => by rw [e, Int.pow_succ, Int.mul_comm 2 k, Int.mul_assoc, Int.mul_comm 2]
  rw [widS] at h
  by_cases c1 : hi < 2147483648
  ·rw [if_pos c1] at h
   split at h
   ·cases h
   ·obtain ⟨a1, a2, a3, k, a4, a5⟩ := ih (roomy_next hr (by omega) (by omega) (by omega)) h
    rw [outL_len] at a4
    exact ⟨a1, a2, a3, k + 1, by omega, by rw [a5]; exact dbl _ _ _ (by omega)⟩
  rw [if_neg c1] at h
  by_cases c2 : lo ≥ 2147483648
  ·rw [if_pos c2] at h
   split at h
   ·cases h
   ·obtain ⟨a1, a2, a3, k, a4, a5⟩ := ih (roomy_next hr (by omega) (by omega) (by omega)) h
    rw [outL_len] at a4
    exact ⟨a1, a2, a3, k + 1, by omega, by rw [a5]; exact dbl _ _ _ (by omega)⟩
  rw [if_neg c2] at h
  by_cases c3 : lo ≥ 1073741824 ∧ hi < 3221225472
  ·rw [if_pos c3] at h
   obtain ⟨a1, a2, a3, k, a4, a5⟩ := ih (roomy_next hr (by omega) (by omega) (by omega)) h
   exact ⟨a1, a2, a3, k + 1, by omega, by rw [a5]; exact dbl _ _ _ (by omega)⟩
  ·rw [if_neg c3] at h
   cases h
   exact ⟨by unfold goodP; omega, r1, r3, 0, rfl, by simp⟩
theorem follow {B : List Bool} : ∀ {n : Nat} {lo hi : Int} {w : Nat} {l : List Bool} {lo' hi' : Int} {w' : Nat} {l' : List Bool}, roomy n lo hi → widS (n + 1) lo hi w l = some (lo', hi', w', l') → inside B lo' hi' w' l' →
  inside B lo hi w l ∧ decS (n + 1) lo hi (seen B w l) (l.length + w + 32) B = (lo', hi', seen B w' l', l'.length + w' + 32) := by
 intro n
 induction n with
 | zero =>
  intro lo hi w l lo' hi' w' l' hr h hin
  have := roomy_zero hr
  rw [widS, if_neg (by omega), if_neg (by omega), if_neg (by omega)] at h
  cases h
  refine ⟨hin, ?_⟩
  rw [decS, if_neg (by omega), if_neg (by omega), if_neg (by omega)]
 | succ n ih =>
  intro lo hi w l lo' hi' w' l' hr h hin
  obtain ⟨r1, r2, r3, r4⟩ := hr
  have hr : roomy (n + 1) lo hi := ⟨r1, r2, r3, r4⟩
  have hb := bI_range B (l.length + w + 32)
  rw [widS] at h
  rw [decS]
  by_cases c1 : hi < 2147483648
  ·rw [if_pos c1] at h ⊢
   split at h
   ·cases h
   ·obtain ⟨⟨a1, a2⟩, a3⟩ := ih (roomy_next hr (by omega) (by omega) (by omega)) h hin
    rw [seen_out0] at a1 a2 a3
    rw [outL_len, show l.length + w + 1 + 0 + 32 = l.length + w + 32 + 1 from by omega] at a3
    exact ⟨⟨by omega, by omega⟩, a3⟩
  rw [if_neg c1] at h ⊢
  by_cases c2 : lo ≥ 2147483648
  ·rw [if_pos c2] at h ⊢
   split at h
   ·cases h
   ·obtain ⟨⟨a1, a2⟩, a3⟩ := ih (roomy_next hr (by omega) (by omega) (by omega)) h hin
    rw [seen_out1] at a1 a2 a3
    rw [outL_len, show l.length + w + 1 + 0 + 32 = l.length + w + 32 + 1 from by omega] at a3
    exact ⟨⟨by omega, by omega⟩, a3⟩
  rw [if_neg c2] at h ⊢
  by_cases c3 : lo ≥ 1073741824 ∧ hi < 3221225472
  ·rw [if_pos c3] at h ⊢
   obtain ⟨⟨a1, a2⟩, a3⟩ := ih (roomy_next hr (by omega) (by omega) (by omega)) h hin
   rw [seen_wait] at a1 a2 a3
   rw [show l.length + (w + 1) + 32 = l.length + w + 32 + 1 from by omega] at a3
   exact ⟨⟨by omega, by omega⟩, a3⟩
  ·rw [if_neg c3] at h ⊢
   cases h
   exact ⟨hin, rfl⟩
theorem within_find {lo hi c t a b : Int} (hR : 0 < hi - lo + 1) (ht : 1 ≤ t) (h1 : narL lo hi a t ≤ c) (h2 : c ≤ narH lo hi b t) : a ≤ findX lo hi c t ∧ findX lo hi c t < b := by
 unfold narL at h1
 unfold narH at h2
 have g1 : (hi - lo + 1) * a < (c - lo + 1) * t := by
  have := Int.lt_ediv_add_one_mul_self ((hi - lo + 1) * a) (show 0 < t by omega)
  have h3 : ((hi - lo + 1) * a / t + 1) * t ≤ (c - lo + 1) * t := Int.mul_le_mul_of_nonneg_right (by omega) (by omega)
  omega
 have g2 : (c - lo + 1) * t ≤ (hi - lo + 1) * b := by
  have h3 := Int.ediv_mul_le ((hi - lo + 1) * b) (show t ≠ 0 by omega)
  have h4 : (c - lo + 1) * t ≤ (hi - lo + 1) * b / t * t := Int.mul_le_mul_of_nonneg_right (by omega) (by omega)
  omega
 unfold findX
 constructor
 ·apply Int.le_ediv_of_mul_le hR
  rw [Int.mul_comm a]; omega
 ·apply Int.ediv_lt_of_lt_mul hR
  rw [Int.mul_comm b]; omega
theorem codeS_pre (L T : List Bool) : ∀ k, ∃ r : Int, codeS (L ++ T) (L.length + k) = (bval L : Int) * 2 ^ k + r ∧ 0 ≤ r ∧ r < 2 ^ k := by
 have h0 : codeS (L ++ T) L.length = bval L := by
  have key : ∀ (M N : List Bool), codeS (M ++ N) M.length = bval M := by
   intro M
   generalize hn : M.length = n
   induction n generalizing M with
   | zero =>
    intro N
    have : M = [] := List.length_eq_zero_iff.1 hn
    subst this; rfl
   | succ n ih =>
    intro N
    have hne : M ≠ [] := by rintro rfl; simp at hn
    obtain ⟨M', b, rfl⟩ : ∃ M' b, M = M' ++ [b] := ⟨M.dropLast, M.getLast hne, (List.dropLast_concat_getLast hne).symm⟩
    have hl : M'.length = n := by simp at hn; omega
    have := ih M' hl ([b] ++ N)
    rw [← List.append_assoc] at this
    rw [codeS, this, bval_app]
    have hb : bI (M' ++ [b] ++ N) n = (b.toNat : Int) := by
     unfold bI
     rw [List.append_assoc, getD_app, if_neg (by omega), hl, Nat.sub_self]; rfl
    rw [hb]
    simp [bval]
    omega
  exact key L T
 intro k
 induction k with
 | zero => exact ⟨0, by rw [Nat.add_zero, h0]; simp, by decide, by decide⟩
 | succ k ih =>
  obtain ⟨r, h1, h2, h3⟩ := ih
  have hb := bI_range (L ++ T) (L.length + k)
  refine ⟨2 * r + bI (L ++ T) (L.length + k), ?_, by omega, by rw [Int.pow_succ]; omega⟩
  rw [← Nat.add_assoc, codeS, h1, Int.pow_succ, ← Int.mul_assoc]
  omega
theorem end_inside {lo hi : Int} {w : Nat} {l T : List Bool} (h0 : 0 ≤ lo) (hh : hi < 4294967296) (hg : goodP lo hi) : inside (outL l (decide (1073741824 ≤ lo)) (w + 1) ++ T) lo hi w l := by
 unfold inside seen
 have hlen := outL_len l (decide (1073741824 ≤ lo)) (w + 1)
 obtain ⟨r, h1, h2, h3⟩ := codeS_pre (outL l (decide (1073741824 ≤ lo)) (w + 1)) T 30
 rw [hlen, show l.length + (w + 1) + 1 + 30 = l.length + w + 32 from by omega] at h1
 rw [h1, bval_outL]
 have hc : ((2 ^ w : Nat) : Int) = (2 : Int) ^ w := by simp
 have hp : (1 : Int) ≤ 2 ^ w := by have := Int.pow_pos (n := 2) (m := w) (by decide); omega
 have hp' := Nat.two_pow_pos w
 unfold base
 have e2 : (bval l : Int) * (4294967296 * 2 ^ w) = 4294967296 * ((bval l : Int) * 2 ^ w) := Int.mul_left_comm _ _ _
 rw [e2]
 have e30 : (2 : Int) ^ 30 = 1073741824 := by decide
 rw [e30] at h3 ⊢
 obtain ⟨g1, g2, g3, g4⟩ := hg
 have hx : ((bval l * 2 ^ (w + 1) : Nat) : Int) = (bval l : Int) * 2 ^ w * 2 := by
  rw [Nat.pow_succ, ← Nat.mul_assoc, Int.natCast_mul, Int.natCast_mul, hc]; rfl
 by_cases hq : 1073741824 ≤ lo
 ·rw [decide_eq_true hq]
  have e1 : ((bval l * 2 ^ (w + 1) * 2 + (true.toNat * 2 ^ (w + 1) + (!true).toNat * (2 ^ (w + 1) - 1)) : Nat) : Int) = (bval l : Int) * 2 ^ w * 2 * 2 + 2 ^ w * 2 := by
   have : bval l * 2 ^ (w + 1) * 2 + (true.toNat * 2 ^ (w + 1) + (!true).toNat * (2 ^ (w + 1) - 1)) = bval l * 2 ^ (w + 1) * 2 + 2 ^ w * 2 := by simp [Nat.pow_succ]
   rw [this, Int.natCast_add, Int.natCast_mul, hx, Int.natCast_mul, hc]; rfl
  rw [e1]
  generalize (bval l : Int) * 2 ^ w = X at *
  generalize (2 : Int) ^ w = Y at *
  omega
 ·rw [decide_eq_false hq]
  have e1 : ((bval l * 2 ^ (w + 1) * 2 + (false.toNat * 2 ^ (w + 1) + (!false).toNat * (2 ^ (w + 1) - 1)) : Nat) : Int) = (bval l : Int) * 2 ^ w * 2 * 2 + (2 ^ w * 2 - 1) := by
   have : bval l * 2 ^ (w + 1) * 2 + (false.toNat * 2 ^ (w + 1) + (!false).toNat * (2 ^ (w + 1) - 1)) = bval l * 2 ^ (w + 1) * 2 + (2 ^ w * 2 - 1) := by simp [Nat.pow_succ]
   rw [this, Int.natCast_add, Int.natCast_mul, hx]
   omega
  rw [e1]
  generalize (bval l : Int) * 2 ^ w = X at *
  generalize (2 : Int) ^ w = Y at *
  omega
end Go.Sq
namespace Go.Sq
open Go.Rx
def encE (lo hi : Int) (w : Nat) (l : List Bool) : EncT := (lo, (hi, ((w : Int), (pk l, (l.length : Int)))))
def decD (B : List Bool) (lo hi : Int) (w : Nat) (l : List Bool) : DecT := (lo, (hi, (seen B w l, ((pk B, (B.length : Int)), ((l.length + w + 32 : Nat) : Int)))))
structure atWork (lo hi : Int) (w : Nat) (l : List Bool) : Prop where
 lo0 : 0 ≤ lo
 hi1 : hi < 4294967296
 good : goodP lo hi
 wait : w ≤ 65536
 len : l.length ≤ 65536
theorem put_zero {lo hi : Int} {w : Nat} {l : List Bool} (h : atWork lo hi w l) {C : List Int} {s : Int} (hC : small C) (hs : s < 2 ^ 63) (hz : (PutF (encE lo hi w l) C s).2 = 0) :
  okSpan C s ∧ ∃ (lo' hi' : Int) (w' : Nat) (l' : List Bool), widS 33 (narL lo hi (C.getD s.toNat 0) (totS C)) (narH lo hi (C.getD (s.toNat + 1) 0) (totS C)) w l = some (lo', hi', w', l') ∧ atWork lo' hi' w' l' ∧ PutF (encE lo hi w l) C s = (encE lo' hi' w' l', 0) := by
 have hgl := h.good.1
 have h1 := h.lo0
 have h2 := h.hi1
 have hwf : wfE (encE lo hi w l) := wfE_pk ⟨h1, by omega⟩ ⟨by omega, h2⟩ h.len
 by_cases ho : okSpan C s
 ·refine ⟨ho, ?_⟩
  have hp := PutF_ok h1 h2 h.good h.wait h.len ho
  unfold encE at hz ⊢
  rw [hp] at hz ⊢
  obtain ⟨_, t1, t2⟩ := totS_pos ho.1
  obtain ⟨a0, a1, a2⟩ := span_ok ho.1 ho.2.1 ho.2.2
  have hgw := good_wide h.good
  obtain ⟨f1, f2, f3, f4, f5, f6, f7⟩ := nar_facts (r := hi - lo + 1) (a := C.getD s.toNat 0) (b := C.getD (s.toNat + 1) 0) (t := totS C) (by omega) (by omega) a0 a1 a2 t1 t2
  have hL : narL lo hi (C.getD s.toNat 0) (totS C) = lo + (hi - lo + 1) * C.getD s.toNat 0 / totS C := rfl
  have hH : narH lo hi (C.getD (s.toNat + 1) 0) (totS C) = lo + (hi - lo + 1) * C.getD (s.toNat + 1) 0 / totS C - 1 := rfl
  have hroom : roomy 32 (narL lo hi (C.getD s.toNat 0) (totS C)) (narH lo hi (C.getD (s.toNat + 1) 0) (totS C)) := roomy_start (by rw [hL]; omega) (by rw [hL, hH]; omega) (by rw [hH]; omega)
  cases hW : widS 33 (narL lo hi (C.getD s.toNat 0) (totS C)) (narH lo hi (C.getD (s.toNat + 1) 0) (totS C)) w l with
  | none =>
   unfold putR at hz
   rw [hW] at hz
   simp [doneS, flip3] at hz
  | some r =>
   obtain ⟨lo', hi', w', l'⟩ := r
   have hw' : w' ≤ 65536 := by
    rcases Nat.lt_or_ge 65536 w' with h5 | h5
    ·unfold putR at hz
     rw [hW] at hz
     simp [doneS, flip3, h5] at hz
    ·exact h5
   obtain ⟨b1, b2, b3, _⟩ := widS_ok hroom hW
   have b4 := (widS_len h.len hW).1
   have b5 := b1.1
   exact ⟨lo', hi', w', l', rfl, ⟨b2, b3, b1, hw', b4⟩, putR_eq rfl hW hw' ⟨b2, by omega⟩ ⟨by omega, b3⟩⟩
 ·exfalso
  rw [(show PutF (encE lo hi w l) C s = ((0, (0, (0, ([], 0)))), 1) by unfold PutF; rw [coder_Put_bad hwf hC hs (fun hh => ho hh.2)]; rfl)] at hz
  cases hz
theorem run_back : ∀ (zs : List (Int × List Int)) {lo hi : Int} {w : Nat} {l : List Bool}, atWork lo hi w l → (∀ z ∈ zs, small z.2 ∧ z.1 < 2 ^ 63) → (putAll zs (encE lo hi w l)).2 = 0 →
  ∃ (lo' hi' : Int) (w' : Nat) (l' : List Bool), putAll zs (encE lo hi w l) = (encE lo' hi' w' l', 0) ∧ atWork lo' hi' w' l' ∧ l.length + w ≤ l'.length + w' ∧
   ∀ B : List Bool, B.length ≤ 65536 → l'.length + w' ≤ B.length → inside B lo' hi' w' l' → inside B lo hi w l ∧ ∀ acc, backS (zs.map (·.2)) (decD B lo hi w l) acc = (acc ++ zs.map (·.1), 0)
 | [], lo, hi, w, l, h, _, _ => ⟨lo, hi, w, l, rfl, h, Nat.le_refl _, fun B _ _ hin => ⟨hin, fun acc => by simp [backS]⟩⟩
 | (s, C) :: zs, lo, hi, w, l, h, hz, hp => by
  rw [putAll] at hp
  have hzC : small C := (hz (s, C) List.mem_cons_self).1
  have hzs : s < 2 ^ 63 := (hz (s, C) List.mem_cons_self).2
  have hp : (if (PutF (encE lo hi w l) C s).2 ≠ 0 then (zEnc, (PutF (encE lo hi w l) C s).2) else putAll zs (PutF (encE lo hi w l) C s).1).2 = 0 := hp
  have hz0 : (PutF (encE lo hi w l) C s).2 = 0 := by
   by_cases h0 : (PutF (encE lo hi w l) C s).2 = 0
   ·exact h0
   ·rw [if_pos h0] at hp; exact absurd hp h0
  rw [if_neg (by simp [hz0])] at hp
  obtain ⟨hsp, lo1, hi1, w1, l1, hW, hat, hput⟩ := put_zero (C := C) (s := s) h hzC hzs hz0
  rw [hput] at hp
  obtain ⟨lo', hi', w', l', e1, e2, e3, e4⟩ := run_back zs hat (fun z hz' => hz z (List.mem_cons_of_mem _ hz')) hp
  have h1 := h.lo0
  have h2 := h.hi1
  have hgl := h.good.1
  obtain ⟨_, t1, t2⟩ := totS_pos hsp.1
  obtain ⟨a0, a1, a2⟩ := span_ok hsp.1 hsp.2.1 hsp.2.2
  have hgw := good_wide h.good
  obtain ⟨f1, f2, f3, f4, f5, f6, f7⟩ := nar_facts (r := hi - lo + 1) (a := C.getD s.toNat 0) (b := C.getD (s.toNat + 1) 0) (t := totS C) (by omega) (by omega) a0 a1 a2 t1 t2
  have hL : narL lo hi (C.getD s.toNat 0) (totS C) = lo + (hi - lo + 1) * C.getD s.toNat 0 / totS C := rfl
  have hH : narH lo hi (C.getD (s.toNat + 1) 0) (totS C) = lo + (hi - lo + 1) * C.getD (s.toNat + 1) 0 / totS C - 1 := rfl
  have hroom : roomy 32 (narL lo hi (C.getD s.toNat 0) (totS C)) (narH lo hi (C.getD (s.toNat + 1) 0) (totS C)) := roomy_start (by rw [hL]; omega) (by rw [hL, hH]; omega) (by rw [hH]; omega)
  obtain ⟨b1, b2, b3, k, b4, _⟩ := widS_ok hroom hW
  refine ⟨lo', hi', w', l', ?_, e2, by omega, fun B hB hlen hin => ?_⟩
  ·rw [putAll, if_neg (by simp [hz0]), hput]; exact e1
  ·obtain ⟨g1, g2⟩ := e4 B hB hlen hin
   obtain ⟨⟨q1, q2⟩, q3⟩ := follow hroom hW g1
   have hs1 := hsp.2.1
   have hs2 := hsp.2.2
   have hsym : isSym C (findX lo hi (seen B w l) (totS C)) s.toNat := by
    obtain ⟨x1, x2⟩ := within_find (by omega) t1 q1 q2
    exact ⟨by omega, x1, x2⟩
   have hin2 : inside B lo hi w l := ⟨by rw [hL] at q1; omega, by rw [hH] at q2; omega⟩
   refine ⟨hin2, fun acc => ?_⟩
   have hnext : NextF (decD B lo hi w l) C = (decD B lo1 hi1 w1 l1, (((s.toNat : Nat) : Int), 0)) := by
    unfold decD
    rw [NextF_ok h1 h2 h.good hin2.1 hin2.2 hB (by omega) (by omega) hsp.1 hsym]
    have b5 := b1.1
    have g3 := g1.1
    have g4 := g1.2
    exact nextR_eq rfl q3 ⟨b2, by omega⟩ ⟨by omega, b3⟩ ⟨by omega, by omega⟩
   rw [List.map_cons, backS, hnext]
   simp only [ne_eq, not_true_eq_false, if_false]
   rw [g2]
   have : ((s.toNat : Nat) : Int) = s := by omega
   rw [this]
   simp
theorem atWork_begin : atWork 0 4294967295 0 [] := ⟨by decide, by decide, by decide, by decide, by decide⟩
end Go.Sq
namespace Go.Sq
open Go.Rx
def worthS (s : Int) (C : List Int) (n : Nat) : Prop := totS C ≤ (C.getD (s.toNat + 1) 0 - C.getD s.toNat 0) * 2 ^ n ∧ n ≤ 14
def worthL : List (Int × List Int) → List Nat → Prop
 | [], [] => True
 | (s, C) :: zs, n :: ns => worthS s C n ∧ worthL zs ns
 | _, _ => False
def sumN : List Nat → Nat
 | [] => 0
 | n :: ns => n + sumN ns
theorem sumN_snoc : ∀ (ns : List Nat) (n : Nat), sumN (ns ++ [n]) = sumN ns + n
 | [], n => by simp [sumN]
 | m :: ns, n => by simp only [List.cons_append, sumN, sumN_snoc ns n]; omega
theorem worthL_snoc : ∀ {zs : List (Int × List Int)} {ns : List Nat} {s : Int} {C : List Int} {n : Nat}, worthL zs ns → worthS s C n → worthL (zs ++ [(s, C)]) (ns ++ [n])
 | [], [], s, C, n, _, h => ⟨h, trivial⟩
 | (s', C') :: zs, n' :: ns, s, C, n, h, h' => ⟨h.1, worthL_snoc h.2 h'⟩
 | [], _ :: _, _, _, _, h, _ => h.elim
 | _ :: _, [], _, _, _, h, _ => h.elim
theorem narrow_worth {lo hi a b t : Int} {n : Nat} (hR : 1073741824 ≤ hi - lo + 1) (ht : 1 ≤ t) (hw : t ≤ (b - a) * 2 ^ n) (hn : n ≤ 14) :
  (hi - lo + 1) * 65535 ≤ (narH lo hi b t - narL lo hi a t + 1) * (2 ^ n * 65536) := by
 have hp : (1 : Int) ≤ 2 ^ n := by have := Int.pow_pos (n := 2) (m := n) (by decide); omega
 have hp2 : (2 : Int) ^ n ≤ 16384 := by
  have h : (2 : Nat) ^ n ≤ 2 ^ 14 := Nat.pow_le_pow_right (by omega) hn
  have e : (2 : Int) ^ n = ((2 ^ n : Nat) : Int) := by simp
  rw [e]; omega
 generalize hRR : hi - lo + 1 = R at *
 have e : narH lo hi b t - narL lo hi a t + 1 = R * b / t - R * a / t := by unfold narH narL; rw [hRR]; omega
 rw [e]
 generalize (2 : Int) ^ n = P at *
 have g1 := Int.lt_ediv_add_one_mul_self (R * b) (show 0 < t by omega)
 have g2 := Int.ediv_mul_le (R * a) (show t ≠ 0 by omega)
 generalize R * b / t = x at *
 generalize R * a / t = y at *
 have g3 : R * (b - a) - t ≤ (x - y) * t := by
  rw [Int.sub_mul, Int.mul_sub]
  rw [Int.add_mul] at g1
  omega
 have g4 : (R * (b - a) - t) * P ≤ (x - y) * t * P := Int.mul_le_mul_of_nonneg_right g3 (by omega)
 have g5 : R * t ≤ R * ((b - a) * P) := Int.mul_le_mul_of_nonneg_left hw (by omega)
 have g6 : (R - P) * t ≤ (x - y) * P * t := by
  have e1 : (x - y) * t * P = (x - y) * P * t := by ac_rfl
  have e2 : (R * (b - a) - t) * P = R * ((b - a) * P) - P * t := by rw [Int.sub_mul, Int.mul_assoc, Int.mul_comm t P]
  rw [e1, e2] at g4
  rw [Int.sub_mul]; omega
 have g7 : R - P ≤ (x - y) * P := Int.le_of_mul_le_mul_right g6 (by omega)
 have e3 : (x - y) * (P * 65536) = (x - y) * P * 65536 := by ac_rfl
 rw [e3]
 omega
theorem run_long : ∀ (zs : List (Int × List Int)) (ns : List Nat) {lo hi : Int} {w : Nat} {l : List Bool}, atWork lo hi w l → (∀ z ∈ zs, small z.2 ∧ z.1 < 2 ^ 63) → (putAll zs (encE lo hi w l)).2 = 0 → worthL zs ns →
  ∃ (lo' hi' : Int) (w' : Nat) (l' : List Bool) (k : Nat), putAll zs (encE lo hi w l) = (encE lo' hi' w' l', 0) ∧ atWork lo' hi' w' l' ∧ l'.length + w' = l.length + w + k ∧
   (hi - lo + 1) * (2 ^ k * 65535 ^ zs.length) ≤ (hi' - lo' + 1) * (2 ^ sumN ns * 65536 ^ zs.length)
 | [], [], lo, hi, w, l, h, _, _, _ => ⟨lo, hi, w, l, 0, rfl, h, rfl, by simp [sumN]⟩
 | [], _ :: _, _, _, _, _, _, _, _, h => h.elim
 | (_, _) :: _, [], _, _, _, _, _, _, _, h => h.elim
 | (s, C) :: zs, n :: ns, lo, hi, w, l, h, hz, hp, hw => by
  rw [putAll] at hp
  have hzC : small C := (hz (s, C) List.mem_cons_self).1
  have hzs : s < 2 ^ 63 := (hz (s, C) List.mem_cons_self).2
  have hp : (if (PutF (encE lo hi w l) C s).2 ≠ 0 then (zEnc, (PutF (encE lo hi w l) C s).2) else putAll zs (PutF (encE lo hi w l) C s).1).2 = 0 := hp
  have hz0 : (PutF (encE lo hi w l) C s).2 = 0 := by
   by_cases h0 : (PutF (encE lo hi w l) C s).2 = 0
   ·exact h0
   ·rw [if_pos h0] at hp; exact absurd hp h0
  rw [if_neg (by simp [hz0])] at hp
  obtain ⟨hsp, lo1, hi1, w1, l1, hW, hat, hput⟩ := put_zero (C := C) (s := s) h hzC hzs hz0
  rw [hput] at hp
  obtain ⟨lo', hi', w', l', k', e1, e2, e3, e4⟩ := run_long zs ns hat (fun z hz' => hz z (List.mem_cons_of_mem _ hz')) hp hw.2
  have h1 := h.lo0
  have h2 := h.hi1
  have hgl := h.good.1
  obtain ⟨_, t1, t2⟩ := totS_pos hsp.1
  obtain ⟨a0, a1, a2⟩ := span_ok hsp.1 hsp.2.1 hsp.2.2
  have hgw := good_wide h.good
  obtain ⟨f1, f2, f3, f4, f5, f6, f7⟩ := nar_facts (r := hi - lo + 1) (a := C.getD s.toNat 0) (b := C.getD (s.toNat + 1) 0) (t := totS C) (by omega) (by omega) a0 a1 a2 t1 t2
  have hL : narL lo hi (C.getD s.toNat 0) (totS C) = lo + (hi - lo + 1) * C.getD s.toNat 0 / totS C := rfl
  have hH : narH lo hi (C.getD (s.toNat + 1) 0) (totS C) = lo + (hi - lo + 1) * C.getD (s.toNat + 1) 0 / totS C - 1 := rfl
  have hroom : roomy 32 (narL lo hi (C.getD s.toNat 0) (totS C)) (narH lo hi (C.getD (s.toNat + 1) 0) (totS C)) := roomy_start (by rw [hL]; omega) (by rw [hL, hH]; omega) (by rw [hH]; omega)
  obtain ⟨b1, b2, b3, k, b4, b5⟩ := widS_ok hroom hW
  have g := narrow_worth (lo := lo) (hi := hi) hgw t1 hw.1.1 hw.1.2
  refine ⟨lo', hi', w', l', k + k', ?_, e2, by omega, ?_⟩
  ·rw [putAll, if_neg (by simp [hz0]), hput]; exact e1
  ·rw [List.length_cons]
   generalize hr : narH lo hi (C.getD (s.toNat + 1) 0) (totS C) - narL lo hi (C.getD s.toNat 0) (totS C) + 1 = r at g b5
   rw [b5] at e4
   have q2 : (2 : Int) ^ (k + k') = 2 ^ k * 2 ^ k' := Int.pow_add 2 k k'
   have q3 : (2 : Int) ^ sumN (n :: ns) = 2 ^ n * 2 ^ sumN ns := Int.pow_add 2 n (sumN ns)
   rw [q2, q3, Int.pow_succ, Int.pow_succ]
   have hA : (0 : Int) ≤ 2 ^ k * 2 ^ k' * 65535 ^ zs.length := by
    have x1 := Int.pow_pos (n := 2) (m := k) (by decide)
    have x2 := Int.pow_pos (n := 2) (m := k') (by decide)
    have x3 := Int.pow_pos (n := 65535) (m := zs.length) (by decide)
    exact Int.mul_nonneg (Int.mul_nonneg (by omega) (by omega)) (by omega)
   have s1 := Int.mul_le_mul_of_nonneg_right g hA
   have hB : (0 : Int) ≤ 2 ^ n * 65536 := by
    have x1 := Int.pow_pos (n := 2) (m := n) (by decide)
    omega
   have s2 := Int.mul_le_mul_of_nonneg_right e4 hB
   have u1 : (hi - lo + 1) * (2 ^ k * 2 ^ k' * (65535 ^ zs.length * 65535)) = (hi - lo + 1) * 65535 * (2 ^ k * 2 ^ k' * 65535 ^ zs.length) := by ac_rfl
   have u2 : r * (2 ^ n * 65536) * (2 ^ k * 2 ^ k' * 65535 ^ zs.length) = r * 2 ^ k * (2 ^ k' * 65535 ^ zs.length) * (2 ^ n * 65536) := by ac_rfl
   have u3 : (hi' - lo' + 1) * (2 ^ n * 2 ^ sumN ns * (65536 ^ zs.length * 65536)) = (hi' - lo' + 1) * (2 ^ sumN ns * 65536 ^ zs.length) * (2 ^ n * 65536) := by ac_rfl
   rw [u1, u3]
   rw [u2] at s1
   exact Int.le_trans s1 s2
theorem bernoulli : ∀ m : Nat, (65536 : Int) ^ m * (65536 - m) ≤ 65535 ^ m * 65536
 | 0 => by simp
 | m + 1 => by
  have ih := bernoulli m
  have hp := Int.pow_pos (n := 65536) (m := m) (by decide)
  have h1 := Int.mul_le_mul_of_nonneg_right ih (show (0 : Int) ≤ 65535 by decide)
  rw [Int.pow_succ, Int.pow_succ]
  have e1 : (65535 : Int) ^ m * 65535 * 65536 = 65535 ^ m * 65536 * 65535 := by ac_rfl
  rw [e1]
  refine Int.le_trans ?_ h1
  have e2 : (65536 : Int) ^ m * 65536 * (65536 - ((m + 1 : Nat) : Int)) = 65536 ^ m * (65536 * (65536 - ((m + 1 : Nat) : Int))) := Int.mul_assoc _ _ _
  have e3 : (65536 : Int) ^ m * (65536 - (m : Int)) * 65535 = 65536 ^ m * ((65536 - (m : Int)) * 65535) := Int.mul_assoc _ _ _
  rw [e2, e3]
  apply Int.mul_le_mul_of_nonneg_left _ (by omega)
  omega
theorem long_bound {R : Int} {S K m : Nat} (hR : R ≤ 4294967296) (hm : m ≤ 100) (h : 4294967296 * (2 ^ K * 65535 ^ m) ≤ R * (2 ^ S * 65536 ^ m)) : K ≤ S := by
 refine Nat.le_of_not_lt fun hlt => ?_
 obtain ⟨j, rfl⟩ : ∃ j, K = S + 1 + j := ⟨K - S - 1, by omega⟩
 have p1 := Int.pow_pos (n := 2) (m := S) (by decide)
 have p2 := Int.pow_pos (n := 2) (m := j) (by decide)
 have p3 := Int.pow_pos (n := 65535) (m := m) (by decide)
 have p4 := Int.pow_pos (n := 65536) (m := m) (by decide)
 have hb := bernoulli m
 have e1 : (2 : Int) ^ (S + 1 + j) = 2 ^ S * 2 * 2 ^ j := by rw [Int.pow_add, Int.pow_succ]
 rw [e1] at h
 have q1 : R * (2 ^ S * 65536 ^ m) ≤ 4294967296 * (2 ^ S * 65536 ^ m) := Int.mul_le_mul_of_nonneg_right hR (Int.mul_nonneg (by omega) (by omega))
 have q2 := Int.le_trans h q1
 have q3 : (2 : Int) ^ S * 2 * 2 ^ j * 65535 ^ m ≤ 2 ^ S * 65536 ^ m := by omega
 have e2 : (2 : Int) ^ S * 2 * 2 ^ j * 65535 ^ m = 2 * 2 ^ j * 65535 ^ m * 2 ^ S := by ac_rfl
 have e3 : (2 : Int) ^ S * 65536 ^ m = 65536 ^ m * 2 ^ S := Int.mul_comm _ _
 rw [e2, e3] at q3
 have q4 := Int.le_of_mul_le_mul_right q3 p1
 have q5 : (1 : Int) * (2 * 65535 ^ m) ≤ 2 ^ j * (2 * 65535 ^ m) := Int.mul_le_mul_of_nonneg_right (by omega) (by omega)
 have e4 : (2 : Int) * 2 ^ j * 65535 ^ m = 2 ^ j * (2 * 65535 ^ m) := by ac_rfl
 rw [e4] at q4
 have q6 : (65536 : Int) ^ m * 65436 ≤ 65536 ^ m * (65536 - m) := Int.mul_le_mul_of_nonneg_left (by omega) (by omega)
 omega
end Go.Sq
