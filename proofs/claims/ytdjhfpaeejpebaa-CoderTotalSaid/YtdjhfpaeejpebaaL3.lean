/- Parts of a proof: evaluation of Go code over typed values, and what it computes. -/
import Derived.Test.YtdjhfpaeejpebaaL2
import Derived.KernelRfl
import Derived.Test.YtdjhfpaeejpebaaX3
set_option linter.unusedSimpArgs false
set_option linter.unusedVariables false
set_option linter.unusedSectionVars false
/- The coder: reading. -/
namespace Go.Sq
open Go.Rx

def bI (l : List Bool) (i : Nat) : Int := (((l.getD i false).toNat : Nat) : Int)
theorem bI_range (l : List Bool) (i : Nat) : 0 ≤ bI l i ∧ bI l i ≤ 1 := by unfold bI; have := bool_lt (l.getD i false); omega
/-- widening, where one reads -/
def decS : Nat → Int → Int → Int → Nat → List Bool → Int × Int × Int × Nat
  | 0, lo, hi, c, p, _ => (lo, hi, c, p)
  | n + 1, lo, hi, c, p, l =>
    if hi < 2147483648 then decS n (2 * lo) (2 * hi + 1) (2 * c + bI l p) (p + 1) l
    else if lo ≥ 2147483648 then decS n (2 * (lo - 2147483648)) (2 * (hi - 2147483648) + 1) (2 * (c - 2147483648) + bI l p) (p + 1) l
    else if lo ≥ 1073741824 ∧ hi < 3221225472 then decS n (2 * (lo - 1073741824)) (2 * (hi - 1073741824) + 1) (2 * (c - 1073741824) + bI l p) (p + 1) l
    else (lo, hi, c, p)
theorem or_bI {x y : Int} (h0 : 0 ≤ x) (h1 : x < 4611686018427387904) (hy : y = 0 ∨ y = 1) : bitsI .or .u64 (2 * x) y = 2 * x + y := by
  rcases hy with rfl | rfl
  · obtain ⟨n, rfl⟩ : ∃ n : Nat, x = n := ⟨x.toNat, by omega⟩
    have := or_nat64 (a := 2 * n) (b := 0) (by omega) (by omega)
    rw [Nat.or_zero] at this
    rw [show 2 * (n : Int) = ((2 * n : Nat) : Int) from by omega]
    exact this
  · exact or1 h0 h1
theorem coder_bit_bI {l : List Bool} {i : Nat} (hl : l.length ≤ 65536) (hi2 : i < 2 ^ 60) : g_coder_bit (pk l, (l.length : Int)) (i : Int) = some (bI l i) := coder_bit_eq hl hi2
theorem r04_bitAt_eq {l : List Bool} {i : Nat} (hl : l.length ≤ 65536) (hi2 : i < 2 ^ 60) : g_r04_bitAt (pk l, (l.length : Int)) (i : Int) = some (bI l i) := by
  have hc := r01_Check_eq (N := l.length) (pk_bytes l) (small_pk hl)
  rw [ck_pk hl] at hc
  by_cases h : i < l.length
  · have hpl := pk_len l
    have hb := r01_bit_eq (B := pk l) (N := l.length) (pk_bytes l) (i := i) (by omega) hi2
    rw [bt_pk] at hb
    have hb : g_r01_bit (pk l, (l.length : Int)) (i : Int) = some (bI l i) := hb
    have hr := bI_range l i
    have hor : bitsI .or .u64 (2 * 0) (bI l i) = 2 * 0 + bI l i := or_bI (by omega) (by omega) (by omega)
    have h1 : iter g_r01_Get_r1 ((i : Int), 0, 1, 0, (pk l, (l.length : Int)), ()) = some (bI l i, ()) := by
      rw [iter_inl (y := ((i : Int), bI l i, 1, 1, (pk l, (l.length : Int)), ()))]
      · apply iter_inr
        simp (disch := omega) only [g_r01_Get_r1, dF]
      · have h2 := shl1 (x := 0) (by omega) (by omega)
        simp (disch := omega) only [g_r01_Get_r1, dT, wrap_i64, Int.add_zero, hb, h2, Option.bind_some]
        rw [hor]; simp
    simp (disch := omega) only [g_r04_bitAt, g_r01_Get, hc, nF, dF, Option.bind_some, cond_false, wrap_i64, h1]
  · have e : bI l i = 0 := by unfold bI; rw [getD_out (by omega)]; rfl
    rw [e]
    by_cases h2 : i > l.length
    · simp (disch := omega) only [g_r04_bitAt, g_r01_Get, hc, nF, nT, dF, dT, Option.bind_some, cond_false, cond_true]
    · simp (disch := omega) only [g_r04_bitAt, g_r01_Get, hc, nF, nT, dF, dT, Option.bind_some, cond_false, cond_true, wrap_i64]

abbrev DecT := Int × Int × Int × (List Int × Int) × Int
theorem coder_read {n : Nat} {lo hi c : Int} {p : Nat} {l : List Bool} {s : Int} {d z : DecT} (hr : roomy n lo hi) (hc : lo ≤ c ∧ c ≤ hi) (hl : l.length ≤ 65536) (hn : n ≤ 32) (hp : p ≤ 65600) (hd : d.2.2.2.1 = (pk l, (l.length : Int))) :
    iter g_coder_Next_r1 (c, (p : Int), s, d, z, (lo, hi), ()) =
      some ((decS (n + 1) lo hi c p l).2.2.1, (((decS (n + 1) lo hi c p l).2.2.2 : Nat) : Int), s, d, z, ((decS (n + 1) lo hi c p l).1, (decS (n + 1) lo hi c p l).2.1), ()) := by
  obtain ⟨d1, d2, d3, ⟨d4, d5⟩, d6⟩ := d
  obtain ⟨z1, z2, z3, ⟨z4, z5⟩, z6⟩ := z
  have hd : (d4, d5) = (pk l, (l.length : Int)) := hd
  let W := decS (n + 1) lo hi c p l
  have loop : ∃ r, iter g_coder_Next_r1 (c, (p : Int), s, (d1, d2, d3, (d4, d5), d6), (z1, z2, z3, (z4, z5), z6), (lo, hi), ()) = some r ∧
      r = (W.2.2.1, ((W.2.2.2 : Nat) : Int), s, (d1, d2, d3, (d4, d5), d6), (z1, z2, z3, (z4, z5), z6), (W.1, W.2.1), ()) := by
    refine iter_ex (fun x => (8589934592 - (x.2.2.2.2.2.1.2 - x.2.2.2.2.2.1.1)).toNat)
      (fun x => ∃ (n : Nat) (lo hi c : Int) (p : Nat), x = (c, (p : Int), s, (d1, d2, d3, (d4, d5), d6), (z1, z2, z3, (z4, z5), z6), (lo, hi), ()) ∧ roomy n lo hi ∧ (lo ≤ c ∧ c ≤ hi) ∧ p + n ≤ 65632 ∧ decS (n + 1) lo hi c p l = W)
      (fun r => r = (W.2.2.1, ((W.2.2.2 : Nat) : Int), s, (d1, d2, d3, (d4, d5), d6), (z1, z2, z3, (z4, z5), z6), (W.1, W.2.1), ())) ?_ _ ⟨n, lo, hi, c, p, rfl, hr, hc, by omega, rfl⟩
    rintro x ⟨n, lo, hi, c, p, rfl, hr, hc, hp, hW⟩
    have hm := move_eq (lo := lo) (hi := hi)
    obtain ⟨r1, r2, r3, r4⟩ := hr
    have hr : roomy n lo hi := ⟨r1, r2, r3, r4⟩
    have hbit := coder_bit_bI (l := l) (i := p) hl (by omega)
    rw [← hd] at hbit
    have hbr := bI_range l p
    rw [decS] at hW
    by_cases h1 : hi < 2147483648
    · rw [if_pos h1] at hm hW
      obtain ⟨k, rfl⟩ : ∃ k, n = k + 1 := by
        cases n with
        | zero => have := roomy_zero hr; omega
        | succ k => exact ⟨k, rfl⟩
      left
      have h9 := or_bI (x := c) (y := bI l p) (by omega) (by omega) (by omega)
      refine ⟨(2 * c + bI l p, ((p + 1 : Nat) : Int), s, (d1, d2, d3, (d4, d5), d6), (z1, z2, z3, (z4, z5), z6), (2 * lo, 2 * hi + 1), ()), ?_, ⟨k, _, _, _, _, rfl, roomy_next hr (by omega) (by omega) (by omega), by omega, by omega, hW⟩, by simp; omega⟩
      simp (disch := omega) only [g_coder_Next_r1, hm, eF, Option.bind_some, hbit, Int.sub_zero, wrap_i64, wrap_u64, shl1, or1, h9]
      rfl
    rw [if_neg h1] at hm hW
    by_cases h2 : lo ≥ 2147483648
    · rw [if_pos h2] at hm hW
      obtain ⟨k, rfl⟩ : ∃ k, n = k + 1 := by
        cases n with
        | zero => have := roomy_zero hr; omega
        | succ k => exact ⟨k, rfl⟩
      left
      have h9 := or_bI (x := c - 2147483648) (y := bI l p) (by omega) (by omega) (by omega)
      refine ⟨(2 * (c - 2147483648) + bI l p, ((p + 1 : Nat) : Int), s, (d1, d2, d3, (d4, d5), d6), (z1, z2, z3, (z4, z5), z6), (2 * (lo - 2147483648), 2 * (hi - 2147483648) + 1), ()), ?_, ⟨k, _, _, _, _, rfl, roomy_next hr (by omega) (by omega) (by omega), by omega, by omega, hW⟩, by simp; omega⟩
      simp (disch := omega) only [g_coder_Next_r1, hm, eF, Option.bind_some, hbit, wrap_i64, wrap_u64, shl1, or1, h9]
      rfl
    rw [if_neg h2] at hm hW
    by_cases h3 : lo ≥ 1073741824 ∧ hi < 3221225472
    · rw [if_pos h3] at hm hW
      obtain ⟨k, rfl⟩ : ∃ k, n = k + 1 := by
        cases n with
        | zero => have := roomy_zero hr; omega
        | succ k => exact ⟨k, rfl⟩
      left
      have h9 := or_bI (x := c - 1073741824) (y := bI l p) (by omega) (by omega) (by omega)
      refine ⟨(2 * (c - 1073741824) + bI l p, ((p + 1 : Nat) : Int), s, (d1, d2, d3, (d4, d5), d6), (z1, z2, z3, (z4, z5), z6), (2 * (lo - 1073741824), 2 * (hi - 1073741824) + 1), ()), ?_, ⟨k, _, _, _, _, rfl, roomy_next hr (by omega) (by omega) (by omega), by omega, by omega, hW⟩, by simp; omega⟩
      simp (disch := omega) only [g_coder_Next_r1, hm, eF, Option.bind_some, hbit, wrap_i64, wrap_u64, shl1, or1, h9]
      rfl
    · rw [if_neg h3] at hm hW
      right
      refine ⟨_, ?_, rfl⟩
      rw [← hW]
      simp (disch := omega) only [g_coder_Next_r1, hm, eT, Option.bind_some]
  obtain ⟨r, h1, h2⟩ := loop
  rw [h1, h2]
theorem r04_read {n : Nat} {lo hi c : Int} {p : Nat} {l : List Bool} {s : Int} {d z : DecT} (hr : roomy n lo hi) (hc : lo ≤ c ∧ c ≤ hi) (hl : l.length ≤ 65536) (hn : n ≤ 32) (hp : p ≤ 65600) (hd : d.2.2.2.1 = (pk l, (l.length : Int))) :
    iter g_r04_Next_r1 (lo, hi, c, s, (p : Int), d, z, ()) =
      some (s, 0, (IntKind.u32.wrap (decS (n + 1) lo hi c p l).1, (IntKind.u32.wrap (decS (n + 1) lo hi c p l).2.1, (IntKind.u32.wrap (decS (n + 1) lo hi c p l).2.2.1, ((pk l, (l.length : Int)), (((decS (n + 1) lo hi c p l).2.2.2 : Nat) : Int))))), ()) := by
  obtain ⟨d1, d2, d3, ⟨d4, d5⟩, d6⟩ := d
  obtain ⟨z1, z2, z3, ⟨z4, z5⟩, z6⟩ := z
  have hd : (d4, d5) = (pk l, (l.length : Int)) := hd
  have hcp := Copy_eq hl
  rw [← hd] at hcp
  let W := decS (n + 1) lo hi c p l
  have loop : ∃ r, iter g_r04_Next_r1 (lo, hi, c, s, (p : Int), (d1, d2, d3, (d4, d5), d6), (z1, z2, z3, (z4, z5), z6), ()) = some r ∧
      r = (s, 0, (IntKind.u32.wrap W.1, (IntKind.u32.wrap W.2.1, (IntKind.u32.wrap W.2.2.1, ((d4, d5), ((W.2.2.2 : Nat) : Int))))), ()) := by
    refine iter_ex (fun x => (8589934592 - (x.2.1 - x.1)).toNat)
      (fun x => ∃ (n : Nat) (lo hi c : Int) (p : Nat), x = (lo, hi, c, s, (p : Int), (d1, d2, d3, (d4, d5), d6), (z1, z2, z3, (z4, z5), z6), ()) ∧ roomy n lo hi ∧ (lo ≤ c ∧ c ≤ hi) ∧ p + n ≤ 65632 ∧ decS (n + 1) lo hi c p l = W)
      (fun r => r = (s, 0, (IntKind.u32.wrap W.1, (IntKind.u32.wrap W.2.1, (IntKind.u32.wrap W.2.2.1, ((d4, d5), ((W.2.2.2 : Nat) : Int))))), ())) ?_ _ ⟨n, lo, hi, c, p, rfl, hr, hc, by omega, rfl⟩
    rintro x ⟨n, lo, hi, c, p, rfl, hr, hc, hp, hW⟩
    obtain ⟨r1, r2, r3, r4⟩ := hr
    have hr : roomy n lo hi := ⟨r1, r2, r3, r4⟩
    have hbit := r04_bitAt_eq (l := l) (i := p) hl (by omega)
    rw [← hd] at hbit
    have hbr := bI_range l p
    rw [decS] at hW
    by_cases h1 : hi < 2147483648
    · rw [if_pos h1] at hW
      obtain ⟨k, rfl⟩ : ∃ k, n = k + 1 := by
        cases n with
        | zero => have := roomy_zero hr; omega
        | succ k => exact ⟨k, rfl⟩
      left
      refine ⟨(2 * lo, 2 * hi + 1, 2 * c + bI l p, s, ((p + 1 : Nat) : Int), (d1, d2, d3, (d4, d5), d6), (z1, z2, z3, (z4, z5), z6), ()), ?_, ⟨k, _, _, _, _, rfl, roomy_next hr (by omega) (by omega) (by omega), by omega, by omega, hW⟩, by simp; omega⟩
      simp (disch := omega) only [g_r04_Next_r1, dT, Option.bind_some, hbit, Int.sub_zero, wrap_i64, wrap_u64]
      rfl
    rw [if_neg h1] at hW
    by_cases h2 : lo ≥ 2147483648
    · rw [if_pos h2] at hW
      obtain ⟨k, rfl⟩ : ∃ k, n = k + 1 := by
        cases n with
        | zero => have := roomy_zero hr; omega
        | succ k => exact ⟨k, rfl⟩
      left
      refine ⟨(2 * (lo - 2147483648), 2 * (hi - 2147483648) + 1, 2 * (c - 2147483648) + bI l p, s, ((p + 1 : Nat) : Int), (d1, d2, d3, (d4, d5), d6), (z1, z2, z3, (z4, z5), z6), ()), ?_, ⟨k, _, _, _, _, rfl, roomy_next hr (by omega) (by omega) (by omega), by omega, by omega, hW⟩, by simp; omega⟩
      simp (disch := omega) only [g_r04_Next_r1, dT, dF, Option.bind_some, hbit, wrap_i64, wrap_u64]
      rfl
    rw [if_neg h2] at hW
    by_cases h3 : lo ≥ 1073741824 ∧ hi < 3221225472
    · rw [if_pos h3] at hW
      obtain ⟨k, rfl⟩ : ∃ k, n = k + 1 := by
        cases n with
        | zero => have := roomy_zero hr; omega
        | succ k => exact ⟨k, rfl⟩
      left
      refine ⟨(2 * (lo - 1073741824), 2 * (hi - 1073741824) + 1, 2 * (c - 1073741824) + bI l p, s, ((p + 1 : Nat) : Int), (d1, d2, d3, (d4, d5), d6), (z1, z2, z3, (z4, z5), z6), ()), ?_, ⟨k, _, _, _, _, rfl, roomy_next hr (by omega) (by omega) (by omega), by omega, by omega, hW⟩, by simp; omega⟩
      simp (disch := omega) only [g_r04_Next_r1, dT, dF, Option.bind_some, hbit, wrap_i64, wrap_u64]
      rfl
    · rw [if_neg h3] at hW
      right
      refine ⟨_, ?_, rfl⟩
      rw [← hW]
      by_cases h5 : lo ≥ 1073741824
      · simp (disch := omega) only [g_r04_Next_r1, dT, dF, Option.bind_some, hcp]
      · simp (disch := omega) only [g_r04_Next_r1, dF, Option.bind_some, hcp, cond_false]
  obtain ⟨r, h1, h2⟩ := loop
  rw [h1, h2, hd]
end Go.Sq
/- The coder: Start, Next. -/
namespace Go.Sq
open Go.Rx

/-- the first so many bits' number -/
def codeS (l : List Bool) : Nat → Int
  | 0 => 0
  | n + 1 => 2 * codeS l n + bI l n
theorem codeS_range (l : List Bool) : ∀ n, 0 ≤ codeS l n ∧ codeS l n < 2 ^ n
  | 0 => by simp [codeS]
  | n + 1 => by
    have := codeS_range l n
    have := bI_range l n
    simp only [codeS, Int.pow_succ]
    omega
theorem codeS_lt (l : List Bool) {n : Nat} (h : n ≤ 32) : 0 ≤ codeS l n ∧ codeS l n < 4294967296 := by
  have h1 := codeS_range l n
  have h2 : (2 : Int) ^ n ≤ 2 ^ 32 := by
    have : (2 : Nat) ^ n ≤ 2 ^ 32 := Nat.pow_le_pow_right (by omega) h
    exact_mod_cast this
  have h3 : (2 : Int) ^ 32 = 4294967296 := by decide
  omega
def zDec : DecT := (0, (0, (0, (([], 0), 0))))
theorem coder_Start_ok {l : List Bool} (hl : l.length ≤ 65536) : g_coder_Start (pk l, (l.length : Int)) = some ((0, (4294967295, (codeS l 32, ((pk l, (l.length : Int)), 32)))), 0) := by
  have hc := bits_Check_eq (N := l.length) (pk_bytes l) (small_pk hl)
  rw [ck_pk hl] at hc
  have loop : ∃ r, iter g_coder_Start_r1 (0, 0, (pk l, (l.length : Int)), (0, (0, (0, (([], 0), 0)))), ()) = some r ∧ r = (codeS l 32, (pk l, (l.length : Int)), (0, (0, (0, (([], 0), 0)))), ()) := by
    refine iter_ex (fun x => (32 - x.2.1).toNat) (fun x => ∃ i : Nat, x = (codeS l i, (i : Int), (pk l, (l.length : Int)), (0, (0, (0, (([], 0), 0)))), ()) ∧ i ≤ 32)
      (fun r => r = (codeS l 32, (pk l, (l.length : Int)), (0, (0, (0, (([], 0), 0)))), ())) ?_ _ ⟨0, rfl, by omega⟩
    rintro x ⟨i, rfl, h1⟩
    by_cases h2 : i < 32
    · left
      have hb := coder_bit_bI (l := l) (i := i) hl (by omega)
      have hr := bI_range l i
      have hcr := codeS_lt l (n := i) (by omega)
      have h9 := or_bI (x := codeS l i) (y := bI l i) (by omega) (by omega) (by omega)
      refine ⟨(codeS l (i + 1), ((i + 1 : Nat) : Int), (pk l, (l.length : Int)), (0, (0, (0, (([], 0), 0)))), ()), ?_, ⟨i + 1, rfl, h2⟩, by simp only; omega⟩
      simp (disch := omega) only [g_coder_Start_r1, dT, hb, Option.bind_some, shl1, h9, wrap_i64]
      rfl
    · right
      have : i = 32 := by omega
      subst this
      refine ⟨_, ?_, rfl⟩
      simp (disch := omega) only [g_coder_Start_r1, dF]
  obtain ⟨r, h1, rfl⟩ := loop
  have hcr := codeS_lt l (n := 32) (by omega)
  simp (disch := omega) only [g_coder_Start, hc, nF, Option.bind_some, h1, owned_eq hl, wrap_u32]
theorem r04_Start_ok {l : List Bool} (hl : l.length ≤ 65536) : g_r04_Start (pk l, (l.length : Int)) = some ((0, (4294967295, (codeS l 32, ((pk l, (l.length : Int)), 32)))), 0) := by
  have hc := r01_Check_eq (N := l.length) (pk_bytes l) (small_pk hl)
  rw [ck_pk hl] at hc
  have loop : ∃ r, iter g_r04_Start_r1 (0, 0, (pk l, (l.length : Int)), (0, (0, (0, (([], 0), 0)))), ()) = some r ∧ r = (codeS l 32, (pk l, (l.length : Int)), (0, (0, (0, (([], 0), 0)))), ()) := by
    refine iter_ex (fun x => (32 - x.2.1).toNat) (fun x => ∃ i : Nat, x = (codeS l i, (i : Int), (pk l, (l.length : Int)), (0, (0, (0, (([], 0), 0)))), ()) ∧ i ≤ 32)
      (fun r => r = (codeS l 32, (pk l, (l.length : Int)), (0, (0, (0, (([], 0), 0)))), ())) ?_ _ ⟨0, rfl, by omega⟩
    rintro x ⟨i, rfl, h1⟩
    by_cases h2 : i < 32
    · left
      have hb := r04_bitAt_eq (l := l) (i := i) hl (by omega)
      have hr := bI_range l i
      have hcr := codeS_lt l (n := i) (by omega)
      refine ⟨(codeS l (i + 1), ((i + 1 : Nat) : Int), (pk l, (l.length : Int)), (0, (0, (0, (([], 0), 0)))), ()), ?_, ⟨i + 1, rfl, h2⟩, by simp only; omega⟩
      simp (disch := omega) only [g_r04_Start_r1, dT, hb, Option.bind_some, wrap_u64, wrap_i64]
      rfl
    · right
      have : i = 32 := by omega
      subst this
      refine ⟨_, ?_, rfl⟩
      simp (disch := omega) only [g_r04_Start_r1, dF]
  obtain ⟨r, h1, rfl⟩ := loop
  have hcr := codeS_lt l (n := 32) (by omega)
  simp (disch := omega) only [g_r04_Start, hc, nF, Option.bind_some, h1, Copy_eq hl, wrap_u32]
theorem Start_same {B : List Int} {N : Int} (hB : bytes B) (hs : small B) : ∃ r, g_coder_Start (B, N) = some r ∧ g_r04_Start (B, N) = some r ∧ ((r = (zDec, 1) ∧ ¬ okB B N) ∨
    ∃ l : List Bool, l.length ≤ 65536 ∧ B = pk l ∧ N = l.length ∧ r = ((0, (4294967295, (codeS l 32, ((pk l, (l.length : Int)), 32)))), 0)) := by
  by_cases h : okB B N
  · obtain ⟨l, rfl, rfl, hl⟩ := (okB_iff hB).1 h
    exact ⟨_, coder_Start_ok hl, r04_Start_ok hl, .inr ⟨l, hl, rfl, rfl, rfl⟩⟩
  · have h1 := bits_Check_eq (N := N) hB hs
    have h2 := r01_Check_eq (N := N) hB hs
    unfold ck at h1 h2
    rw [if_neg h] at h1 h2
    refine ⟨(zDec, 1), ?_, ?_, .inl ⟨rfl, h⟩⟩
    · simp (disch := omega) only [g_coder_Start, h1, nT, Option.bind_some]; rfl
    · simp (disch := omega) only [g_r04_Start, h2, nT, Option.bind_some]; rfl

/-- may it be a decoder's state? -/
def okD (d : DecT) : Prop := goodP d.1 d.2.1 ∧ d.1 ≤ d.2.2.1 ∧ d.2.2.1 ≤ d.2.1 ∧ okB d.2.2.2.1.1 d.2.2.2.1.2 ∧ 32 ≤ d.2.2.2.2 ∧ d.2.2.2.2 ≤ 65600
def wfD (d : DecT) : Prop := (0 ≤ d.1 ∧ d.1 < 4294967296) ∧ (0 ≤ d.2.1 ∧ d.2.1 < 4294967296) ∧ (0 ≤ d.2.2.1 ∧ d.2.2.1 < 4294967296) ∧ bytes d.2.2.2.1.1 ∧ small d.2.2.2.1.1
theorem CheckDec_t {d : DecT} (h : wfD d) (ho : okD d) : g_r04_CheckDec d = some true := by
  obtain ⟨lo, hi, c, ⟨B, N⟩, p⟩ := d
  obtain ⟨h1, h2, h3, h4, h5⟩ := h
  have h1 : 0 ≤ lo ∧ lo < 4294967296 := h1
  have h2 : 0 ≤ hi ∧ hi < 4294967296 := h2
  have h4 : bytes B := h4
  have h5 : small B := h5
  obtain ⟨o1, o2, o3, o4, o5, o6⟩ := ho
  have o1 : goodP lo hi := o1
  have o2 : lo ≤ c := o2
  have o3 : c ≤ hi := o3
  have o4 : okB B N := o4
  have o5 : 32 ≤ p := o5
  have o6 : p ≤ 65600 := o6
  have hw := wide_eq (lo := lo) (hi := hi) (by omega)
  rw [decide_eq_true o1] at hw
  have hc := r01_Check_eq (N := N) h4 h5
  unfold ck at hc
  rw [if_pos o4] at hc
  have e1 := wrap_u64 (n := lo) (by omega) (by omega)
  have e2 := wrap_u64 (n := hi) (by omega) (by omega)
  simp (disch := omega) only [g_r04_CheckDec, e1, e2, hw, hc, Option.bind_some, dT, cond_true, eT]
  rw [decide_eq_true (by omega)]
theorem CheckDec_f {d : DecT} (h : wfD d) (ho : ¬ okD d) : g_r04_CheckDec d = some false := by
  obtain ⟨lo, hi, c, ⟨B, N⟩, p⟩ := d
  obtain ⟨h1, h2, h3, h4, h5⟩ := h
  have h1 : 0 ≤ lo ∧ lo < 4294967296 := h1
  have h2 : 0 ≤ hi ∧ hi < 4294967296 := h2
  have h4 : bytes B := h4
  have h5 : small B := h5
  have hw := wide_eq (lo := lo) (hi := hi) (by omega)
  have hc := r01_Check_eq (N := N) h4 h5
  have e1 := wrap_u64 (n := lo) (by omega) (by omega)
  have e2 := wrap_u64 (n := hi) (by omega) (by omega)
  by_cases o1 : goodP lo hi
  · rw [decide_eq_true o1] at hw
    by_cases o2 : lo ≤ c
    · by_cases o3 : c ≤ hi
      · unfold ck at hc
        by_cases o4 : okB B N
        · rw [if_pos o4] at hc
          by_cases o5 : 32 ≤ p
          · simp (disch := omega) only [g_r04_CheckDec, e1, e2, hw, hc, Option.bind_some, dT, cond_true, eT]
            rw [decide_eq_false (fun o6 => ho ⟨o1, o2, o3, o4, o5, o6⟩)]
          · simp (disch := omega) only [g_r04_CheckDec, e1, e2, hw, hc, Option.bind_some, dT, dF, cond_true, eT]
        · rw [if_neg o4] at hc
          simp (disch := omega) only [g_r04_CheckDec, e1, e2, hw, hc, Option.bind_some, dT, cond_true, eF]
      · simp (disch := omega) only [g_r04_CheckDec, e1, e2, hw, Option.bind_some, dT, dF, cond_true]
    · simp (disch := omega) only [g_r04_CheckDec, e1, e2, hw, Option.bind_some, dF, cond_true]
  · rw [decide_eq_false o1] at hw
    simp (disch := omega) only [g_r04_CheckDec, e1, e2, hw, Option.bind_some, cond_false]
end Go.Sq
/- The coder: Next: the program's and the document's are the same. -/
namespace Go.Sq
open Go.Rx

def findX (lo hi c t : Int) : Int := ((c - lo + 1) * t - 1) / (hi - lo + 1)
theorem find_facts {lo hi c t : Int} (h1 : lo ≤ c) (h2 : c ≤ hi) (hr : hi - lo + 1 ≤ 4294967296) (ht : 1 ≤ t) (ht2 : t ≤ 16384) :
    0 ≤ (c - lo + 1) * t - 1 ∧ (c - lo + 1) * t ≤ 70368744177664 ∧ 0 ≤ findX lo hi c t ∧ findX lo hi c t < t ∧ findX lo hi c t * (hi - lo + 1) ≤ (c - lo + 1) * t - 1 ∧ (c - lo + 1) * t ≤ (findX lo hi c t + 1) * (hi - lo + 1) := by
  have e1 : 1 * 1 ≤ (c - lo + 1) * t := Int.mul_le_mul (by omega) ht (by omega) (by omega)
  have e2 : (c - lo + 1) * t ≤ 4294967296 * 16384 := Int.mul_le_mul (by omega) ht2 (by omega) (by omega)
  have e3 : (c - lo + 1) * t ≤ (hi - lo + 1) * t := Int.mul_le_mul_of_nonneg_right (by omega) (by omega)
  have e4 : 0 ≤ findX lo hi c t := Int.ediv_nonneg (by omega) (by omega)
  have e5 : findX lo hi c t < t := by
    unfold findX
    apply Int.ediv_lt_of_lt_mul (by omega)
    rw [Int.mul_comm t]; omega
  have e6 : findX lo hi c t * (hi - lo + 1) ≤ (c - lo + 1) * t - 1 := Int.ediv_mul_le _ (by omega)
  have e7 : (c - lo + 1) * t - 1 < (findX lo hi c t + 1) * (hi - lo + 1) := Int.lt_ediv_add_one_mul_self _ (by omega)
  exact ⟨by omega, by omega, e4, e5, e6, by omega⟩
/-- the code lies within what it narrows to -/
theorem find_within {lo hi c t a b : Int} (h1 : lo ≤ c) (h2 : c ≤ hi) (hr : hi - lo + 1 ≤ 4294967296) (ht : 1 ≤ t) (ht2 : t ≤ 16384) (ha : a ≤ findX lo hi c t) (hb : findX lo hi c t < b) :
    narL lo hi a t ≤ c ∧ c ≤ narH lo hi b t := by
  obtain ⟨f1, f2, f3, f4, f5, f6⟩ := find_facts h1 h2 hr ht ht2
  have g1 : a * (hi - lo + 1) ≤ findX lo hi c t * (hi - lo + 1) := Int.mul_le_mul_of_nonneg_right ha (by omega)
  have g2 : (findX lo hi c t + 1) * (hi - lo + 1) ≤ b * (hi - lo + 1) := Int.mul_le_mul_of_nonneg_right hb (by omega)
  have g3 : (hi - lo + 1) * a / t < c - lo + 1 := by
    apply Int.ediv_lt_of_lt_mul (by omega)
    rw [Int.mul_comm _ a]; omega
  have g4 : c - lo + 1 ≤ (hi - lo + 1) * b / t := by
    apply Int.le_ediv_of_mul_le (by omega)
    rw [Int.mul_comm _ b]; omega
  unfold narL narH
  omega
noncomputable def nextR (lo hi c : Int) (p : Nat) (l : List Bool) (C : List Int) (s : Nat) : DecT × Int × Int :=
  ((IntKind.u32.wrap (decS 33 (narL lo hi (C.getD s 0) (totS C)) (narH lo hi (C.getD (s + 1) 0) (totS C)) c p l).1,
    (IntKind.u32.wrap (decS 33 (narL lo hi (C.getD s 0) (totS C)) (narH lo hi (C.getD (s + 1) 0) (totS C)) c p l).2.1,
     (IntKind.u32.wrap (decS 33 (narL lo hi (C.getD s 0) (totS C)) (narH lo hi (C.getD (s + 1) 0) (totS C)) c p l).2.2.1,
      ((pk l, (l.length : Int)), (((decS 33 (narL lo hi (C.getD s 0) (totS C)) (narH lo hi (C.getD (s + 1) 0) (totS C)) c p l).2.2.2 : Nat) : Int))))), ((s : Int), 0))
theorem coder_Next_ok {lo hi c : Int} {p : Nat} {l : List Bool} {C : List Int} {s : Nat} (hlo : 0 ≤ lo) (hhi : hi < 4294967296) (hg : goodP lo hi) (hc1 : lo ≤ c) (hc2 : c ≤ hi) (hl : l.length ≤ 65536)
    (hp1 : 32 ≤ p) (hp2 : p ≤ l.length + 32) (hF : okF C) (hs : isSym C (findX lo hi c (totS C)) s) :
    g_coder_Next (lo, (hi, (c, ((pk l, (l.length : Int)), (p : Int))))) C = some (nextR lo hi c p l C s) := by
  have hF2 := hF.2.1
  have hsm : small C := by unfold small; omega
  have hgl := hg.1
  have e1 := wrap_u64 (n := lo) (by omega) (by omega)
  have e2 := wrap_u64 (n := hi) (by omega) (by omega)
  have e3 := wrap_u64 (n := c) (by omega) (by omega)
  have hgd := good_eq (lo := lo) (hi := hi)
  rw [decide_eq_true hg] at hgd
  have hc := bits_Check_eq (N := l.length) (pk_bytes l) (small_pk hl)
  rw [ck_pk hl] at hc
  have hfc := freq_Check_eq hsm
  rw [ckF_pos hF] at hfc
  have ht := freq_Total_eq hsm
  obtain ⟨_, ht1, ht2⟩ := totS_pos hF
  have hfind := freq_Find_eq hF hs
  have hs1 := hs.1
  have a0 := okF_mono hF (i := 0) (j := s) (by omega) (by omega)
  rw [hF.2.2.1] at a0
  have a1 := hF.2.2.2.2 s hs1
  have a2 := okF_mono hF (i := s + 1) (j := C.length - 1) (by omega) (by omega)
  rw [← (totS_pos hF).1] at a2
  have hgw := good_wide hg
  have hw := find_within (a := C.getD s 0) (b := C.getD (s + 1) 0) hc1 hc2 (by omega) ht1 ht2 hs.2.1 hs.2.2
  obtain ⟨q1, q2, q3, q4, _, _⟩ := find_facts hc1 hc2 (by omega) ht1 ht2
  have e4 : ((s : Int) + 1).toNat = s + 1 := by omega
  unfold nextR
  generalize hga : C.getD s 0 = a at *
  generalize hgb : C.getD (s + 1) 0 = b at *
  generalize totS C = t at *
  obtain ⟨f1, f2, f3, f4, f5, f6, f7⟩ := nar_facts (r := hi - lo + 1) (a := a) (b := b) (t := t) (by omega) (by omega) a0 a1 a2 ht1 ht2
  have d0 : ((c - lo + 1) * t - 1).tdiv (hi - lo + 1) = findX lo hi c t := Int.tdiv_eq_ediv_of_nonneg q1
  have d1 : ((hi - lo + 1) * a).tdiv t = (hi - lo + 1) * a / t := Int.tdiv_eq_ediv_of_nonneg f1
  have d2 : ((hi - lo + 1) * b).tdiv t = (hi - lo + 1) * b / t := Int.tdiv_eq_ediv_of_nonneg f3
  have hL : narL lo hi a t = lo + (hi - lo + 1) * a / t := rfl
  have hH : narH lo hi b t = lo + (hi - lo + 1) * b / t - 1 := rfl
  rw [hL, hH] at hw ⊢
  generalize findX lo hi c t = x at *
  generalize (hi - lo + 1) * a / t = qa at *
  generalize (hi - lo + 1) * b / t = qb at *
  have hit := fun (d z : DecT) (hd : d.2.2.2.1 = (pk l, (l.length : Int))) => coder_read (n := 32) (lo := lo + qa) (hi := lo + qb - 1) (c := c) (p := p) (l := l) (s := (s : Int)) (d := d) (z := z) (roomy_start (by omega) (by omega) (by omega)) hw hl (by omega) (by omega) hd
  have hit := hit (lo, (hi, (c, ((pk l, (l.length : Int)), (p : Int))))) (0, (0, (0, (([], 0), 0)))) rfl
  simp (disch := omega) only [g_coder_Next, e1, e2, e3, hgd, hc, hfc, ht, Bool.not_true, cond_false, dF, nF, nT, Option.bind_some, wrap_i64, wrap_u64, d0, d1, d2, hfind, wT, Int.toNat_natCast, e4, hga, hgb, hit, owned_eq hl]
theorem r04_Next_ok {lo hi c : Int} {p : Nat} {l : List Bool} {C : List Int} {s : Nat} (hlo : 0 ≤ lo) (hhi : hi < 4294967296) (hg : goodP lo hi) (hc1 : lo ≤ c) (hc2 : c ≤ hi) (hl : l.length ≤ 65536)
    (hp1 : 32 ≤ p) (hp2 : p ≤ l.length + 32) (hF : okF C) (hs : isSym C (findX lo hi c (totS C)) s) :
    g_r04_Next (lo, (hi, (c, ((pk l, (l.length : Int)), (p : Int))))) C = some (nextR lo hi c p l C s) := by
  have hF2 := hF.2.1
  have hsm : small C := by unfold small; omega
  have hgl := hg.1
  have e1 := wrap_u64 (n := lo) (by omega) (by omega)
  have e2 := wrap_u64 (n := hi) (by omega) (by omega)
  have e3 := wrap_u64 (n := c) (by omega) (by omega)
  have hce := CheckDec_t (d := (lo, (hi, (c, ((pk l, (l.length : Int)), (p : Int)))))) ⟨by simp only; omega, by simp only; omega, by simp only; omega, pk_bytes l, small_pk hl⟩
    ⟨hg, hc1, hc2, (okB_iff (pk_bytes l)).2 ⟨l, rfl, rfl, hl⟩, by simp only; omega, by simp only; omega⟩
  have hfc := r03_Check_eq hsm
  rw [ckF_pos hF] at hfc
  have ht := r03_Total_eq hsm
  obtain ⟨_, ht1, ht2⟩ := totS_pos hF
  have hfind := r03_Find_eq hF hs
  have hsp := r03_Span_eq (s := (s : Int)) hsm (by have := hs.1; omega)
  unfold spanS at hsp
  rw [if_pos ⟨hF, by omega, by have := hs.1; omega⟩, Int.toNat_natCast] at hsp
  have hs1 := hs.1
  have a0 := okF_mono hF (i := 0) (j := s) (by omega) (by omega)
  rw [hF.2.2.1] at a0
  have a1 := hF.2.2.2.2 s hs1
  have a2 := okF_mono hF (i := s + 1) (j := C.length - 1) (by omega) (by omega)
  rw [← (totS_pos hF).1] at a2
  have hgw := good_wide hg
  have hw := find_within (a := C.getD s 0) (b := C.getD (s + 1) 0) hc1 hc2 (by omega) ht1 ht2 hs.2.1 hs.2.2
  obtain ⟨q1, q2, q3, q4, _, _⟩ := find_facts hc1 hc2 (by omega) ht1 ht2
  have e4 : ((s : Int) + 1).toNat = s + 1 := by omega
  unfold nextR
  generalize hga : C.getD s 0 = a at *
  generalize hgb : C.getD (s + 1) 0 = b at *
  generalize totS C = t at *
  obtain ⟨f1, f2, f3, f4, f5, f6, f7⟩ := nar_facts (r := hi - lo + 1) (a := a) (b := b) (t := t) (by omega) (by omega) a0 a1 a2 ht1 ht2
  have d0 : ((c - lo + 1) * t - 1).tdiv (hi - lo + 1) = findX lo hi c t := Int.tdiv_eq_ediv_of_nonneg q1
  have d1 : ((hi - lo + 1) * a).tdiv t = (hi - lo + 1) * a / t := Int.tdiv_eq_ediv_of_nonneg f1
  have d2 : ((hi - lo + 1) * b).tdiv t = (hi - lo + 1) * b / t := Int.tdiv_eq_ediv_of_nonneg f3
  have hL : narL lo hi a t = lo + (hi - lo + 1) * a / t := rfl
  have hH : narH lo hi b t = lo + (hi - lo + 1) * b / t - 1 := rfl
  rw [hL, hH] at hw ⊢
  generalize findX lo hi c t = x at *
  generalize (hi - lo + 1) * a / t = qa at *
  generalize (hi - lo + 1) * b / t = qb at *
  have hit := fun (d z : DecT) (hd : d.2.2.2.1 = (pk l, (l.length : Int))) => r04_read (n := 32) (lo := lo + qa) (hi := lo + qb - 1) (c := c) (p := p) (l := l) (s := (s : Int)) (d := d) (z := z) (roomy_start (by omega) (by omega) (by omega)) hw hl (by omega) (by omega) hd
  have hit := hit (lo, (hi, (c, ((pk l, (l.length : Int)), (p : Int))))) (0, (0, (0, (([], 0), 0)))) rfl
  simp (disch := omega) only [g_r04_Next, g_r04_narrow, e1, e2, e3, hce, hfc, ht, Bool.not_true, cond_false, dF, nF, nT, Option.bind_some, wrap_i64, wrap_u64, d0, d1, d2, hfind, hsp, hit]

/-- why nothing is read -/
theorem coder_Next_arg {d : DecT} {C : List Int} (hd : wfD d) (hC : small C) (h : ¬ (okD d ∧ okF C)) : g_coder_Next d C = some (zDec, (0, 1)) := by
  obtain ⟨lo, hi, c, ⟨B, N⟩, p⟩ := d
  obtain ⟨h1, h2, h3, h4, h5⟩ := hd
  have h1 : 0 ≤ lo ∧ lo < 4294967296 := h1
  have h2 : 0 ≤ hi ∧ hi < 4294967296 := h2
  have h3 : 0 ≤ c ∧ c < 4294967296 := h3
  have h4 : bytes B := h4
  have h5 : small B := h5
  have e1 := wrap_u64 (n := lo) (by omega) (by omega)
  have e2 := wrap_u64 (n := hi) (by omega) (by omega)
  have e3 := wrap_u64 (n := c) (by omega) (by omega)
  have hgd := good_eq (lo := lo) (hi := hi)
  have hc := bits_Check_eq (N := N) h4 h5
  have hfc := freq_Check_eq hC
  have hz : zDec = (0, (0, (0, (([], 0), 0)))) := rfl
  rw [hz]
  by_cases g : goodP lo hi
  · rw [decide_eq_true g] at hgd
    by_cases g1 : lo ≤ c
    · by_cases g2 : c ≤ hi
      · unfold ck at hc
        by_cases g3 : okB B N
        · rw [if_pos g3] at hc
          by_cases g4 : 32 ≤ p
          · by_cases g5 : p ≤ 65600
            · rw [ckF_neg (fun hh => h ⟨⟨g, g1, g2, g3, g4, g5⟩, hh⟩)] at hfc
              simp (disch := omega) only [g_coder_Next, e1, e2, e3, hgd, hc, hfc, Bool.not_true, cond_false, dF, nF, nT, Option.bind_some]
            · simp (disch := omega) only [g_coder_Next, e1, e2, e3, hgd, hc, Bool.not_true, cond_false, cond_true, dF, dT, nF, Option.bind_some]
          · simp (disch := omega) only [g_coder_Next, e1, e2, e3, hgd, hc, Bool.not_true, cond_false, cond_true, dF, dT, nF, Option.bind_some]
        · rw [if_neg g3] at hc
          simp (disch := omega) only [g_coder_Next, e1, e2, e3, hgd, hc, Bool.not_true, cond_false, cond_true, dF, nT, Option.bind_some]
      · simp (disch := omega) only [g_coder_Next, e1, e2, e3, hgd, Bool.not_true, cond_false, cond_true, dF, dT, Option.bind_some]
    · simp (disch := omega) only [g_coder_Next, e1, e2, e3, hgd, Bool.not_true, cond_false, cond_true, dT, Option.bind_some]
  · rw [decide_eq_false g] at hgd
    simp (disch := omega) only [g_coder_Next, e1, e2, e3, hgd, Bool.not_false, cond_true, Option.bind_some]
theorem r04_Next_arg {d : DecT} {C : List Int} (hd : wfD d) (hC : small C) (h : ¬ (okD d ∧ okF C)) : g_r04_Next d C = some (zDec, (0, 1)) := by
  have hfc := r03_Check_eq hC
  have hz : zDec = (0, (0, (0, (([], 0), 0)))) := rfl
  rw [hz]
  by_cases g : okD d
  · have hce := CheckDec_t hd g
    rw [ckF_neg (fun hh => h ⟨g, hh⟩)] at hfc
    simp (disch := omega) only [g_r04_Next, hce, hfc, Bool.not_true, cond_false, nT, Option.bind_some]
  · have hce := CheckDec_f hd g
    simp (disch := omega) only [g_r04_Next, hce, Bool.not_false, cond_true, Option.bind_some]
theorem coder_Next_short {lo hi c : Int} {p : Nat} {l : List Bool} {C : List Int} (hlo : 0 ≤ lo) (hhi : hi < 4294967296) (hg : goodP lo hi) (hc1 : lo ≤ c) (hc2 : c ≤ hi) (hl : l.length ≤ 65536)
    (hp1 : 32 ≤ p) (hp2 : l.length + 32 < p) (hp3 : p ≤ 65600) (hF : okF C) : g_coder_Next (lo, (hi, (c, ((pk l, (l.length : Int)), (p : Int))))) C = some (zDec, (0, 20)) := by
  have hF2 := hF.2.1
  have hsm : small C := by unfold small; omega
  have e1 := wrap_u64 (n := lo) (by omega) (by omega)
  have e2 := wrap_u64 (n := hi) (by omega) (by omega)
  have e3 := wrap_u64 (n := c) (by omega) (by omega)
  have hgd := good_eq (lo := lo) (hi := hi)
  rw [decide_eq_true hg] at hgd
  have hc := bits_Check_eq (N := l.length) (pk_bytes l) (small_pk hl)
  rw [ck_pk hl] at hc
  have hfc := freq_Check_eq hsm
  rw [ckF_pos hF] at hfc
  have hz : zDec = (0, (0, (0, (([], 0), 0)))) := rfl
  rw [hz]
  simp (disch := omega) only [g_coder_Next, e1, e2, e3, hgd, hc, hfc, Bool.not_true, cond_false, dF, dT, nF, Option.bind_some, bne_self_eq_false, wrap_i64]
theorem r04_Next_short {lo hi c : Int} {p : Nat} {l : List Bool} {C : List Int} (hlo : 0 ≤ lo) (hhi : hi < 4294967296) (hg : goodP lo hi) (hc1 : lo ≤ c) (hc2 : c ≤ hi) (hl : l.length ≤ 65536)
    (hp1 : 32 ≤ p) (hp2 : l.length + 32 < p) (hp3 : p ≤ 65600) (hF : okF C) : g_r04_Next (lo, (hi, (c, ((pk l, (l.length : Int)), (p : Int))))) C = some (zDec, (0, 20)) := by
  have hF2 := hF.2.1
  have hsm : small C := by unfold small; omega
  have hce := CheckDec_t (d := (lo, (hi, (c, ((pk l, (l.length : Int)), (p : Int)))))) ⟨by simp only; omega, by simp only; omega, by simp only; omega, pk_bytes l, small_pk hl⟩
    ⟨hg, hc1, hc2, (okB_iff (pk_bytes l)).2 ⟨l, rfl, rfl, hl⟩, by simp only; omega, by simp only; omega⟩
  have hfc := r03_Check_eq hsm
  rw [ckF_pos hF] at hfc
  have hz : zDec = (0, (0, (0, (([], 0), 0)))) := rfl
  rw [hz]
  simp (disch := omega) only [g_r04_Next, hce, hfc, Bool.not_true, cond_false, dT, nF, Option.bind_some, bne_self_eq_false, wrap_i64]
/-- what a decoder's state in order is -/
theorem okD_form {d : DecT} (h : wfD d) (ho : okD d) : ∃ (lo hi c : Int) (p : Nat) (l : List Bool), d = (lo, (hi, (c, ((pk l, (l.length : Int)), (p : Int))))) ∧ 0 ≤ lo ∧ hi < 4294967296 ∧ goodP lo hi ∧ lo ≤ c ∧ c ≤ hi ∧ l.length ≤ 65536 ∧ 32 ≤ p ∧ p ≤ 65600 := by
  obtain ⟨lo, hi, c, ⟨B, N⟩, p⟩ := d
  obtain ⟨h1, h2, h3, h4, h5⟩ := h
  obtain ⟨o1, o2, o3, o4, o5, o6⟩ := ho
  have o5 : 32 ≤ p := o5
  have o6 : p ≤ 65600 := o6
  have h1 : 0 ≤ lo ∧ lo < 4294967296 := h1
  have h2 : 0 ≤ hi ∧ hi < 4294967296 := h2
  obtain ⟨l, hB, hN, hl⟩ := (okB_iff h4).1 o4
  have hB : B = pk l := hB
  have hN : N = l.length := hN
  subst hB; subst hN
  obtain ⟨n, rfl⟩ : ∃ n : Nat, p = n := ⟨p.toNat, by omega⟩
  exact ⟨lo, hi, c, n, l, rfl, h1.1, h2.2, o1, o2, o3, hl, by omega, by omega⟩
/-- the program's Next is the document's -/
theorem Next_same {d : DecT} {C : List Int} (hd : wfD d) (hC : small C) : ∃ r, g_coder_Next d C = some r ∧ g_r04_Next d C = some r ∧
    ((r = (zDec, (0, 1)) ∧ ¬ (okD d ∧ okF C)) ∨ ∃ (lo hi c : Int) (p : Nat) (l : List Bool), d = (lo, (hi, (c, ((pk l, (l.length : Int)), (p : Int))))) ∧ okD d ∧ okF C ∧ l.length ≤ 65536 ∧ 0 ≤ lo ∧ hi < 4294967296 ∧ goodP lo hi ∧ lo ≤ c ∧ c ≤ hi ∧ 32 ≤ p ∧
      ((r = (zDec, (0, 20)) ∧ l.length + 32 < p) ∨ ∃ s, p ≤ l.length + 32 ∧ isSym C (findX lo hi c (totS C)) s ∧ r = nextR lo hi c p l C s)) := by
  by_cases h : okD d ∧ okF C
  · obtain ⟨ho, hF⟩ := h
    obtain ⟨lo, hi, c, p, l, rfl, a1, a2, a3, a4, a5, a6, a7, a8⟩ := okD_form hd ho
    by_cases hp : l.length + 32 < p
    · exact ⟨_, coder_Next_short a1 a2 a3 a4 a5 a6 a7 hp a8 hF, r04_Next_short a1 a2 a3 a4 a5 a6 a7 hp a8 hF, .inr ⟨lo, hi, c, p, l, rfl, ho, hF, a6, a1, a2, a3, a4, a5, a7, .inl ⟨rfl, hp⟩⟩⟩
    · have hgl := a3.1
      obtain ⟨_, t1, t2⟩ := totS_pos hF
      obtain ⟨_, _, f3, f4, _, _⟩ := find_facts a4 a5 (by omega) t1 t2
      obtain ⟨s, hs⟩ := isSym_ex hF f3 f4
      exact ⟨_, coder_Next_ok a1 a2 a3 a4 a5 a6 a7 (by omega) hF hs, r04_Next_ok a1 a2 a3 a4 a5 a6 a7 (by omega) hF hs, .inr ⟨lo, hi, c, p, l, rfl, ho, hF, a6, a1, a2, a3, a4, a5, a7, .inr ⟨s, by omega, hs, rfl⟩⟩⟩
  · exact ⟨_, coder_Next_arg hd hC h, r04_Next_arg hd hC h, .inl ⟨rfl, h⟩⟩
end Go.Sq
/- The coder: All and Back. -/
namespace Go.Sq
open Go.Rx

theorem u32_range (x : Int) : 0 ≤ IntKind.u32.wrap x ∧ IntKind.u32.wrap x < 4294967296 := by
  simp only [IntKind.wrap, IntKind.bits, IntKind.signed]; simp; omega
def zEnc : EncT := (0, (0, (0, ([], 0))))
theorem wfE_zero : wfE zEnc := ⟨by simp [zEnc], by simp [zEnc], fun x hx => (nomatch hx), by simp [zEnc, small]⟩
theorem wfE_pk {lo hi : Int} {w : Int} {l : List Bool} (h1 : 0 ≤ lo ∧ lo < 4294967296) (h2 : 0 ≤ hi ∧ hi < 4294967296) (hl : l.length ≤ 65536) : wfE (lo, (hi, (w, (pk l, (l.length : Int))))) := ⟨h1, h2, pk_bytes l, small_pk hl⟩
theorem doneS_wf {n : Nat} {lo hi : Int} {w : Nat} {l : List Bool} (hl : l.length ≤ 65536) : wfE (doneS (widS n lo hi w l)).2.1 := by
  cases h : widS n lo hi w l with
  | none => exact wfE_zero
  | some r =>
    obtain ⟨lo', hi', w', l'⟩ := r
    have := widS_len hl h
    unfold doneS
    dsimp only
    split
    · exact wfE_zero
    · exact wfE_pk (u32_range _) (u32_range _) this.1
/-- what Put comes to -/
noncomputable def PutF (e : EncT) (C : List Int) (s : Int) : EncT × Int := (g_coder_Put e C s).getD (zEnc, 1)
theorem PutF_same {e : EncT} {C : List Int} {s : Int} (he : wfE e) (hC : small C) (hs : s < 2 ^ 63) : g_coder_Put e C s = some (PutF e C s) ∧ g_r04_Put e C s = some (PutF e C s) ∧ wfE (PutF e C s).1 := by
  obtain ⟨r, h1, h2, h3⟩ := Put_same he hC hs
  have : PutF e C s = r := by unfold PutF; rw [h1]; rfl
  rw [this]
  refine ⟨h1, h2, ?_⟩
  rcases h3 with ⟨rfl, _⟩ | ⟨lo, hi, w, l, _, _, _, _, hl, rfl⟩
  · exact wfE_zero
  · exact doneS_wf hl
noncomputable def EndF (e : EncT) : (List Int × Int) × Int := (g_coder_End e).getD (([], 0), 1)
theorem EndF_same {e : EncT} (he : wfE e) : g_coder_End e = some (EndF e) ∧ g_r04_End e = some (EndF e) := by
  obtain ⟨r, h1, h2, _⟩ := End_same he
  have : EndF e = r := by unfold EndF; rw [h1]; rfl
  rw [this]; exact ⟨h1, h2⟩
/-- one symbol behind the other -/
noncomputable def putAll : List (Int × List Int) → EncT → EncT × Int
  | [], e => (e, 0)
  | x :: r, e => if (PutF e x.2 x.1).2 ≠ 0 then (zEnc, (PutF e x.2 x.1).2) else putAll r (PutF e x.2 x.1).1
def eBegin : EncT := (0, (4294967295, (0, ([], 0))))
theorem wfE_begin : wfE eBegin := ⟨by simp [eBegin], by simp [eBegin], fun x hx => (nomatch hx), by simp [eBegin, small]⟩
noncomputable def allF (l : List Int) (F : List (List Int)) : (List Int × Int) × Int :=
  if l.length ≠ F.length then (([], 0), 1) else if (putAll (l.zip F) eBegin).2 ≠ 0 then (([], 0), (putAll (l.zip F) eBegin).2) else EndF (putAll (l.zip F) eBegin).1
theorem zip_drop {l : List Int} {F : List (List Int)} (h : l.length = F.length) {i : Nat} (hi : i < l.length) : (l.zip F).drop i = (l.getD i 0, F.getD i []) :: (l.zip F).drop (i + 1) := by
  have hz : i < (l.zip F).length := by rw [List.length_zip]; omega
  rw [List.drop_eq_getElem_cons hz]
  congr 1
  rw [List.getElem_zip, List.getD_eq_getElem?_getD, List.getElem?_eq_getElem hi, List.getD_eq_getElem?_getD, List.getElem?_eq_getElem (by omega)]
  rfl
theorem mem_get {F : List (List Int)} {i : Nat} (h : i < F.length) : F.getD i [] ∈ F := by
  rw [List.getD_eq_getElem?_getD, List.getElem?_eq_getElem h]; exact List.getElem_mem h
theorem mem_getI {l : List Int} {i : Nat} (h : i < l.length) : l.getD i 0 ∈ l := by
  rw [List.getD_eq_getElem?_getD, List.getElem?_eq_getElem h]; exact List.getElem_mem h
/-- what a run of Put's leaves -/
def runR (W : EncT × Int) (r : ((List Int × Int) × EncT × Unit) ⊕ (Int × (List Int × Int) × Unit)) : Prop :=
  (∃ e, r = .inl (([], 0), e, ()) ∧ W = (e, 0) ∧ wfE e) ∨ (∃ k, r = .inr (k, ([], 0), ()) ∧ W = (zEnc, k) ∧ k ≠ 0)
theorem coder_run {l : List Int} {F : List (List Int)} (h : l.length = F.length) (hl : small l) (hF : ∀ C ∈ F, small C) (hr : ∀ s ∈ l, s < 2 ^ 63) {e : EncT} (he : wfE e) :
    ∃ r, iter g_coder_All_r1 (F, l, (l.length : Int), 0, ([], 0), e, ()) = some r ∧ runR (putAll (l.zip F) e) r := by
  unfold small at hl
  refine iter_ex (fun x => ((l.length : Int) - x.2.2.2.1).toNat) (fun x => ∃ (i : Nat) (e' : EncT), x = (F, l, (l.length : Int), (i : Int), ([], 0), e', ()) ∧ i ≤ l.length ∧ wfE e' ∧ putAll ((l.zip F).drop i) e' = putAll (l.zip F) e)
    (runR (putAll (l.zip F) e)) ?_ _ ⟨0, e, rfl, Nat.zero_le _, he, rfl⟩
  rintro x ⟨i, ⟨a1, a2, a3, a4, a5⟩, rfl, h1, h2, h3⟩
  by_cases h4 : i < l.length
  · have hp := PutF_same h2 (hF _ (mem_get (i := i) (by omega))) (hr _ (mem_getI h4))
    obtain ⟨p1, _, p3⟩ := hp
    rw [zip_drop h h4, putAll] at h3
    generalize hy : PutF (a1, a2, a3, a4, a5) (F.getD i []) (l.getD i 0) = y at p1 p3 h3
    obtain ⟨⟨y1, y2, y3, y4, y5⟩, k⟩ := y
    by_cases h5 : k ≠ 0
    · right
      refine ⟨_, ?_, .inr ⟨k, rfl, by rw [← h3]; exact if_pos h5, h5⟩⟩
      simp (disch := omega) only [g_coder_All_r1, dT, wT, Int.toNat_natCast, p1, Option.bind_some, nT]
    · have hk : k = 0 := Decidable.not_not.1 h5
      subst hk
      left
      refine ⟨(F, l, (l.length : Int), ((i + 1 : Nat) : Int), ([], 0), (y1, y2, y3, y4, y5), ()), ?_, ⟨i + 1, _, rfl, h4, p3, h3⟩, by simp only; omega⟩
      simp (disch := omega) only [g_coder_All_r1, dT, wT, Int.toNat_natCast, p1, Option.bind_some, nF, wrap_i64]
      rfl
  · right
    have hi : i = l.length := by omega
    rw [List.drop_eq_nil_of_le (by rw [List.length_zip]; omega), putAll] at h3
    refine ⟨_, ?_, .inl ⟨_, rfl, h3.symm, h2⟩⟩
    simp (disch := omega) only [g_coder_All_r1, dF]
theorem r04_run {l : List Int} {F : List (List Int)} (h : l.length = F.length) (hl : small l) (hF : ∀ C ∈ F, small C) (hr : ∀ s ∈ l, s < 2 ^ 63) {e : EncT} (he : wfE e) :
    ∃ r, iter g_r04_All_r1 (F, l, (l.length : Int), 0, ([], 0), e, ()) = some r ∧ runR (putAll (l.zip F) e) r := by
  unfold small at hl
  refine iter_ex (fun x => ((l.length : Int) - x.2.2.2.1).toNat) (fun x => ∃ (i : Nat) (e' : EncT), x = (F, l, (l.length : Int), (i : Int), ([], 0), e', ()) ∧ i ≤ l.length ∧ wfE e' ∧ putAll ((l.zip F).drop i) e' = putAll (l.zip F) e)
    (runR (putAll (l.zip F) e)) ?_ _ ⟨0, e, rfl, Nat.zero_le _, he, rfl⟩
  rintro x ⟨i, ⟨a1, a2, a3, a4, a5⟩, rfl, h1, h2, h3⟩
  by_cases h4 : i < l.length
  · have hp := PutF_same h2 (hF _ (mem_get (i := i) (by omega))) (hr _ (mem_getI h4))
    obtain ⟨_, p1, p3⟩ := hp
    rw [zip_drop h h4, putAll] at h3
    generalize hy : PutF (a1, a2, a3, a4, a5) (F.getD i []) (l.getD i 0) = y at p1 p3 h3
    obtain ⟨⟨y1, y2, y3, y4, y5⟩, k⟩ := y
    by_cases h5 : k ≠ 0
    · right
      refine ⟨_, ?_, .inr ⟨k, rfl, by rw [← h3]; exact if_pos h5, h5⟩⟩
      simp (disch := omega) only [g_r04_All_r1, dT, wT, Int.toNat_natCast, p1, Option.bind_some, nT]
    · have hk : k = 0 := Decidable.not_not.1 h5
      subst hk
      left
      refine ⟨(F, l, (l.length : Int), ((i + 1 : Nat) : Int), ([], 0), (y1, y2, y3, y4, y5), ()), ?_, ⟨i + 1, _, rfl, h4, p3, h3⟩, by simp only; omega⟩
      simp (disch := omega) only [g_r04_All_r1, dT, wT, Int.toNat_natCast, p1, Option.bind_some, nF, wrap_i64]
      rfl
  · right
    have hi : i = l.length := by omega
    rw [List.drop_eq_nil_of_le (by rw [List.length_zip]; omega), putAll] at h3
    refine ⟨_, ?_, .inl ⟨_, rfl, h3.symm, h2⟩⟩
    simp (disch := omega) only [g_r04_All_r1, dF]
theorem All_same {l : List Int} {F : List (List Int)} (hl : small l) (hl2 : small F) (hF : ∀ C ∈ F, small C) (hr : ∀ s ∈ l, s < 2 ^ 63) : g_coder_All l F = some (allF l F) ∧ g_r04_All l F = some (allF l F) := by
  unfold allF
  unfold small at hl hl2
  by_cases h : l.length = F.length
  · rw [if_neg (by omega)]
    obtain ⟨r, h1, h2⟩ := coder_run h hl hF hr wfE_begin
    obtain ⟨r', h1', h2'⟩ := r04_run h hl hF hr wfE_begin
    have b1 : g_coder_Begin = some eBegin := rfl
    have b2 : g_r04_Begin = some eBegin := rfl
    constructor
    · rcases h2 with ⟨⟨e1, e2, e3, e4, e5⟩, rfl, hW, he⟩ | ⟨k, rfl, hW, hk⟩
      · rw [hW, if_neg (by simp)]
        have := (EndF_same he).1
        simp (disch := omega) only [g_coder_All, nF, b1, Option.bind_some]
        rw [show (eBegin.1, eBegin.2.1, eBegin.2.2.1, eBegin.2.2.2.1, eBegin.2.2.2.2) = eBegin from rfl, h1]
        simp only [Option.bind_some, this]
      · rw [hW, if_pos hk]
        simp (disch := omega) only [g_coder_All, nF, b1, Option.bind_some]
        rw [show (eBegin.1, eBegin.2.1, eBegin.2.2.1, eBegin.2.2.2.1, eBegin.2.2.2.2) = eBegin from rfl, h1]
        simp only [Option.bind_some]
    · rcases h2' with ⟨⟨e1, e2, e3, e4, e5⟩, rfl, hW, he⟩ | ⟨k, rfl, hW, hk⟩
      · rw [hW, if_neg (by simp)]
        have := (EndF_same he).2
        simp (disch := omega) only [g_r04_All, nF, b2, Option.bind_some]
        rw [show (eBegin.1, eBegin.2.1, eBegin.2.2.1, eBegin.2.2.2.1, eBegin.2.2.2.2) = eBegin from rfl, h1']
        simp only [Option.bind_some, this]
      · rw [hW, if_pos hk]
        simp (disch := omega) only [g_r04_All, nF, b2, Option.bind_some]
        rw [show (eBegin.1, eBegin.2.1, eBegin.2.2.1, eBegin.2.2.2.1, eBegin.2.2.2.2) = eBegin from rfl, h1']
        simp only [Option.bind_some]
  · rw [if_pos h]
    simp (disch := omega) only [g_coder_All, g_r04_All, nT, and_self]
end Go.Sq
/- The coder: Back. -/
namespace Go.Sq
open Go.Rx

theorem wfD_zero : wfD zDec := ⟨by simp [zDec], by simp [zDec], by simp [zDec], fun x hx => (nomatch hx), by simp [zDec, small]⟩
theorem nextR_wf {lo hi c : Int} {p : Nat} {l : List Bool} {C : List Int} {s : Nat} (hl : l.length ≤ 65536) : wfD (nextR lo hi c p l C s).1 := ⟨u32_range _, u32_range _, u32_range _, pk_bytes l, small_pk hl⟩
noncomputable def NextF (d : DecT) (C : List Int) : DecT × Int × Int := (g_coder_Next d C).getD (zDec, (0, 1))
theorem NextF_same {d : DecT} {C : List Int} (hd : wfD d) (hC : small C) : g_coder_Next d C = some (NextF d C) ∧ g_r04_Next d C = some (NextF d C) ∧ wfD (NextF d C).1 := by
  obtain ⟨r, h1, h2, h3⟩ := Next_same hd hC
  have : NextF d C = r := by unfold NextF; rw [h1]; rfl
  rw [this]
  refine ⟨h1, h2, ?_⟩
  rcases h3 with ⟨rfl, _⟩ | ⟨lo, hi, c, p, l, _, _, _, hl, _, _, _, _, _, _, ⟨rfl, _⟩ | ⟨s, _, _, rfl⟩⟩
  · exact wfD_zero
  · exact wfD_zero
  · exact nextR_wf hl
noncomputable def StartF (b : List Int × Int) : DecT × Int := (g_coder_Start b).getD (zDec, 1)
theorem StartF_same {B : List Int} {N : Int} (hB : bytes B) (hs : small B) : g_coder_Start (B, N) = some (StartF (B, N)) ∧ g_r04_Start (B, N) = some (StartF (B, N)) ∧ wfD (StartF (B, N)).1 := by
  obtain ⟨r, h1, h2, h3⟩ := Start_same (N := N) hB hs
  have : StartF (B, N) = r := by unfold StartF; rw [h1]; rfl
  rw [this]
  refine ⟨h1, h2, ?_⟩
  rcases h3 with ⟨rfl, _⟩ | ⟨l, hl, _, _, rfl⟩
  · exact wfD_zero
  · exact ⟨by simp, by simp, codeS_lt l (by omega), pk_bytes l, small_pk hl⟩
/-- one symbol behind the other -/
noncomputable def backS : List (List Int) → DecT → List Int → List Int × Int
  | [], _, acc => (acc, 0)
  | C :: r, d, acc => if (NextF d C).2.2 ≠ 0 then ([], (NextF d C).2.2) else backS r (NextF d C).1 (acc ++ [(NextF d C).2.1])
noncomputable def backF (b : List Int × Int) (F : List (List Int)) : List Int × Int :=
  if (StartF b).2 ≠ 0 then ([], (StartF b).2) else backS F (StartF b).1 []
theorem drop_get {F : List (List Int)} {i : Nat} (hi : i < F.length) : F.drop i = F.getD i [] :: F.drop (i + 1) := by
  rw [List.drop_eq_getElem_cons hi]
  congr 1
  rw [List.getD_eq_getElem?_getD, List.getElem?_eq_getElem hi]
  rfl
theorem coder_back {F : List (List Int)} (hF : F.length ≤ 1000) (hC : ∀ C ∈ F, small C) {d : DecT} (hd : wfD d) :
    ∃ r, iter g_coder_Back_r1 (0, [], F, (F.length : Int), 0, d, ()) = some r ∧ ((backS F d []).2 = 0 ∧ r = (0, (backS F d []).1, ()) ∨ (backS F d []).2 ≠ 0 ∧ (backS F d []).1 = [] ∧ r.1 = (backS F d []).2) := by
  refine iter_ex (fun x => (2 * ((F.length : Int) - x.2.2.2.2.1) + if x.1 = 0 then 1 else 0).toNat)
    (fun x => ∃ (i : Nat) (d' : DecT) (acc : List Int), i ≤ F.length ∧ acc.length = i ∧ ((x = (0, acc, F, (F.length : Int), (i : Int), d', ()) ∧ wfD d' ∧ backS (F.drop i) d' acc = backS F d []) ∨
      (∃ k, k ≠ 0 ∧ x = (k, acc, F, (F.length : Int), (i : Int), d', ()) ∧ backS F d [] = ([], k))))
    (fun r => (backS F d []).2 = 0 ∧ r = (0, (backS F d []).1, ()) ∨ (backS F d []).2 ≠ 0 ∧ (backS F d []).1 = [] ∧ r.1 = (backS F d []).2) ?_ _ ⟨0, d, [], Nat.zero_le _, rfl, .inl ⟨rfl, hd, rfl⟩⟩
  rintro x ⟨i, ⟨d1, d2, d3, ⟨d4, d5⟩, d6⟩, acc, h1, h2, ⟨rfl, h3, h4⟩ | ⟨k, hk, rfl, h4⟩⟩
  · by_cases h5 : i < F.length
    · obtain ⟨p1, _, p3⟩ := NextF_same h3 (hC _ (mem_get h5))
      rw [drop_get h5, backS] at h4
      generalize hy : NextF (d1, d2, d3, (d4, d5), d6) (F.getD i []) = y at p1 p3 h4
      obtain ⟨⟨y1, y2, y3, ⟨y4, y5⟩, y6⟩, s, k⟩ := y
      left
      refine ⟨(k, acc ++ [s], F, (F.length : Int), ((i + 1 : Nat) : Int), (y1, y2, y3, (y4, y5), y6), ()), ?_, ⟨i + 1, (y1, y2, y3, (y4, y5), y6), acc ++ [s], h5, by simp [h2], ?_⟩, by simp only; split <;> omega⟩
      · have hroom : room 8 (acc ++ [s]).length = true := room_iff.2 (by simp; omega)
        simp (disch := omega) only [g_coder_Back_r1, dT, wT, nF, Int.toNat_natCast, p1, Option.bind_some, hroom, cond_true, wrap_i64]
        rfl
      · by_cases h6 : k = 0
        · subst h6
          exact .inl ⟨rfl, p3, h4⟩
        · refine .inr ⟨k, h6, rfl, ?_⟩
          rw [← h4]; exact if_pos h6
    · right
      rw [List.drop_eq_nil_of_le (by omega), backS] at h4
      refine ⟨_, ?_, .inl ⟨by rw [← h4], rfl⟩⟩
      rw [← h4]
      simp (disch := omega) only [g_coder_Back_r1, dF]
  · right
    by_cases h5 : i < F.length
    · refine ⟨(k, acc, ()), ?_, .inr ⟨by rw [h4]; exact hk, by rw [h4], by rw [h4]⟩⟩
      simp (disch := omega) only [g_coder_Back_r1, dT, wT, nT]
    · refine ⟨(k, acc, ()), ?_, .inr ⟨by rw [h4]; exact hk, by rw [h4], by rw [h4]⟩⟩
      simp (disch := omega) only [g_coder_Back_r1, dF]
theorem r04_back {F : List (List Int)} (hF : F.length ≤ 1000) (hC : ∀ C ∈ F, small C) {d : DecT} (hd : wfD d) :
    ∃ r, iter g_r04_Back_r1 ([], F, (F.length : Int), 0, d, ()) = some r ∧ ((backS F d []).2 = 0 ∧ r = .inl ((backS F d []).1, ()) ∨ r = .inr ((backS F d []).1, (backS F d []).2, ())) := by
  refine iter_ex (fun x => ((F.length : Int) - x.2.2.2.1).toNat)
    (fun x => ∃ (i : Nat) (d' : DecT) (acc : List Int), i ≤ F.length ∧ acc.length = i ∧ x = (acc, F, (F.length : Int), (i : Int), d', ()) ∧ wfD d' ∧ backS (F.drop i) d' acc = backS F d [])
    (fun r => (backS F d []).2 = 0 ∧ r = (.inl ((backS F d []).1, ()) : (List Int × Unit) ⊕ (List Int × Int × Unit)) ∨ r = .inr ((backS F d []).1, (backS F d []).2, ())) ?_ _ ⟨0, d, [], Nat.zero_le _, rfl, rfl, hd, rfl⟩
  rintro x ⟨i, ⟨d1, d2, d3, ⟨d4, d5⟩, d6⟩, acc, h1, h2, rfl, h3, h4⟩
  by_cases h5 : i < F.length
  · obtain ⟨_, p1, p3⟩ := NextF_same h3 (hC _ (mem_get h5))
    rw [drop_get h5, backS] at h4
    generalize hy : NextF (d1, d2, d3, (d4, d5), d6) (F.getD i []) = y at p1 p3 h4
    obtain ⟨⟨y1, y2, y3, ⟨y4, y5⟩, y6⟩, s, k⟩ := y
    by_cases h6 : k = 0
    · subst h6
      left
      refine ⟨(acc ++ [s], F, (F.length : Int), ((i + 1 : Nat) : Int), (y1, y2, y3, (y4, y5), y6), ()), ?_, ⟨i + 1, _, acc ++ [s], h5, by simp [h2], rfl, p3, h4⟩, by simp only; omega⟩
      have hroom : room 8 (acc ++ [s]).length = true := room_iff.2 (by simp; omega)
      simp (disch := omega) only [g_r04_Back_r1, dT, wT, nF, Int.toNat_natCast, p1, Option.bind_some, hroom, cond_true, wrap_i64]
      rfl
    · right
      have h4 : ([], k) = backS F d [] := by rw [← h4]; exact (if_pos h6).symm
      refine ⟨_, ?_, .inr rfl⟩
      rw [← h4]
      simp (disch := omega) only [g_r04_Back_r1, dT, wT, nT, Int.toNat_natCast, p1, Option.bind_some]
  · right
    rw [List.drop_eq_nil_of_le (by omega), backS] at h4
    refine ⟨_, ?_, .inl ⟨by rw [← h4], rfl⟩⟩
    rw [← h4]
    simp (disch := omega) only [g_r04_Back_r1, dF]
theorem Back_same {B : List Int} {N : Int} {F : List (List Int)} (hB : bytes B) (hs : small B) (hF : F.length ≤ 1000) (hC : ∀ C ∈ F, small C) : g_coder_Back (B, N) F = some (backF (B, N) F) ∧ g_r04_Back (B, N) F = some (backF (B, N) F) := by
  obtain ⟨s1, s2, s3⟩ := StartF_same (N := N) hB hs
  unfold backF
  generalize hy : StartF (B, N) = y at s1 s2 s3
  obtain ⟨⟨y1, y2, y3, ⟨y4, y5⟩, y6⟩, k⟩ := y
  by_cases hk : k = 0
  · subst hk
    rw [if_neg (by simp)]
    obtain ⟨r, h1, h2⟩ := coder_back hF hC s3
    obtain ⟨r', h1', h2'⟩ := r04_back hF hC s3
    constructor
    · simp only [g_coder_Back, s1, Option.bind_some, h1]
      rcases h2 with ⟨h3, rfl⟩ | ⟨h3, h4, h5⟩
      · simp (disch := omega) only [nF]
        congr 1
        exact Prod.ext rfl h3.symm
      · rw [h5, nT h3]
        congr 1
        exact Prod.ext h4.symm rfl
    · simp (disch := omega) only [g_r04_Back, s2, Option.bind_some, nF, h1']
      rcases h2' with ⟨h3, rfl⟩ | rfl
      · simp only []
        congr 1
        exact Prod.ext rfl h3.symm
      · rfl
  · rw [if_pos hk]
    constructor
    · cases F with
      | nil =>
        have : iter g_coder_Back_r1 (k, [], [], ((([] : List (List Int)).length : Nat) : Int), 0, (y1, y2, y3, (y4, y5), y6), ()) = some (k, [], ()) := by
          apply iter_inr
          simp (disch := simp) only [g_coder_Back_r1, dF]
        simp (disch := omega) only [g_coder_Back, s1, Option.bind_some, this, nT]
      | cons C F =>
        have : iter g_coder_Back_r1 (k, [], C :: F, (((C :: F).length : Nat) : Int), 0, (y1, y2, y3, (y4, y5), y6), ()) = some (k, [], ()) := by
          apply iter_inr
          have hlen : (C :: F).length = F.length + 1 := by simp
          simp (disch := omega) only [g_coder_Back_r1, dT, wT, nT]
        simp (disch := omega) only [g_coder_Back, s1, Option.bind_some, this, nT]
    · simp (disch := omega) only [g_r04_Back, s2, Option.bind_some, nT]
/-- equal lists -/
theorem Equal_eq {a b : List Int} (ha : small a) (hb : small b) : g_r03_Equal a b = some (decide (a = b)) := by
  unfold small at ha hb
  by_cases h : a.length = b.length
  · have loop : ∃ r, iter g_r03_Equal_r1 (a, b, (a.length : Int), 0, ()) = some r ∧ ((r = (.inl () : Unit ⊕ (Bool × Unit)) ∧ a = b) ∨ (r = .inr (false, ()) ∧ a ≠ b)) := by
      refine iter_ex (fun x => ((a.length : Int) - x.2.2.2.1).toNat) (fun x => ∃ i : Nat, x = (a, b, (a.length : Int), (i : Int), ()) ∧ i ≤ a.length ∧ ∀ j, j < i → a.getD j 0 = b.getD j 0)
        (fun r => (r = (.inl () : Unit ⊕ (Bool × Unit)) ∧ a = b) ∨ (r = .inr (false, ()) ∧ a ≠ b)) ?_ _ ⟨0, rfl, Nat.zero_le _, fun j hj => by omega⟩
      rintro x ⟨i, rfl, h1, h2⟩
      by_cases h3 : i < a.length
      · by_cases h4 : a.getD i 0 = b.getD i 0
        · left
          refine ⟨(a, b, (a.length : Int), ((i + 1 : Nat) : Int), ()), ?_, ⟨i + 1, rfl, h3, fun j hj => ?_⟩, by simp only; omega⟩
          · simp (disch := omega) only [g_r03_Equal_r1, dT, wT, Int.toNat_natCast, nF, wrap_i64]
            rfl
          · rcases Nat.lt_or_eq_of_le (Nat.lt_succ_iff.1 hj) with h | rfl
            · exact h2 j h
            · exact h4
        · right
          refine ⟨_, ?_, .inr ⟨rfl, fun e => h4 (by rw [e])⟩⟩
          simp (disch := omega) only [g_r03_Equal_r1, dT, wT, Int.toNat_natCast, nT]
      · right
        refine ⟨_, ?_, .inl ⟨rfl, ext_getD h fun k hk => h2 k (by omega)⟩⟩
        simp (disch := omega) only [g_r03_Equal_r1, dF]
    obtain ⟨r, h1, h2⟩ := loop
    rcases h2 with ⟨rfl, h2⟩ | ⟨rfl, h2⟩
    · rw [decide_eq_true h2]
      simp (disch := omega) only [g_r03_Equal, nF, h1, Option.bind_some]
    · rw [decide_eq_false h2]
      simp (disch := omega) only [g_r03_Equal, nF, h1, Option.bind_some]
  · rw [decide_eq_false (fun e => h (by rw [e]))]
    simp (disch := omega) only [g_r03_Equal, nT]
end Go.Sq
/- The chapter's example. -/
namespace Go.Sq
open Go.Rx

def exC : List Int := [0, 1, 4]
theorem exC_ok : okF exC := by
  refine ⟨by decide, by decide, rfl, by decide, fun i hi => ?_⟩
  have : i = 0 ∨ i = 1 := by simp [exC] at hi; omega
  rcases this with rfl | rfl <;> decide
theorem exC_tot : totS exC = 4 := by rw [(totS_pos exC_ok).1]; rfl
theorem PutF_ok {lo hi : Int} {w : Nat} {l : List Bool} {C : List Int} {s : Int} (hlo : 0 ≤ lo) (hhi : hi < 4294967296) (hg : goodP lo hi) (hw : w ≤ 65536) (hl : l.length ≤ 65536) (hs : okSpan C s) :
    PutF (lo, (hi, ((w : Int), (pk l, (l.length : Int))))) C s = putR lo hi w l C s := by
  unfold PutF; rw [coder_Put_ok hlo hhi hg hw hl hs]; rfl
theorem putR_eq {lo hi t lo' hi' : Int} {w w' : Nat} {l l' : List Bool} {C : List Int} {s : Int} (ht : totS C = t) (hW : widS 33 (narL lo hi (C.getD s.toNat 0) t) (narH lo hi (C.getD (s.toNat + 1) 0) t) w l = some (lo', hi', w', l'))
    (hw : w' ≤ 65536) (h1 : 0 ≤ lo' ∧ lo' < 4294967296) (h2 : 0 ≤ hi' ∧ hi' < 4294967296) : putR lo hi w l C s = ((lo', (hi', ((w' : Int), (pk l', (l'.length : Int))))), 0) := by
  unfold putR
  rw [ht, hW]
  unfold doneS flip3
  dsimp only
  rw [if_neg (by omega), wrap_u32 h1.1 h1.2, wrap_u32 h2.1 h2.2]
theorem NextF_ok {lo hi c : Int} {p : Nat} {l : List Bool} {C : List Int} {s : Nat} (hlo : 0 ≤ lo) (hhi : hi < 4294967296) (hg : goodP lo hi) (hc1 : lo ≤ c) (hc2 : c ≤ hi) (hl : l.length ≤ 65536)
    (hp1 : 32 ≤ p) (hp2 : p ≤ l.length + 32) (hF : okF C) (hs : isSym C (findX lo hi c (totS C)) s) : NextF (lo, (hi, (c, ((pk l, (l.length : Int)), (p : Int))))) C = nextR lo hi c p l C s := by
  unfold NextF; rw [coder_Next_ok hlo hhi hg hc1 hc2 hl hp1 hp2 hF hs]; rfl
theorem nextR_eq {lo hi c t lo' hi' c' : Int} {p p' : Nat} {l : List Bool} {C : List Int} {s : Nat} (ht : totS C = t) (hW : decS 33 (narL lo hi (C.getD s 0) t) (narH lo hi (C.getD (s + 1) 0) t) c p l = (lo', hi', c', p'))
    (h1 : 0 ≤ lo' ∧ lo' < 4294967296) (h2 : 0 ≤ hi' ∧ hi' < 4294967296) (h3 : 0 ≤ c' ∧ c' < 4294967296) : nextR lo hi c p l C s = ((lo', (hi', (c', ((pk l, (l.length : Int)), (p' : Int))))), ((s : Int), 0)) := by
  unfold nextR
  rw [ht, hW]
  dsimp only
  rw [wrap_u32 h1.1 h1.2, wrap_u32 h2.1 h2.2, wrap_u32 h3.1 h3.2]
def exL : List Bool := [false, true, false, true]
theorem ex_span (s : Int) (h0 : 0 ≤ s) (h1 : s ≤ 1) : okSpan exC s := ⟨exC_ok, h0, by simp [exC]; omega⟩
theorem eBegin_eq : eBegin = (0, (4294967295, (((0 : Nat) : Int), (pk [], ((([] : List Bool).length : Nat) : Int))))) := rfl
theorem ex_put1 : PutF eBegin exC 1 = ((1073741824, (4294967295, (((0 : Nat) : Int), (pk [], ((([] : List Bool).length : Nat) : Int))))), 0) := by
  rw [eBegin_eq, PutF_ok (by decide) (by decide) (by decide) (by decide) (by decide) (ex_span 1 (by decide) (by decide))]
  exact putR_eq exC_tot (by kernel_rfl) (by decide) (by decide) (by decide)
theorem ex_put2 : PutF (1073741824, (4294967295, (((0 : Nat) : Int), (pk [], ((([] : List Bool).length : Nat) : Int))))) exC 0 = ((0, (3221225471, (((0 : Nat) : Int), (pk [false, true], ((([false, true] : List Bool).length : Nat) : Int))))), 0) := by
  rw [PutF_ok (by decide) (by decide) (by decide) (by decide) (by decide) (ex_span 0 (by decide) (by decide))]
  exact putR_eq exC_tot (by kernel_rfl) (by decide) (by decide) (by decide)
theorem ex_put3 : PutF (0, (3221225471, (((0 : Nat) : Int), (pk [false, true], ((([false, true] : List Bool).length : Nat) : Int))))) exC 1 = ((805306368, (3221225471, (((0 : Nat) : Int), (pk [false, true], ((([false, true] : List Bool).length : Nat) : Int))))), 0) := by
  rw [PutF_ok (by decide) (by decide) (by decide) (by decide) (by decide) (ex_span 1 (by decide) (by decide))]
  exact putR_eq exC_tot (by kernel_rfl) (by decide) (by decide) (by decide)
theorem EndF_ok {lo hi : Int} {w : Nat} {l : List Bool} (hlo : 0 ≤ lo) (hhi : hi < 4294967296) (hg : goodP lo hi) (hw : w ≤ 65536) (hl : l.length ≤ 65536) :
    EndF (lo, (hi, ((w : Int), (pk l, (l.length : Int))))) = outS l (decide (1073741824 ≤ lo)) (w + 1) := by
  unfold EndF; rw [coder_End_ok hlo hhi hg hw hl]; rfl
theorem ex_all : allF [1, 0, 1] [exC, exC, exC] = ((pk exL, 4), 0) := by
  have h : putAll (([1, 0, 1] : List Int).zip [exC, exC, exC]) eBegin = ((805306368, (3221225471, (((0 : Nat) : Int), (pk [false, true], ((([false, true] : List Bool).length : Nat) : Int))))), 0) := by
    show putAll [(1, exC), (0, exC), (1, exC)] eBegin = _
    simp only [putAll, ex_put1, ex_put2, ex_put3]
    simp
  unfold allF
  rw [if_neg (by simp), h, if_neg (by simp)]
  show EndF (805306368, (3221225471, (((0 : Nat) : Int), (pk [false, true], ((([false, true] : List Bool).length : Nat) : Int))))) = _
  rw [EndF_ok (by decide) (by decide) (by decide) (by decide) (by decide)]
  rfl
theorem ex_none : allF [] [] = (([64], 2), 0) := by
  unfold allF
  rw [if_neg (by simp)]
  show (if (eBegin, (0 : Int)).2 ≠ 0 then _ else EndF eBegin) = _
  rw [if_neg (by simp), eBegin_eq, EndF_ok (by decide) (by decide) (by decide) (by decide) (by decide)]
  kernel_rfl
theorem ex_new : g_freq_New [1, 3] = some (exC, 0) := by
  have i1 : iter g_freq_New_r1 ([1, 3], [1, 3], ((([1, 3] : List Int).length : Nat) : Int), 0, [], (List.replicate 1 (0 : Int)), ()) = some (.inl ([1, 3], [], exC, ())) := by
    rw [iter_inl (y := ([1, 3], [1, 3], ((([1, 3] : List Int).length : Nat) : Int), 1, [], [0, 1], ())) (by kernel_rfl)]
    rw [iter_inl (y := ([1, 3], [1, 3], ((([1, 3] : List Int).length : Nat) : Int), 2, [], [0, 1, 4], ())) (by kernel_rfl)]
    exact iter_inr (by kernel_rfl)
  have : g_freq_New [1, 3] = (iter g_freq_New_r1 ([1, 3], [1, 3], ((([1, 3] : List Int).length : Nat) : Int), 0, [], (List.replicate 1 (0 : Int)), ())).bind fun j5 =>
    (match j5 with
    | .inl j6 => (bif ((j6.1.length : Int) == 0) then some ([], 1) else some (j6.2.2.1, 0))
    | .inr j7 => (some (j7.2.1, j7.1))) := by kernel_rfl
  rw [this, i1]
  rfl
theorem ex_start : StartF (pk exL, 4) = ((0, (4294967295, (1342177280, ((pk exL, ((exL.length : Nat) : Int)), ((32 : Nat) : Int))))), 0) := by
  unfold StartF
  have h := coder_Start_ok (l := exL) (by decide)
  have hc : codeS exL 32 = 1342177280 := by kernel_rfl
  rw [hc] at h
  rw [show (pk exL, (4 : Int)) = (pk exL, ((exL.length : Nat) : Int)) from rfl, h]
  rfl
theorem ex_sym (x : Int) (s : Nat) (h : s + 1 < 3 ∧ exC.getD s 0 ≤ x ∧ x < exC.getD (s + 1) 0) : isSym exC x s := h
theorem ex_next1 : NextF (0, (4294967295, (1342177280, ((pk exL, ((exL.length : Nat) : Int)), ((32 : Nat) : Int))))) exC = ((1073741824, (4294967295, (1342177280, ((pk exL, ((exL.length : Nat) : Int)), ((32 : Nat) : Int))))), (((1 : Nat) : Int), 0)) := by
  rw [NextF_ok (s := 1) (by decide) (by decide) (by decide) (by decide) (by decide) (by decide) (by decide) (by decide) exC_ok (by rw [exC_tot]; exact ex_sym _ _ (by decide))]
  exact nextR_eq exC_tot (by kernel_rfl) (by decide) (by decide) (by decide)
theorem ex_next2 : NextF (1073741824, (4294967295, (1342177280, ((pk exL, ((exL.length : Nat) : Int)), ((32 : Nat) : Int))))) exC = ((0, (3221225471, (1073741824, ((pk exL, ((exL.length : Nat) : Int)), ((34 : Nat) : Int))))), (((0 : Nat) : Int), 0)) := by
  rw [NextF_ok (s := 0) (by decide) (by decide) (by decide) (by decide) (by decide) (by decide) (by decide) (by decide) exC_ok (by rw [exC_tot]; exact ex_sym _ _ (by decide))]
  exact nextR_eq exC_tot (by kernel_rfl) (by decide) (by decide) (by decide)
theorem ex_next3 : NextF (0, (3221225471, (1073741824, ((pk exL, ((exL.length : Nat) : Int)), ((34 : Nat) : Int))))) exC = ((805306368, (3221225471, (1073741824, ((pk exL, ((exL.length : Nat) : Int)), ((34 : Nat) : Int))))), (((1 : Nat) : Int), 0)) := by
  rw [NextF_ok (s := 1) (by decide) (by decide) (by decide) (by decide) (by decide) (by decide) (by decide) (by decide) exC_ok (by rw [exC_tot]; exact ex_sym _ _ (by decide))]
  exact nextR_eq exC_tot (by kernel_rfl) (by decide) (by decide) (by decide)
theorem ex_back : backF (pk exL, 4) [exC, exC, exC] = ([1, 0, 1], 0) := by
  unfold backF
  rw [ex_start]
  simp only [ne_eq, not_true_eq_false, if_false, backS, ex_next1, ex_next2, ex_next3]
  rfl
theorem ex_small : ∀ C ∈ [exC, exC, exC], small C := by
  intro C hC
  have : C = exC := by simpa using hC
  subst this; simp [small, exC]
theorem live_eq : g_law04_live = some true := by
  have a1 := (All_same (l := []) (F := []) (by simp [small]) (by simp [small]) (fun C h => (nomatch h)) (fun s h => (nomatch h))).1
  rw [ex_none] at a1
  have a2 := (All_same (l := [1, 0, 1]) (F := [exC, exC, exC]) (by simp [small]) (by simp [small]) ex_small (fun s h => by
    have : s = 1 ∨ s = 0 ∨ s = 1 := by simpa using h
    omega)).1
  rw [ex_all] at a2
  have a3 := (Back_same (B := pk exL) (N := 4) (F := [exC, exC, exC]) (pk_bytes _) (small_pk (by decide)) (by decide) ex_small).1
  rw [ex_back] at a3
  have a4 := Equal_eq (a := [1, 0, 1]) (b := [1, 0, 1]) (by simp [small]) (by simp [small])
  have hw : within 0 ([64] : List Int).length = true := rfl
  simp only [g_law04_live, a1, ex_new, a2, a3, a4, Option.bind_some, hw, beq_self_eq_true, cond_true, decide_true, List.length_singleton, List.getD_cons_zero]
  rfl
end Go.Sq
/- Three laws of the coder: what it puts, what it has next, all of it. -/
namespace Go.Sq
open Go.Rx

theorem few_one {B : List Int} {N : Int} {C : List Int} (hB : small B) : g_law04_few (B, N) [C] = some (decide (C.length ≤ 400 ∧ B.length ≤ 9000)) := by
  rw [few_eq (by simp [small]) hB]
  congr 1
  rw [decide_eq_decide]
  constructor
  · rintro ⟨h1, h2, _⟩; exact ⟨h1 C (by simp), h2⟩
  · rintro ⟨h1, h2⟩; exact ⟨fun D hD => by simp at hD; subst hD; exact h1, h2, by simp⟩
theorem few_none {B : List Int} {N : Int} (hB : small B) : g_law04_few (B, N) [] = some (decide (B.length ≤ 9000)) := by
  rw [few_eq (by simp [small]) hB]
  congr 1
  rw [decide_eq_decide]
  constructor
  · rintro ⟨_, h2, _⟩; exact h2
  · intro h; exact ⟨fun D hD => (nomatch hD), h, by simp⟩
theorem Copy_small {B : List Int} {N : Int} (h : B.length ≤ 9000) : g_r01_Copy (B, N) = some (B, N) := by
  simp (disch := omega) only [g_r01_Copy, rT]
theorem puts_loop1 {u : Bool} {a : EncT} {b : List Int × Int} {x : EncT} {c : List Int × Int} (hx : small x.2.2.2.1) :
    iter g_law04_CoderPuts_r1 (u, (x.2.2.2.1.length : Int), 0, a, b, x, c, ()) = some (u, a, b, c, ()) := by
  obtain ⟨a1, a2, a3, a4, a5⟩ := a
  obtain ⟨b1, b2⟩ := b
  obtain ⟨x1, x2, x3, x4, x5⟩ := x
  obtain ⟨c1, c2⟩ := c
  have hx : x4.length ≤ 9223372036854775807 := hx
  obtain ⟨r, h1, h2⟩ := iter_ex (f := g_law04_CoderPuts_r1) (fun s => ((x4.length : Int) - s.2.2.1).toNat)
    (fun s => ∃ (i : Nat) (y : List Int), s = (u, (x4.length : Int), (i : Int), (a1, a2, a3, a4, a5), (b1, b2), (x1, x2, x3, y, x5), (c1, c2), ()) ∧ i ≤ x4.length ∧ y.length = x4.length)
    (fun r => r = (u, (a1, a2, a3, a4, a5), (b1, b2), (c1, c2), ())) (by
      rintro s ⟨i, y, rfl, h1, h2⟩
      by_cases h3 : i < x4.length
      · left
        refine ⟨(u, (x4.length : Int), ((i + 1 : Nat) : Int), (a1, a2, a3, a4, a5), (b1, b2), (x1, x2, x3, y.set i (IntKind.u8.wrap (y.getD i 0 + 1)), x5), (c1, c2), ()), ?_, ⟨i + 1, _, rfl, h3, by simp [h2]⟩, by simp only; omega⟩
        simp (disch := omega) only [g_law04_CoderPuts_r1, dT, wT, wrap_i64, Int.toNat_natCast]
        rfl
      · right
        refine ⟨_, ?_, rfl⟩
        simp (disch := omega) only [g_law04_CoderPuts_r1, dF]) (u, (x4.length : Int), 0, (a1, a2, a3, a4, a5), (b1, b2), (x1, x2, x3, x4, x5), (c1, c2), ()) ⟨0, x4, rfl, Nat.zero_le _, rfl⟩
  show iter g_law04_CoderPuts_r1 (u, (x4.length : Int), 0, (a1, a2, a3, a4, a5), (b1, b2), (x1, x2, x3, x4, x5), (c1, c2), ()) = _
  rw [h1, h2]
theorem puts_loop2 {u : Bool} {a : EncT} {b : List Int × Int} {c : List Int × Int} (hx : small c.1) :
    iter g_law04_CoderPuts_r2 (u, (c.1.length : Int), 0, a, b, c, ()) = some (u, a, b, ()) := by
  obtain ⟨a1, a2, a3, a4, a5⟩ := a
  obtain ⟨b1, b2⟩ := b
  obtain ⟨x4, x5⟩ := c
  have hx : x4.length ≤ 9223372036854775807 := hx
  obtain ⟨r, h1, h2⟩ := iter_ex (f := g_law04_CoderPuts_r2) (fun s => ((x4.length : Int) - s.2.2.1).toNat)
    (fun s => ∃ (i : Nat) (y : List Int), s = (u, (x4.length : Int), (i : Int), (a1, a2, a3, a4, a5), (b1, b2), (y, x5), ()) ∧ i ≤ x4.length ∧ y.length = x4.length)
    (fun r => r = (u, (a1, a2, a3, a4, a5), (b1, b2), ())) (by
      rintro s ⟨i, y, rfl, h1, h2⟩
      by_cases h3 : i < x4.length
      · left
        refine ⟨(u, (x4.length : Int), ((i + 1 : Nat) : Int), (a1, a2, a3, a4, a5), (b1, b2), (y.set i (IntKind.u8.wrap (y.getD i 0 + 1)), x5), ()), ?_, ⟨i + 1, _, rfl, h3, by simp [h2]⟩, by simp only; omega⟩
        simp (disch := omega) only [g_law04_CoderPuts_r2, dT, wT, wrap_i64, Int.toNat_natCast]
        rfl
      · right
        refine ⟨_, ?_, rfl⟩
        simp (disch := omega) only [g_law04_CoderPuts_r2, dF]) (u, (x4.length : Int), 0, (a1, a2, a3, a4, a5), (b1, b2), (x4, x5), ()) ⟨0, x4, rfl, Nat.zero_le _, rfl⟩
  show iter g_law04_CoderPuts_r2 (u, (x4.length : Int), 0, (a1, a2, a3, a4, a5), (b1, b2), (x4, x5), ()) = _
  rw [h1, h2]
theorem EndF_small {e : EncT} (he : wfE e) : small (EndF e).1.1 := by
  obtain ⟨r, h1, _, h3⟩ := End_same he
  have : EndF e = r := by unfold EndF; rw [h1]; rfl
  rw [this]
  rcases h3 with ⟨rfl, _⟩ | ⟨lo, hi, w, l, _, _, _, _, rfl⟩
  · simp [small]
  · unfold outS
    split
    · simp [small]
    · have := pk_len (outL l (decide (1073741824 ≤ lo)) (w + 1))
      rw [outL_len] at this
      unfold small; dsimp only; omega
theorem law_Puts {e : EncT} {C : List Int} {s : Int} (he : wfE e) (hC : small C) (hs : s < 2 ^ 63) : g_law04_CoderPuts e C s = some true := by
  obtain ⟨lo, hi, w, B, N⟩ := e
  have hB : small B := he.2.2.2
  have hf := few_one (N := N) (C := C) hB
  by_cases h : C.length ≤ 400 ∧ B.length ≤ 9000
  · rw [decide_eq_true h] at hf
    obtain ⟨p1, p2, p3⟩ := PutF_same he hC hs
    obtain ⟨q1, q2⟩ := EndF_same he
    have q3 := EndF_small he
    have hc := Copy_small (N := N) h.2
    generalize PutF (lo, hi, w, B, N) C s = y at p1 p2 p3
    generalize EndF (lo, hi, w, B, N) = z at q1 q2 q3
    obtain ⟨⟨y1, y2, y3, y4, y5⟩, y6⟩ := y
    obtain ⟨⟨z1, z2⟩, z3⟩ := z
    have l1 := puts_loop1 (u := true) (a := (lo, hi, w, B, N)) (b := (B, N)) (x := (y1, y2, y3, y4, y5)) (c := (z1, z2)) p3.2.2.2
    have l2 := puts_loop2 (u := true) (a := (lo, hi, w, B, N)) (b := (B, N)) (c := (z1, z2)) q3
    have b1 : g_coder_Begin = some eBegin := rfl
    have b2 : g_r04_Begin = some eBegin := rfl
    simp only [] at l1 l2
    simp only [g_law04_CoderPuts, live_eq, hf, hc, p1, p2, q1, q2, SameEnc_refl, Same_refl, b1, b2, Option.bind_some, Bool.not_true, cond_false, bne_self_eq_false, l1, l2, cond_true]
  · rw [decide_eq_false h] at hf
    simp only [g_law04_CoderPuts, live_eq, hf, Option.bind_some, Bool.not_false, cond_true]
theorem SameDec_refl (a : DecT) : g_r04_SameDec a a = some true := by
  have h := Same_refl (a.2.2.2.1.1, a.2.2.2.1.2)
  simp only [g_r04_SameDec, beq_self_eq_true, cond_true, h, Option.bind_some]
theorem law_Nexts {d : DecT} {b : List Int × Int} {C : List Int} (hd : wfD d) (hb : bytes b.1) (hb2 : small b.1) (hC : small C) : g_law04_CoderNexts d b C = some true := by
  obtain ⟨lo, hi, c, ⟨B, N⟩, p⟩ := d
  obtain ⟨B', N'⟩ := b
  have hB : small B := hd.2.2.2.2
  have hB' : small B' := hb2
  have hf := few_one (N := N) (C := C) hB
  have hf' := few_none (N := N') hB'
  by_cases h : C.length ≤ 400 ∧ B.length ≤ 9000
  · rw [decide_eq_true h] at hf
    by_cases h' : B'.length ≤ 9000
    · rw [decide_eq_true h'] at hf'
      obtain ⟨p1, p2, p3⟩ := NextF_same hd hC
      obtain ⟨s1, s2, s3⟩ := StartF_same (N := N') (B := B') hb hb2
      obtain ⟨q1, q2, q3⟩ := NextF_same s3 hC
      have hc := Copy_small (N := N) h.2
      generalize NextF (lo, hi, c, (B, N), p) C = y at p1 p2 p3
      generalize StartF (B', N') = z at s1 s2 s3 q1 q2 q3
      obtain ⟨⟨y1, y2, y3, ⟨y4, y5⟩, y6⟩, y7, y8⟩ := y
      obtain ⟨⟨z1, z2, z3, ⟨z4, z5⟩, z6⟩, z7⟩ := z
      generalize NextF ((z1, z2, z3, (z4, z5), z6), z7).1 C = v at q1 q2 q3
      obtain ⟨⟨v1, v2, v3, ⟨v4, v5⟩, v6⟩, v7, v8⟩ := v
      simp only [] at q1 q2
      simp only [g_law04_CoderNexts, live_eq, hf, hf', hc, p1, p2, s1, s2, q1, q2, SameDec_refl, Same_refl, Option.bind_some, Bool.not_true, cond_false, bne_self_eq_false, beq_self_eq_true, cond_true]
    · rw [decide_eq_false h'] at hf'
      simp only [g_law04_CoderNexts, live_eq, hf, hf', Option.bind_some, Bool.not_true, Bool.not_false, cond_false, cond_true]
  · rw [decide_eq_false h] at hf
    simp only [g_law04_CoderNexts, live_eq, hf, Option.bind_some, Bool.not_false, cond_true]
theorem backS_small : ∀ (F : List (List Int)) (d : DecT) (acc : List Int), (backS F d acc).1.length ≤ acc.length + F.length
  | [], d, acc => by simp [backS]
  | C :: r, d, acc => by
    rw [backS]
    split
    · simp
    · have := backS_small r (NextF d C).1 (acc ++ [(NextF d C).2.1])
      simp at this ⊢; omega
theorem law_All {l : List Int} {F : List (List Int)} {b : List Int × Int} (hl : small l) (hl2 : ∀ s ∈ l, s < 2 ^ 63) (hF : small F) (hC : ∀ C ∈ F, small C) (hb : bytes b.1) (hb2 : small b.1) : g_law04_CoderAll l F b = some true := by
  obtain ⟨B, N⟩ := b
  have hf := few_eq (N := N) hF hb2
  by_cases h : (∀ C ∈ F, C.length ≤ 400) ∧ B.length ≤ 9000 ∧ F.length ≤ 100
  · rw [decide_eq_true h] at hf
    have hf : g_law04_few (B, N) F = some true := hf
    by_cases h2 : l.length > 100
    · simp (disch := omega) only [g_law04_CoderAll, live_eq, hf, Option.bind_some, Bool.not_true, cond_false, dT]
    · obtain ⟨p1, p2⟩ := All_same hl hF hC hl2
      obtain ⟨q1, q2⟩ := Back_same (N := N) hb hb2 (F := F) (by omega) hC
      have q3 : small (backF (B, N) F).1 := by
        unfold backF
        split
        · simp [small]
        · have := backS_small F (StartF (B, N)).1 []
          simp only [small, List.length_nil] at this ⊢
          have := h.2.2; omega
      have q4 := Equal_eq q3 q3
      rw [decide_eq_true rfl] at q4
      simp (disch := omega) only [g_law04_CoderAll, live_eq, hf, Option.bind_some, Bool.not_true, cond_false, dF, p1, p2, q1, q2, q4, Same_refl, cond_true, beq_self_eq_true]
  · rw [decide_eq_false h] at hf
    have hf : g_law04_few (B, N) F = some false := hf
    simp only [g_law04_CoderAll, live_eq, hf, Option.bind_some, Bool.not_false, cond_true]
end Go.Sq
/- From what Go may hand over to what the laws ask. -/
namespace Go.Sq
open Go.Rx

theorem wf_u8 {x : Int} (h : wf (.int .u8) x) : 0 ≤ x ∧ x ≤ 255 := by
  have e : IntKind.u8.max = 255 := by decide
  have e' : IntKind.u8.min = 0 := by decide
  have h1 : IntKind.u8.min ≤ x := h.1
  have h2 : x ≤ IntKind.u8.max := h.2
  rw [e'] at h1
  rw [e] at h2
  omega
theorem wf_u32 {x : Int} (h : wf (.int .u32) x) : 0 ≤ x ∧ x < 4294967296 := by
  have e : IntKind.u32.max = 4294967295 := by decide
  have e' : IntKind.u32.min = 0 := by decide
  have h1 : IntKind.u32.min ≤ x := h.1
  have h2 : x ≤ IntKind.u32.max := h.2
  rw [e'] at h1
  rw [e] at h2
  omega
theorem wf_i64 {x : Int} (h : wf (.int .i64) x) : -9223372036854775808 ≤ x ∧ x < 2 ^ 63 := by
  have e : IntKind.i64.max = 9223372036854775807 := by decide
  have e' : IntKind.i64.min = -9223372036854775808 := by decide
  have h1 : IntKind.i64.min ≤ x := h.1
  have h2 : x ≤ IntKind.i64.max := h.2
  rw [e'] at h1
  rw [e] at h2
  omega
theorem small_of {α : Type} {l : List α} (h : l.length ≤ maxLen) : small l := by unfold small; unfold maxLen at h; omega
theorem wf_bytes {l : List Int} (h : wf (.sl (.int .u8)) l) : small l ∧ bytes l := ⟨small_of h.1, fun x hx => wf_u8 (h.2 x hx)⟩
theorem wf_ints {l : List Int} (h : wf (.sl (.int .i64)) l) : small l ∧ ∀ s ∈ l, -9223372036854775808 ≤ s ∧ s < 2 ^ 63 := ⟨small_of h.1, fun x hx => wf_i64 (h.2 x hx)⟩
theorem wf_tabs {F : List (List Int)} (h : wf (.sl (.sl (.int .i64))) F) : small F ∧ ∀ C ∈ F, small C := ⟨small_of h.1, fun x hx => (wf_ints (h.2 x hx)).1⟩
abbrev EncTy : Ty := .pair (.int .u32) (.pair (.int .u32) (.pair (.int .i64) (.pair (.sl (.int .u8)) (.int .i64))))
abbrev DecTy : Ty := .pair (.int .u32) (.pair (.int .u32) (.pair (.int .u32) (.pair (.pair (.sl (.int .u8)) (.int .i64)) (.int .i64))))
abbrev BitsTy : Ty := .pair (.sl (.int .u8)) (.int .i64)
theorem wf_Enc {e : EncT} (h : wf EncTy e) : wfE e := ⟨wf_u32 h.1, wf_u32 h.2.1, (wf_bytes h.2.2.2.1).2, (wf_bytes h.2.2.2.1).1⟩
theorem wf_Dec {d : DecT} (h : wf DecTy d) : wfD d := ⟨wf_u32 h.1, wf_u32 h.2.1, wf_u32 h.2.2.1, (wf_bytes h.2.2.2.1.1).2, (wf_bytes h.2.2.2.1.1).1⟩
theorem pure_Puts (x : denL [(true, EncTy), (true, .sl (.int .i64)), (false, .int .i64)]) (h : wfL _ x) : g_law04_CoderPuts x.1 x.2.1 x.2.2 = some true :=
  law_Puts (wf_Enc h.1) (wf_ints h.2.1).1 (wf_i64 h.2.2).2
theorem pure_Nexts (x : denL [(true, DecTy), (true, BitsTy), (true, .sl (.int .i64))]) (h : wfL _ x) : g_law04_CoderNexts x.1 x.2.1 x.2.2 = some true :=
  law_Nexts (wf_Dec h.1) (wf_bytes h.2.1.1).2 (wf_bytes h.2.1.1).1 (wf_ints h.2.2).1
theorem pure_All (x : denL [(false, .sl (.int .i64)), (false, .sl (.sl (.int .i64))), (true, BitsTy)]) (h : wfL _ x) : g_law04_CoderAll x.1 x.2.1 x.2.2 = some true :=
  law_All (wf_ints h.1).1 (fun s hs => ((wf_ints h.1).2 s hs).2) (wf_tabs h.2.1).1 (wf_tabs h.2.1).2 (wf_bytes h.2.2.1).2 (wf_bytes h.2.2.1).1
end Go.Sq
