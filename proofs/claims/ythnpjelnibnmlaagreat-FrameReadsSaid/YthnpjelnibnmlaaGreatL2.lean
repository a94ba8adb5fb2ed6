/- Parts of a proof: evaluation of Go code over typed values, and what it computes. -/
import Derived.Test.YthnpjelnibnmlaaGreatL1
import Derived.KernelRfl
import Derived.Test.YthnpjelnibnmlaaGreatX4
set_option linter.unusedSimpArgs false
set_option linter.unusedVariables false
set_option linter.unusedSectionVars false
/- The coder: reading. -/
namespace Go.Sq
open Go.Rx

def bI (l : List Bool) (i : Nat) : Int := (((l.getD i false).toNat : Nat) : Int)
theorem bI_range (l : List Bool) (i : Nat) : 0 ≤ bI l i ∧ bI l i ≤ 1 := by unfold bI; have := bool_lt (l.getD i false); omega
/-- widening, where one reads -/
def decS : Nat → Int → Int → Int → Nat → List Bool → Int × Int × Int × Nat
  | 0, lo, hi, c, p, _ => (lo, hi, c, p)
  | n + 1, lo, hi, c, p, l =>
    if hi < 2147483648 then decS n (2 * lo) (2 * hi + 1) (2 * c + bI l p) (p + 1) l
    else if lo ≥ 2147483648 then decS n (2 * (lo - 2147483648)) (2 * (hi - 2147483648) + 1) (2 * (c - 2147483648) + bI l p) (p + 1) l
    else if lo ≥ 1073741824 ∧ hi < 3221225472 then decS n (2 * (lo - 1073741824)) (2 * (hi - 1073741824) + 1) (2 * (c - 1073741824) + bI l p) (p + 1) l
    else (lo, hi, c, p)
theorem or_bI {x y : Int} (h0 : 0 ≤ x) (h1 : x < 4611686018427387904) (hy : y = 0 ∨ y = 1) : bitsI .or .u64 (2 * x) y = 2 * x + y := by
  rcases hy with rfl | rfl
  · obtain ⟨n, rfl⟩ : ∃ n : Nat, x = n := ⟨x.toNat, by omega⟩
    have := or_nat64 (a := 2 * n) (b := 0) (by omega) (by omega)
    rw [Nat.or_zero] at this
    rw [show 2 * (n : Int) = ((2 * n : Nat) : Int) from by omega]
    exact this
  · exact or1 h0 h1
theorem coder_bit_bI {l : List Bool} {i : Nat} (hl : l.length ≤ 65536) (hi2 : i < 2 ^ 60) : g_coder_bit (pk l, (l.length : Int)) (i : Int) = some (bI l i) := coder_bit_eq hl hi2
theorem r04_bitAt_eq {l : List Bool} {i : Nat} (hl : l.length ≤ 65536) (hi2 : i < 2 ^ 60) : g_r04_bitAt (pk l, (l.length : Int)) (i : Int) = some (bI l i) := by
  have hc := r01_Check_eq (N := l.length) (pk_bytes l) (small_pk hl)
  rw [ck_pk hl] at hc
  by_cases h : i < l.length
  · have hpl := pk_len l
    have hb := r01_bit_eq (B := pk l) (N := l.length) (pk_bytes l) (i := i) (by omega) hi2
    rw [bt_pk] at hb
    have hb : g_r01_bit (pk l, (l.length : Int)) (i : Int) = some (bI l i) := hb
    have hr := bI_range l i
    have hor : bitsI .or .u64 (2 * 0) (bI l i) = 2 * 0 + bI l i := or_bI (by omega) (by omega) (by omega)
    have h1 : iter g_r01_Get_r1 ((i : Int), 0, 1, 0, (pk l, (l.length : Int)), ()) = some (bI l i, ()) := by
      rw [iter_inl (y := ((i : Int), bI l i, 1, 1, (pk l, (l.length : Int)), ()))]
      · apply iter_inr
        simp (disch := omega) only [g_r01_Get_r1, dF]
      · have h2 := shl1 (x := 0) (by omega) (by omega)
        simp (disch := omega) only [g_r01_Get_r1, dT, wrap_i64, Int.add_zero, hb, h2, Option.bind_some]
        rw [hor]; simp
    simp (disch := omega) only [g_r04_bitAt, g_r01_Get, hc, nF, dF, Option.bind_some, cond_false, wrap_i64, h1]
  · have e : bI l i = 0 := by unfold bI; rw [getD_out (by omega)]; rfl
    rw [e]
    by_cases h2 : i > l.length
    · simp (disch := omega) only [g_r04_bitAt, g_r01_Get, hc, nF, nT, dF, dT, Option.bind_some, cond_false, cond_true]
    · simp (disch := omega) only [g_r04_bitAt, g_r01_Get, hc, nF, nT, dF, dT, Option.bind_some, cond_false, cond_true, wrap_i64]

abbrev DecT := Int × Int × Int × (List Int × Int) × Int
theorem coder_read {n : Nat} {lo hi c : Int} {p : Nat} {l : List Bool} {s : Int} {d z : DecT} (hr : roomy n lo hi) (hc : lo ≤ c ∧ c ≤ hi) (hl : l.length ≤ 65536) (hn : n ≤ 32) (hp : p ≤ 65600) (hd : d.2.2.2.1 = (pk l, (l.length : Int))) :
    iter g_coder_Next_r1 (c, (p : Int), s, d, z, (lo, hi), ()) =
      some ((decS (n + 1) lo hi c p l).2.2.1, (((decS (n + 1) lo hi c p l).2.2.2 : Nat) : Int), s, d, z, ((decS (n + 1) lo hi c p l).1, (decS (n + 1) lo hi c p l).2.1), ()) := by
  obtain ⟨d1, d2, d3, ⟨d4, d5⟩, d6⟩ := d
  obtain ⟨z1, z2, z3, ⟨z4, z5⟩, z6⟩ := z
  have hd : (d4, d5) = (pk l, (l.length : Int)) := hd
  let W := decS (n + 1) lo hi c p l
  have loop : ∃ r, iter g_coder_Next_r1 (c, (p : Int), s, (d1, d2, d3, (d4, d5), d6), (z1, z2, z3, (z4, z5), z6), (lo, hi), ()) = some r ∧
      r = (W.2.2.1, ((W.2.2.2 : Nat) : Int), s, (d1, d2, d3, (d4, d5), d6), (z1, z2, z3, (z4, z5), z6), (W.1, W.2.1), ()) := by
    refine iter_ex (fun x => (8589934592 - (x.2.2.2.2.2.1.2 - x.2.2.2.2.2.1.1)).toNat)
      (fun x => ∃ (n : Nat) (lo hi c : Int) (p : Nat), x = (c, (p : Int), s, (d1, d2, d3, (d4, d5), d6), (z1, z2, z3, (z4, z5), z6), (lo, hi), ()) ∧ roomy n lo hi ∧ (lo ≤ c ∧ c ≤ hi) ∧ p + n ≤ 65632 ∧ decS (n + 1) lo hi c p l = W)
      (fun r => r = (W.2.2.1, ((W.2.2.2 : Nat) : Int), s, (d1, d2, d3, (d4, d5), d6), (z1, z2, z3, (z4, z5), z6), (W.1, W.2.1), ())) ?_ _ ⟨n, lo, hi, c, p, rfl, hr, hc, by omega, rfl⟩
    rintro x ⟨n, lo, hi, c, p, rfl, hr, hc, hp, hW⟩
    have hm := move_eq (lo := lo) (hi := hi)
    obtain ⟨r1, r2, r3, r4⟩ := hr
    have hr : roomy n lo hi := ⟨r1, r2, r3, r4⟩
    have hbit := coder_bit_bI (l := l) (i := p) hl (by omega)
    rw [← hd] at hbit
    have hbr := bI_range l p
    rw [decS] at hW
    by_cases h1 : hi < 2147483648
    · rw [if_pos h1] at hm hW
      obtain ⟨k, rfl⟩ : ∃ k, n = k + 1 := by
        cases n with
        | zero => have := roomy_zero hr; omega
        | succ k => exact ⟨k, rfl⟩
      left
      have h9 := or_bI (x := c) (y := bI l p) (by omega) (by omega) (by omega)
      refine ⟨(2 * c + bI l p, ((p + 1 : Nat) : Int), s, (d1, d2, d3, (d4, d5), d6), (z1, z2, z3, (z4, z5), z6), (2 * lo, 2 * hi + 1), ()), ?_, ⟨k, _, _, _, _, rfl, roomy_next hr (by omega) (by omega) (by omega), by omega, by omega, hW⟩, by simp; omega⟩
      simp (disch := omega) only [g_coder_Next_r1, hm, eF, Option.bind_some, hbit, Int.sub_zero, wrap_i64, wrap_u64, shl1, or1, h9]
      rfl
    rw [if_neg h1] at hm hW
    by_cases h2 : lo ≥ 2147483648
    · rw [if_pos h2] at hm hW
      obtain ⟨k, rfl⟩ : ∃ k, n = k + 1 := by
        cases n with
        | zero => have := roomy_zero hr; omega
        | succ k => exact ⟨k, rfl⟩
      left
      have h9 := or_bI (x := c - 2147483648) (y := bI l p) (by omega) (by omega) (by omega)
      refine ⟨(2 * (c - 2147483648) + bI l p, ((p + 1 : Nat) : Int), s, (d1, d2, d3, (d4, d5), d6), (z1, z2, z3, (z4, z5), z6), (2 * (lo - 2147483648), 2 * (hi - 2147483648) + 1), ()), ?_, ⟨k, _, _, _, _, rfl, roomy_next hr (by omega) (by omega) (by omega), by omega, by omega, hW⟩, by simp; omega⟩
      simp (disch := omega) only [g_coder_Next_r1, hm, eF, Option.bind_some, hbit, wrap_i64, wrap_u64, shl1, or1, h9]
      rfl
    rw [if_neg h2] at hm hW
    by_cases h3 : lo ≥ 1073741824 ∧ hi < 3221225472
    · rw [if_pos h3] at hm hW
      obtain ⟨k, rfl⟩ : ∃ k, n = k + 1 := by
        cases n with
        | zero => have := roomy_zero hr; omega
        | succ k => exact ⟨k, rfl⟩
      left
      have h9 := or_bI (x := c - 1073741824) (y := bI l p) (by omega) (by omega) (by omega)
      refine ⟨(2 * (c - 1073741824) + bI l p, ((p + 1 : Nat) : Int), s, (d1, d2, d3, (d4, d5), d6), (z1, z2, z3, (z4, z5), z6), (2 * (lo - 1073741824), 2 * (hi - 1073741824) + 1), ()), ?_, ⟨k, _, _, _, _, rfl, roomy_next hr (by omega) (by omega) (by omega), by omega, by omega, hW⟩, by simp; omega⟩
      simp (disch := omega) only [g_coder_Next_r1, hm, eF, Option.bind_some, hbit, wrap_i64, wrap_u64, shl1, or1, h9]
      rfl
    · rw [if_neg h3] at hm hW
      right
      refine ⟨_, ?_, rfl⟩
      rw [← hW]
      simp (disch := omega) only [g_coder_Next_r1, hm, eT, Option.bind_some]
  obtain ⟨r, h1, h2⟩ := loop
  rw [h1, h2]
theorem r04_read {n : Nat} {lo hi c : Int} {p : Nat} {l : List Bool} {s : Int} {d z : DecT} (hr : roomy n lo hi) (hc : lo ≤ c ∧ c ≤ hi) (hl : l.length ≤ 65536) (hn : n ≤ 32) (hp : p ≤ 65600) (hd : d.2.2.2.1 = (pk l, (l.length : Int))) :
    iter g_r04_Next_r1 (lo, hi, c, s, (p : Int), d, z, ()) =
      some (s, 0, (IntKind.u32.wrap (decS (n + 1) lo hi c p l).1, (IntKind.u32.wrap (decS (n + 1) lo hi c p l).2.1, (IntKind.u32.wrap (decS (n + 1) lo hi c p l).2.2.1, ((pk l, (l.length : Int)), (((decS (n + 1) lo hi c p l).2.2.2 : Nat) : Int))))), ()) := by
  obtain ⟨d1, d2, d3, ⟨d4, d5⟩, d6⟩ := d
  obtain ⟨z1, z2, z3, ⟨z4, z5⟩, z6⟩ := z
  have hd : (d4, d5) = (pk l, (l.length : Int)) := hd
  have hcp := Copy_eq hl
  rw [← hd] at hcp
  let W := decS (n + 1) lo hi c p l
  have loop : ∃ r, iter g_r04_Next_r1 (lo, hi, c, s, (p : Int), (d1, d2, d3, (d4, d5), d6), (z1, z2, z3, (z4, z5), z6), ()) = some r ∧
      r = (s, 0, (IntKind.u32.wrap W.1, (IntKind.u32.wrap W.2.1, (IntKind.u32.wrap W.2.2.1, ((d4, d5), ((W.2.2.2 : Nat) : Int))))), ()) := by
    refine iter_ex (fun x => (8589934592 - (x.2.1 - x.1)).toNat)
      (fun x => ∃ (n : Nat) (lo hi c : Int) (p : Nat), x = (lo, hi, c, s, (p : Int), (d1, d2, d3, (d4, d5), d6), (z1, z2, z3, (z4, z5), z6), ()) ∧ roomy n lo hi ∧ (lo ≤ c ∧ c ≤ hi) ∧ p + n ≤ 65632 ∧ decS (n + 1) lo hi c p l = W)
      (fun r => r = (s, 0, (IntKind.u32.wrap W.1, (IntKind.u32.wrap W.2.1, (IntKind.u32.wrap W.2.2.1, ((d4, d5), ((W.2.2.2 : Nat) : Int))))), ())) ?_ _ ⟨n, lo, hi, c, p, rfl, hr, hc, by omega, rfl⟩
    rintro x ⟨n, lo, hi, c, p, rfl, hr, hc, hp, hW⟩
    obtain ⟨r1, r2, r3, r4⟩ := hr
    have hr : roomy n lo hi := ⟨r1, r2, r3, r4⟩
    have hbit := r04_bitAt_eq (l := l) (i := p) hl (by omega)
    rw [← hd] at hbit
    have hbr := bI_range l p
    rw [decS] at hW
    by_cases h1 : hi < 2147483648
    · rw [if_pos h1] at hW
      obtain ⟨k, rfl⟩ : ∃ k, n = k + 1 := by
        cases n with
        | zero => have := roomy_zero hr; omega
        | succ k => exact ⟨k, rfl⟩
      left
      refine ⟨(2 * lo, 2 * hi + 1, 2 * c + bI l p, s, ((p + 1 : Nat) : Int), (d1, d2, d3, (d4, d5), d6), (z1, z2, z3, (z4, z5), z6), ()), ?_, ⟨k, _, _, _, _, rfl, roomy_next hr (by omega) (by omega) (by omega), by omega, by omega, hW⟩, by simp; omega⟩
      simp (disch := omega) only [g_r04_Next_r1, dT, Option.bind_some, hbit, Int.sub_zero, wrap_i64, wrap_u64]
      rfl
    rw [if_neg h1] at hW
    by_cases h2 : lo ≥ 2147483648
    · rw [if_pos h2] at hW
      obtain ⟨k, rfl⟩ : ∃ k, n = k + 1 := by
        cases n with
        | zero => have := roomy_zero hr; omega
        | succ k => exact ⟨k, rfl⟩
      left
      refine ⟨(2 * (lo - 2147483648), 2 * (hi - 2147483648) + 1, 2 * (c - 2147483648) + bI l p, s, ((p + 1 : Nat) : Int), (d1, d2, d3, (d4, d5), d6), (z1, z2, z3, (z4, z5), z6), ()), ?_, ⟨k, _, _, _, _, rfl, roomy_next hr (by omega) (by omega) (by omega), by omega, by omega, hW⟩, by simp; omega⟩
      simp (disch := omega) only [g_r04_Next_r1, dT, dF, Option.bind_some, hbit, wrap_i64, wrap_u64]
      rfl
    rw [if_neg h2] at hW
    by_cases h3 : lo ≥ 1073741824 ∧ hi < 3221225472
    · rw [if_pos h3] at hW
      obtain ⟨k, rfl⟩ : ∃ k, n = k + 1 := by
        cases n with
        | zero => have := roomy_zero hr; omega
        | succ k => exact ⟨k, rfl⟩
      left
      refine ⟨(2 * (lo - 1073741824), 2 * (hi - 1073741824) + 1, 2 * (c - 1073741824) + bI l p, s, ((p + 1 : Nat) : Int), (d1, d2, d3, (d4, d5), d6), (z1, z2, z3, (z4, z5), z6), ()), ?_, ⟨k, _, _, _, _, rfl, roomy_next hr (by omega) (by omega) (by omega), by omega, by omega, hW⟩, by simp; omega⟩
      simp (disch := omega) only [g_r04_Next_r1, dT, dF, Option.bind_some, hbit, wrap_i64, wrap_u64]
      rfl
    · rw [if_neg h3] at hW
      right
      refine ⟨_, ?_, rfl⟩
      rw [← hW]
      by_cases h5 : lo ≥ 1073741824
      · simp (disch := omega) only [g_r04_Next_r1, dT, dF, Option.bind_some, hcp]
      · simp (disch := omega) only [g_r04_Next_r1, dF, Option.bind_some, hcp, cond_false]
  obtain ⟨r, h1, h2⟩ := loop
  rw [h1, h2, hd]
end Go.Sq
/- The coder: Start, Next. -/
namespace Go.Sq
open Go.Rx

/-- the first so many bits' number -/
def codeS (l : List Bool) : Nat → Int
  | 0 => 0
  | n + 1 => 2 * codeS l n + bI l n
theorem codeS_range (l : List Bool) : ∀ n, 0 ≤ codeS l n ∧ codeS l n < 2 ^ n
  | 0 => by simp [codeS]
  | n + 1 => by
    have := codeS_range l n
    have := bI_range l n
    simp only [codeS, Int.pow_succ]
    omega
theorem codeS_lt (l : List Bool) {n : Nat} (h : n ≤ 32) : 0 ≤ codeS l n ∧ codeS l n < 4294967296 := by
  have h1 := codeS_range l n
  have h2 : (2 : Int) ^ n ≤ 2 ^ 32 := by
    have : (2 : Nat) ^ n ≤ 2 ^ 32 := Nat.pow_le_pow_right (by omega) h
    exact_mod_cast this
  have h3 : (2 : Int) ^ 32 = 4294967296 := by decide
  omega
def zDec : DecT := (0, (0, (0, (([], 0), 0))))
theorem coder_Start_ok {l : List Bool} (hl : l.length ≤ 65536) : g_coder_Start (pk l, (l.length : Int)) = some ((0, (4294967295, (codeS l 32, ((pk l, (l.length : Int)), 32)))), 0) := by
  have hc := bits_Check_eq (N := l.length) (pk_bytes l) (small_pk hl)
  rw [ck_pk hl] at hc
  have loop : ∃ r, iter g_coder_Start_r1 (0, 0, (pk l, (l.length : Int)), (0, (0, (0, (([], 0), 0)))), ()) = some r ∧ r = (codeS l 32, (pk l, (l.length : Int)), (0, (0, (0, (([], 0), 0)))), ()) := by
    refine iter_ex (fun x => (32 - x.2.1).toNat) (fun x => ∃ i : Nat, x = (codeS l i, (i : Int), (pk l, (l.length : Int)), (0, (0, (0, (([], 0), 0)))), ()) ∧ i ≤ 32)
      (fun r => r = (codeS l 32, (pk l, (l.length : Int)), (0, (0, (0, (([], 0), 0)))), ())) ?_ _ ⟨0, rfl, by omega⟩
    rintro x ⟨i, rfl, h1⟩
    by_cases h2 : i < 32
    · left
      have hb := coder_bit_bI (l := l) (i := i) hl (by omega)
      have hr := bI_range l i
      have hcr := codeS_lt l (n := i) (by omega)
      have h9 := or_bI (x := codeS l i) (y := bI l i) (by omega) (by omega) (by omega)
      refine ⟨(codeS l (i + 1), ((i + 1 : Nat) : Int), (pk l, (l.length : Int)), (0, (0, (0, (([], 0), 0)))), ()), ?_, ⟨i + 1, rfl, h2⟩, by simp only; omega⟩
      simp (disch := omega) only [g_coder_Start_r1, dT, hb, Option.bind_some, shl1, h9, wrap_i64]
      rfl
    · right
      have : i = 32 := by omega
      subst this
      refine ⟨_, ?_, rfl⟩
      simp (disch := omega) only [g_coder_Start_r1, dF]
  obtain ⟨r, h1, rfl⟩ := loop
  have hcr := codeS_lt l (n := 32) (by omega)
  simp (disch := omega) only [g_coder_Start, hc, nF, Option.bind_some, h1, owned_eq hl, wrap_u32]
theorem r04_Start_ok {l : List Bool} (hl : l.length ≤ 65536) : g_r04_Start (pk l, (l.length : Int)) = some ((0, (4294967295, (codeS l 32, ((pk l, (l.length : Int)), 32)))), 0) := by
  have hc := r01_Check_eq (N := l.length) (pk_bytes l) (small_pk hl)
  rw [ck_pk hl] at hc
  have loop : ∃ r, iter g_r04_Start_r1 (0, 0, (pk l, (l.length : Int)), (0, (0, (0, (([], 0), 0)))), ()) = some r ∧ r = (codeS l 32, (pk l, (l.length : Int)), (0, (0, (0, (([], 0), 0)))), ()) := by
    refine iter_ex (fun x => (32 - x.2.1).toNat) (fun x => ∃ i : Nat, x = (codeS l i, (i : Int), (pk l, (l.length : Int)), (0, (0, (0, (([], 0), 0)))), ()) ∧ i ≤ 32)
      (fun r => r = (codeS l 32, (pk l, (l.length : Int)), (0, (0, (0, (([], 0), 0)))), ())) ?_ _ ⟨0, rfl, by omega⟩
    rintro x ⟨i, rfl, h1⟩
    by_cases h2 : i < 32
    · left
      have hb := r04_bitAt_eq (l := l) (i := i) hl (by omega)
      have hr := bI_range l i
      have hcr := codeS_lt l (n := i) (by omega)
      refine ⟨(codeS l (i + 1), ((i + 1 : Nat) : Int), (pk l, (l.length : Int)), (0, (0, (0, (([], 0), 0)))), ()), ?_, ⟨i + 1, rfl, h2⟩, by simp only; omega⟩
      simp (disch := omega) only [g_r04_Start_r1, dT, hb, Option.bind_some, wrap_u64, wrap_i64]
      rfl
    · right
      have : i = 32 := by omega
      subst this
      refine ⟨_, ?_, rfl⟩
      simp (disch := omega) only [g_r04_Start_r1, dF]
  obtain ⟨r, h1, rfl⟩ := loop
  have hcr := codeS_lt l (n := 32) (by omega)
  simp (disch := omega) only [g_r04_Start, hc, nF, Option.bind_some, h1, Copy_eq hl, wrap_u32]
theorem Start_same {B : List Int} {N : Int} (hB : bytes B) (hs : small B) : ∃ r, g_coder_Start (B, N) = some r ∧ g_r04_Start (B, N) = some r ∧ ((r = (zDec, 1) ∧ ¬ okB B N) ∨
    ∃ l : List Bool, l.length ≤ 65536 ∧ B = pk l ∧ N = l.length ∧ r = ((0, (4294967295, (codeS l 32, ((pk l, (l.length : Int)), 32)))), 0)) := by
  by_cases h : okB B N
  · obtain ⟨l, rfl, rfl, hl⟩ := (okB_iff hB).1 h
    exact ⟨_, coder_Start_ok hl, r04_Start_ok hl, .inr ⟨l, hl, rfl, rfl, rfl⟩⟩
  · have h1 := bits_Check_eq (N := N) hB hs
    have h2 := r01_Check_eq (N := N) hB hs
    unfold ck at h1 h2
    rw [if_neg h] at h1 h2
    refine ⟨(zDec, 1), ?_, ?_, .inl ⟨rfl, h⟩⟩
    · simp (disch := omega) only [g_coder_Start, h1, nT, Option.bind_some]; rfl
    · simp (disch := omega) only [g_r04_Start, h2, nT, Option.bind_some]; rfl

/-- may it be a decoder's state? -/
def okD (d : DecT) : Prop := goodP d.1 d.2.1 ∧ d.1 ≤ d.2.2.1 ∧ d.2.2.1 ≤ d.2.1 ∧ okB d.2.2.2.1.1 d.2.2.2.1.2 ∧ 32 ≤ d.2.2.2.2 ∧ d.2.2.2.2 ≤ 65600
def wfD (d : DecT) : Prop := (0 ≤ d.1 ∧ d.1 < 4294967296) ∧ (0 ≤ d.2.1 ∧ d.2.1 < 4294967296) ∧ (0 ≤ d.2.2.1 ∧ d.2.2.1 < 4294967296) ∧ bytes d.2.2.2.1.1 ∧ small d.2.2.2.1.1
theorem CheckDec_t {d : DecT} (h : wfD d) (ho : okD d) : g_r04_CheckDec d = some true := by
  obtain ⟨lo, hi, c, ⟨B, N⟩, p⟩ := d
  obtain ⟨h1, h2, h3, h4, h5⟩ := h
  have h1 : 0 ≤ lo ∧ lo < 4294967296 := h1
  have h2 : 0 ≤ hi ∧ hi < 4294967296 := h2
  have h4 : bytes B := h4
  have h5 : small B := h5
  obtain ⟨o1, o2, o3, o4, o5, o6⟩ := ho
  have o1 : goodP lo hi := o1
  have o2 : lo ≤ c := o2
  have o3 : c ≤ hi := o3
  have o4 : okB B N := o4
  have o5 : 32 ≤ p := o5
  have o6 : p ≤ 65600 := o6
  have hw := wide_eq (lo := lo) (hi := hi) (by omega)
  rw [decide_eq_true o1] at hw
  have hc := r01_Check_eq (N := N) h4 h5
  unfold ck at hc
  rw [if_pos o4] at hc
  have e1 := wrap_u64 (n := lo) (by omega) (by omega)
  have e2 := wrap_u64 (n := hi) (by omega) (by omega)
  simp (disch := omega) only [g_r04_CheckDec, e1, e2, hw, hc, Option.bind_some, dT, cond_true, eT]
  rw [decide_eq_true (by omega)]
theorem CheckDec_f {d : DecT} (h : wfD d) (ho : ¬ okD d) : g_r04_CheckDec d = some false := by
  obtain ⟨lo, hi, c, ⟨B, N⟩, p⟩ := d
  obtain ⟨h1, h2, h3, h4, h5⟩ := h
  have h1 : 0 ≤ lo ∧ lo < 4294967296 := h1
  have h2 : 0 ≤ hi ∧ hi < 4294967296 := h2
  have h4 : bytes B := h4
  have h5 : small B := h5
  have hw := wide_eq (lo := lo) (hi := hi) (by omega)
  have hc := r01_Check_eq (N := N) h4 h5
  have e1 := wrap_u64 (n := lo) (by omega) (by omega)
  have e2 := wrap_u64 (n := hi) (by omega) (by omega)
  by_cases o1 : goodP lo hi
  · rw [decide_eq_true o1] at hw
    by_cases o2 : lo ≤ c
    · by_cases o3 : c ≤ hi
      · unfold ck at hc
        by_cases o4 : okB B N
        · rw [if_pos o4] at hc
          by_cases o5 : 32 ≤ p
          · simp (disch := omega) only [g_r04_CheckDec, e1, e2, hw, hc, Option.bind_some, dT, cond_true, eT]
            rw [decide_eq_false (fun o6 => ho ⟨o1, o2, o3, o4, o5, o6⟩)]
          · simp (disch := omega) only [g_r04_CheckDec, e1, e2, hw, hc, Option.bind_some, dT, dF, cond_true, eT]
        · rw [if_neg o4] at hc
          simp (disch := omega) only [g_r04_CheckDec, e1, e2, hw, hc, Option.bind_some, dT, cond_true, eF]
      · simp (disch := omega) only [g_r04_CheckDec, e1, e2, hw, Option.bind_some, dT, dF, cond_true]
    · simp (disch := omega) only [g_r04_CheckDec, e1, e2, hw, Option.bind_some, dF, cond_true]
  · rw [decide_eq_false o1] at hw
    simp (disch := omega) only [g_r04_CheckDec, e1, e2, hw, Option.bind_some, cond_false]
end Go.Sq
/- The coder: Next: the program's and the document's are the same. -/
namespace Go.Sq
open Go.Rx

def findX (lo hi c t : Int) : Int := ((c - lo + 1) * t - 1) / (hi - lo + 1)
theorem find_facts {lo hi c t : Int} (h1 : lo ≤ c) (h2 : c ≤ hi) (hr : hi - lo + 1 ≤ 4294967296) (ht : 1 ≤ t) (ht2 : t ≤ 16384) :
    0 ≤ (c - lo + 1) * t - 1 ∧ (c - lo + 1) * t ≤ 70368744177664 ∧ 0 ≤ findX lo hi c t ∧ findX lo hi c t < t ∧ findX lo hi c t * (hi - lo + 1) ≤ (c - lo + 1) * t - 1 ∧ (c - lo + 1) * t ≤ (findX lo hi c t + 1) * (hi - lo + 1) := by
  have e1 : 1 * 1 ≤ (c - lo + 1) * t := Int.mul_le_mul (by omega) ht (by omega) (by omega)
  have e2 : (c - lo + 1) * t ≤ 4294967296 * 16384 := Int.mul_le_mul (by omega) ht2 (by omega) (by omega)
  have e3 : (c - lo + 1) * t ≤ (hi - lo + 1) * t := Int.mul_le_mul_of_nonneg_right (by omega) (by omega)
  have e4 : 0 ≤ findX lo hi c t := Int.ediv_nonneg (by omega) (by omega)
  have e5 : findX lo hi c t < t := by
    unfold findX
    apply Int.ediv_lt_of_lt_mul (by omega)
    rw [Int.mul_comm t]; omega
  have e6 : findX lo hi c t * (hi - lo + 1) ≤ (c - lo + 1) * t - 1 := Int.ediv_mul_le _ (by omega)
  have e7 : (c - lo + 1) * t - 1 < (findX lo hi c t + 1) * (hi - lo + 1) := Int.lt_ediv_add_one_mul_self _ (by omega)
  exact ⟨by omega, by omega, e4, e5, e6, by omega⟩
/-- the code lies within what it narrows to -/
theorem find_within {lo hi c t a b : Int} (h1 : lo ≤ c) (h2 : c ≤ hi) (hr : hi - lo + 1 ≤ 4294967296) (ht : 1 ≤ t) (ht2 : t ≤ 16384) (ha : a ≤ findX lo hi c t) (hb : findX lo hi c t < b) :
    narL lo hi a t ≤ c ∧ c ≤ narH lo hi b t := by
  obtain ⟨f1, f2, f3, f4, f5, f6⟩ := find_facts h1 h2 hr ht ht2
  have g1 : a * (hi - lo + 1) ≤ findX lo hi c t * (hi - lo + 1) := Int.mul_le_mul_of_nonneg_right ha (by omega)
  have g2 : (findX lo hi c t + 1) * (hi - lo + 1) ≤ b * (hi - lo + 1) := Int.mul_le_mul_of_nonneg_right hb (by omega)
  have g3 : (hi - lo + 1) * a / t < c - lo + 1 := by
    apply Int.ediv_lt_of_lt_mul (by omega)
    rw [Int.mul_comm _ a]; omega
  have g4 : c - lo + 1 ≤ (hi - lo + 1) * b / t := by
    apply Int.le_ediv_of_mul_le (by omega)
    rw [Int.mul_comm _ b]; omega
  unfold narL narH
  omega
noncomputable def nextR (lo hi c : Int) (p : Nat) (l : List Bool) (C : List Int) (s : Nat) : DecT × Int × Int :=
  ((IntKind.u32.wrap (decS 33 (narL lo hi (C.getD s 0) (totS C)) (narH lo hi (C.getD (s + 1) 0) (totS C)) c p l).1,
    (IntKind.u32.wrap (decS 33 (narL lo hi (C.getD s 0) (totS C)) (narH lo hi (C.getD (s + 1) 0) (totS C)) c p l).2.1,
     (IntKind.u32.wrap (decS 33 (narL lo hi (C.getD s 0) (totS C)) (narH lo hi (C.getD (s + 1) 0) (totS C)) c p l).2.2.1,
      ((pk l, (l.length : Int)), (((decS 33 (narL lo hi (C.getD s 0) (totS C)) (narH lo hi (C.getD (s + 1) 0) (totS C)) c p l).2.2.2 : Nat) : Int))))), ((s : Int), 0))
theorem coder_Next_ok {lo hi c : Int} {p : Nat} {l : List Bool} {C : List Int} {s : Nat} (hlo : 0 ≤ lo) (hhi : hi < 4294967296) (hg : goodP lo hi) (hc1 : lo ≤ c) (hc2 : c ≤ hi) (hl : l.length ≤ 65536)
    (hp1 : 32 ≤ p) (hp2 : p ≤ l.length + 32) (hF : okF C) (hs : isSym C (findX lo hi c (totS C)) s) :
    g_coder_Next (lo, (hi, (c, ((pk l, (l.length : Int)), (p : Int))))) C = some (nextR lo hi c p l C s) := by
  have hF2 := hF.2.1
  have hsm : small C := by unfold small; omega
  have hgl := hg.1
  have e1 := wrap_u64 (n := lo) (by omega) (by omega)
  have e2 := wrap_u64 (n := hi) (by omega) (by omega)
  have e3 := wrap_u64 (n := c) (by omega) (by omega)
  have hgd := good_eq (lo := lo) (hi := hi)
  rw [decide_eq_true hg] at hgd
  have hc := bits_Check_eq (N := l.length) (pk_bytes l) (small_pk hl)
  rw [ck_pk hl] at hc
  have hfc := freq_Check_eq hsm
  rw [ckF_pos hF] at hfc
  have ht := freq_Total_eq hsm
  obtain ⟨_, ht1, ht2⟩ := totS_pos hF
  have hfind := freq_Find_eq hF hs
  have hs1 := hs.1
  have a0 := okF_mono hF (i := 0) (j := s) (by omega) (by omega)
  rw [hF.2.2.1] at a0
  have a1 := hF.2.2.2.2 s hs1
  have a2 := okF_mono hF (i := s + 1) (j := C.length - 1) (by omega) (by omega)
  rw [← (totS_pos hF).1] at a2
  have hgw := good_wide hg
  have hw := find_within (a := C.getD s 0) (b := C.getD (s + 1) 0) hc1 hc2 (by omega) ht1 ht2 hs.2.1 hs.2.2
  obtain ⟨q1, q2, q3, q4, _, _⟩ := find_facts hc1 hc2 (by omega) ht1 ht2
  have e4 : ((s : Int) + 1).toNat = s + 1 := by omega
  unfold nextR
  generalize hga : C.getD s 0 = a at *
  generalize hgb : C.getD (s + 1) 0 = b at *
  generalize totS C = t at *
  obtain ⟨f1, f2, f3, f4, f5, f6, f7⟩ := nar_facts (r := hi - lo + 1) (a := a) (b := b) (t := t) (by omega) (by omega) a0 a1 a2 ht1 ht2
  have d0 : ((c - lo + 1) * t - 1).tdiv (hi - lo + 1) = findX lo hi c t := Int.tdiv_eq_ediv_of_nonneg q1
  have d1 : ((hi - lo + 1) * a).tdiv t = (hi - lo + 1) * a / t := Int.tdiv_eq_ediv_of_nonneg f1
  have d2 : ((hi - lo + 1) * b).tdiv t = (hi - lo + 1) * b / t := Int.tdiv_eq_ediv_of_nonneg f3
  have hL : narL lo hi a t = lo + (hi - lo + 1) * a / t := rfl
  have hH : narH lo hi b t = lo + (hi - lo + 1) * b / t - 1 := rfl
  rw [hL, hH] at hw ⊢
  generalize findX lo hi c t = x at *
  generalize (hi - lo + 1) * a / t = qa at *
  generalize (hi - lo + 1) * b / t = qb at *
  have hit := fun (d z : DecT) (hd : d.2.2.2.1 = (pk l, (l.length : Int))) => coder_read (n := 32) (lo := lo + qa) (hi := lo + qb - 1) (c := c) (p := p) (l := l) (s := (s : Int)) (d := d) (z := z) (roomy_start (by omega) (by omega) (by omega)) hw hl (by omega) (by omega) hd
  have hit := hit (lo, (hi, (c, ((pk l, (l.length : Int)), (p : Int))))) (0, (0, (0, (([], 0), 0)))) rfl
  simp (disch := omega) only [g_coder_Next, e1, e2, e3, hgd, hc, hfc, ht, Bool.not_true, cond_false, dF, nF, nT, Option.bind_some, wrap_i64, wrap_u64, d0, d1, d2, hfind, wT, Int.toNat_natCast, e4, hga, hgb, hit, owned_eq hl]
theorem r04_Next_ok {lo hi c : Int} {p : Nat} {l : List Bool} {C : List Int} {s : Nat} (hlo : 0 ≤ lo) (hhi : hi < 4294967296) (hg : goodP lo hi) (hc1 : lo ≤ c) (hc2 : c ≤ hi) (hl : l.length ≤ 65536)
    (hp1 : 32 ≤ p) (hp2 : p ≤ l.length + 32) (hF : okF C) (hs : isSym C (findX lo hi c (totS C)) s) :
    g_r04_Next (lo, (hi, (c, ((pk l, (l.length : Int)), (p : Int))))) C = some (nextR lo hi c p l C s) := by
  have hF2 := hF.2.1
  have hsm : small C := by unfold small; omega
  have hgl := hg.1
  have e1 := wrap_u64 (n := lo) (by omega) (by omega)
  have e2 := wrap_u64 (n := hi) (by omega) (by omega)
  have e3 := wrap_u64 (n := c) (by omega) (by omega)
  have hce := CheckDec_t (d := (lo, (hi, (c, ((pk l, (l.length : Int)), (p : Int)))))) ⟨by simp only; omega, by simp only; omega, by simp only; omega, pk_bytes l, small_pk hl⟩
    ⟨hg, hc1, hc2, (okB_iff (pk_bytes l)).2 ⟨l, rfl, rfl, hl⟩, by simp only; omega, by simp only; omega⟩
  have hfc := r03_Check_eq hsm
  rw [ckF_pos hF] at hfc
  have ht := r03_Total_eq hsm
  obtain ⟨_, ht1, ht2⟩ := totS_pos hF
  have hfind := r03_Find_eq hF hs
  have hsp := r03_Span_eq (s := (s : Int)) hsm (by have := hs.1; omega)
  unfold spanS at hsp
  rw [if_pos ⟨hF, by omega, by have := hs.1; omega⟩, Int.toNat_natCast] at hsp
  have hs1 := hs.1
  have a0 := okF_mono hF (i := 0) (j := s) (by omega) (by omega)
  rw [hF.2.2.1] at a0
  have a1 := hF.2.2.2.2 s hs1
  have a2 := okF_mono hF (i := s + 1) (j := C.length - 1) (by omega) (by omega)
  rw [← (totS_pos hF).1] at a2
  have hgw := good_wide hg
  have hw := find_within (a := C.getD s 0) (b := C.getD (s + 1) 0) hc1 hc2 (by omega) ht1 ht2 hs.2.1 hs.2.2
  obtain ⟨q1, q2, q3, q4, _, _⟩ := find_facts hc1 hc2 (by omega) ht1 ht2
  have e4 : ((s : Int) + 1).toNat = s + 1 := by omega
  unfold nextR
  generalize hga : C.getD s 0 = a at *
  generalize hgb : C.getD (s + 1) 0 = b at *
  generalize totS C = t at *
  obtain ⟨f1, f2, f3, f4, f5, f6, f7⟩ := nar_facts (r := hi - lo + 1) (a := a) (b := b) (t := t) (by omega) (by omega) a0 a1 a2 ht1 ht2
  have d0 : ((c - lo + 1) * t - 1).tdiv (hi - lo + 1) = findX lo hi c t := Int.tdiv_eq_ediv_of_nonneg q1
  have d1 : ((hi - lo + 1) * a).tdiv t = (hi - lo + 1) * a / t := Int.tdiv_eq_ediv_of_nonneg f1
  have d2 : ((hi - lo + 1) * b).tdiv t = (hi - lo + 1) * b / t := Int.tdiv_eq_ediv_of_nonneg f3
  have hL : narL lo hi a t = lo + (hi - lo + 1) * a / t := rfl
  have hH : narH lo hi b t = lo + (hi - lo + 1) * b / t - 1 := rfl
  rw [hL, hH] at hw ⊢
  generalize findX lo hi c t = x at *
  generalize (hi - lo + 1) * a / t = qa at *
  generalize (hi - lo + 1) * b / t = qb at *
  have hit := fun (d z : DecT) (hd : d.2.2.2.1 = (pk l, (l.length : Int))) => r04_read (n := 32) (lo := lo + qa) (hi := lo + qb - 1) (c := c) (p := p) (l := l) (s := (s : Int)) (d := d) (z := z) (roomy_start (by omega) (by omega) (by omega)) hw hl (by omega) (by omega) hd
  have hit := hit (lo, (hi, (c, ((pk l, (l.length : Int)), (p : Int))))) (0, (0, (0, (([], 0), 0)))) rfl
  simp (disch := omega) only [g_r04_Next, g_r04_narrow, e1, e2, e3, hce, hfc, ht, Bool.not_true, cond_false, dF, nF, nT, Option.bind_some, wrap_i64, wrap_u64, d0, d1, d2, hfind, hsp, hit]

/-- why nothing is read -/
theorem coder_Next_arg {d : DecT} {C : List Int} (hd : wfD d) (hC : small C) (h : ¬ (okD d ∧ okF C)) : g_coder_Next d C = some (zDec, (0, 1)) := by
  obtain ⟨lo, hi, c, ⟨B, N⟩, p⟩ := d
  obtain ⟨h1, h2, h3, h4, h5⟩ := hd
  have h1 : 0 ≤ lo ∧ lo < 4294967296 := h1
  have h2 : 0 ≤ hi ∧ hi < 4294967296 := h2
  have h3 : 0 ≤ c ∧ c < 4294967296 := h3
  have h4 : bytes B := h4
  have h5 : small B := h5
  have e1 := wrap_u64 (n := lo) (by omega) (by omega)
  have e2 := wrap_u64 (n := hi) (by omega) (by omega)
  have e3 := wrap_u64 (n := c) (by omega) (by omega)
  have hgd := good_eq (lo := lo) (hi := hi)
  have hc := bits_Check_eq (N := N) h4 h5
  have hfc := freq_Check_eq hC
  have hz : zDec = (0, (0, (0, (([], 0), 0)))) := rfl
  rw [hz]
  by_cases g : goodP lo hi
  · rw [decide_eq_true g] at hgd
    by_cases g1 : lo ≤ c
    · by_cases g2 : c ≤ hi
      · unfold ck at hc
        by_cases g3 : okB B N
        · rw [if_pos g3] at hc
          by_cases g4 : 32 ≤ p
          · by_cases g5 : p ≤ 65600
            · rw [ckF_neg (fun hh => h ⟨⟨g, g1, g2, g3, g4, g5⟩, hh⟩)] at hfc
              simp (disch := omega) only [g_coder_Next, e1, e2, e3, hgd, hc, hfc, Bool.not_true, cond_false, dF, nF, nT, Option.bind_some]
            · simp (disch := omega) only [g_coder_Next, e1, e2, e3, hgd, hc, Bool.not_true, cond_false, cond_true, dF, dT, nF, Option.bind_some]
          · simp (disch := omega) only [g_coder_Next, e1, e2, e3, hgd, hc, Bool.not_true, cond_false, cond_true, dF, dT, nF, Option.bind_some]
        · rw [if_neg g3] at hc
          simp (disch := omega) only [g_coder_Next, e1, e2, e3, hgd, hc, Bool.not_true, cond_false, cond_true, dF, nT, Option.bind_some]
      · simp (disch := omega) only [g_coder_Next, e1, e2, e3, hgd, Bool.not_true, cond_false, cond_true, dF, dT, Option.bind_some]
    · simp (disch := omega) only [g_coder_Next, e1, e2, e3, hgd, Bool.not_true, cond_false, cond_true, dT, Option.bind_some]
  · rw [decide_eq_false g] at hgd
    simp (disch := omega) only [g_coder_Next, e1, e2, e3, hgd, Bool.not_false, cond_true, Option.bind_some]
theorem r04_Next_arg {d : DecT} {C : List Int} (hd : wfD d) (hC : small C) (h : ¬ (okD d ∧ okF C)) : g_r04_Next d C = some (zDec, (0, 1)) := by
  have hfc := r03_Check_eq hC
  have hz : zDec = (0, (0, (0, (([], 0), 0)))) := rfl
  rw [hz]
  by_cases g : okD d
  · have hce := CheckDec_t hd g
    rw [ckF_neg (fun hh => h ⟨g, hh⟩)] at hfc
    simp (disch := omega) only [g_r04_Next, hce, hfc, Bool.not_true, cond_false, nT, Option.bind_some]
  · have hce := CheckDec_f hd g
    simp (disch := omega) only [g_r04_Next, hce, Bool.not_false, cond_true, Option.bind_some]
theorem coder_Next_short {lo hi c : Int} {p : Nat} {l : List Bool} {C : List Int} (hlo : 0 ≤ lo) (hhi : hi < 4294967296) (hg : goodP lo hi) (hc1 : lo ≤ c) (hc2 : c ≤ hi) (hl : l.length ≤ 65536)
    (hp1 : 32 ≤ p) (hp2 : l.length + 32 < p) (hp3 : p ≤ 65600) (hF : okF C) : g_coder_Next (lo, (hi, (c, ((pk l, (l.length : Int)), (p : Int))))) C = some (zDec, (0, 20)) := by
  have hF2 := hF.2.1
  have hsm : small C := by unfold small; omega
  have e1 := wrap_u64 (n := lo) (by omega) (by omega)
  have e2 := wrap_u64 (n := hi) (by omega) (by omega)
  have e3 := wrap_u64 (n := c) (by omega) (by omega)
  have hgd := good_eq (lo := lo) (hi := hi)
  rw [decide_eq_true hg] at hgd
  have hc := bits_Check_eq (N := l.length) (pk_bytes l) (small_pk hl)
  rw [ck_pk hl] at hc
  have hfc := freq_Check_eq hsm
  rw [ckF_pos hF] at hfc
  have hz : zDec = (0, (0, (0, (([], 0), 0)))) := rfl
  rw [hz]
  simp (disch := omega) only [g_coder_Next, e1, e2, e3, hgd, hc, hfc, Bool.not_true, cond_false, dF, dT, nF, Option.bind_some, bne_self_eq_false, wrap_i64]
theorem r04_Next_short {lo hi c : Int} {p : Nat} {l : List Bool} {C : List Int} (hlo : 0 ≤ lo) (hhi : hi < 4294967296) (hg : goodP lo hi) (hc1 : lo ≤ c) (hc2 : c ≤ hi) (hl : l.length ≤ 65536)
    (hp1 : 32 ≤ p) (hp2 : l.length + 32 < p) (hp3 : p ≤ 65600) (hF : okF C) : g_r04_Next (lo, (hi, (c, ((pk l, (l.length : Int)), (p : Int))))) C = some (zDec, (0, 20)) := by
  have hF2 := hF.2.1
  have hsm : small C := by unfold small; omega
  have hce := CheckDec_t (d := (lo, (hi, (c, ((pk l, (l.length : Int)), (p : Int)))))) ⟨by simp only; omega, by simp only; omega, by simp only; omega, pk_bytes l, small_pk hl⟩
    ⟨hg, hc1, hc2, (okB_iff (pk_bytes l)).2 ⟨l, rfl, rfl, hl⟩, by simp only; omega, by simp only; omega⟩
  have hfc := r03_Check_eq hsm
  rw [ckF_pos hF] at hfc
  have hz : zDec = (0, (0, (0, (([], 0), 0)))) := rfl
  rw [hz]
  simp (disch := omega) only [g_r04_Next, hce, hfc, Bool.not_true, cond_false, dT, nF, Option.bind_some, bne_self_eq_false, wrap_i64]
/-- what a decoder's state in order is -/
theorem okD_form {d : DecT} (h : wfD d) (ho : okD d) : ∃ (lo hi c : Int) (p : Nat) (l : List Bool), d = (lo, (hi, (c, ((pk l, (l.length : Int)), (p : Int))))) ∧ 0 ≤ lo ∧ hi < 4294967296 ∧ goodP lo hi ∧ lo ≤ c ∧ c ≤ hi ∧ l.length ≤ 65536 ∧ 32 ≤ p ∧ p ≤ 65600 := by
  obtain ⟨lo, hi, c, ⟨B, N⟩, p⟩ := d
  obtain ⟨h1, h2, h3, h4, h5⟩ := h
  obtain ⟨o1, o2, o3, o4, o5, o6⟩ := ho
  have o5 : 32 ≤ p := o5
  have o6 : p ≤ 65600 := o6
  have h1 : 0 ≤ lo ∧ lo < 4294967296 := h1
  have h2 : 0 ≤ hi ∧ hi < 4294967296 := h2
  obtain ⟨l, hB, hN, hl⟩ := (okB_iff h4).1 o4
  have hB : B = pk l := hB
  have hN : N = l.length := hN
  subst hB; subst hN
  obtain ⟨n, rfl⟩ : ∃ n : Nat, p = n := ⟨p.toNat, by omega⟩
  exact ⟨lo, hi, c, n, l, rfl, h1.1, h2.2, o1, o2, o3, hl, by omega, by omega⟩
/-- the program's Next is the document's -/
theorem Next_same {d : DecT} {C : List Int} (hd : wfD d) (hC : small C) : ∃ r, g_coder_Next d C = some r ∧ g_r04_Next d C = some r ∧
    ((r = (zDec, (0, 1)) ∧ ¬ (okD d ∧ okF C)) ∨ ∃ (lo hi c : Int) (p : Nat) (l : List Bool), d = (lo, (hi, (c, ((pk l, (l.length : Int)), (p : Int))))) ∧ okD d ∧ okF C ∧ l.length ≤ 65536 ∧ 0 ≤ lo ∧ hi < 4294967296 ∧ goodP lo hi ∧ lo ≤ c ∧ c ≤ hi ∧ 32 ≤ p ∧
      ((r = (zDec, (0, 20)) ∧ l.length + 32 < p) ∨ ∃ s, p ≤ l.length + 32 ∧ isSym C (findX lo hi c (totS C)) s ∧ r = nextR lo hi c p l C s)) := by
  by_cases h : okD d ∧ okF C
  · obtain ⟨ho, hF⟩ := h
    obtain ⟨lo, hi, c, p, l, rfl, a1, a2, a3, a4, a5, a6, a7, a8⟩ := okD_form hd ho
    by_cases hp : l.length + 32 < p
    · exact ⟨_, coder_Next_short a1 a2 a3 a4 a5 a6 a7 hp a8 hF, r04_Next_short a1 a2 a3 a4 a5 a6 a7 hp a8 hF, .inr ⟨lo, hi, c, p, l, rfl, ho, hF, a6, a1, a2, a3, a4, a5, a7, .inl ⟨rfl, hp⟩⟩⟩
    · have hgl := a3.1
      obtain ⟨_, t1, t2⟩ := totS_pos hF
      obtain ⟨_, _, f3, f4, _, _⟩ := find_facts a4 a5 (by omega) t1 t2
      obtain ⟨s, hs⟩ := isSym_ex hF f3 f4
      exact ⟨_, coder_Next_ok a1 a2 a3 a4 a5 a6 a7 (by omega) hF hs, r04_Next_ok a1 a2 a3 a4 a5 a6 a7 (by omega) hF hs, .inr ⟨lo, hi, c, p, l, rfl, ho, hF, a6, a1, a2, a3, a4, a5, a7, .inr ⟨s, by omega, hs, rfl⟩⟩⟩
  · exact ⟨_, coder_Next_arg hd hC h, r04_Next_arg hd hC h, .inl ⟨rfl, h⟩⟩
end Go.Sq
/- The coder: All and Back. -/
namespace Go.Sq
open Go.Rx

theorem u32_range (x : Int) : 0 ≤ IntKind.u32.wrap x ∧ IntKind.u32.wrap x < 4294967296 := by
  simp only [IntKind.wrap, IntKind.bits, IntKind.signed]; simp; omega
def zEnc : EncT := (0, (0, (0, ([], 0))))
theorem wfE_zero : wfE zEnc := ⟨by simp [zEnc], by simp [zEnc], fun x hx => (nomatch hx), by simp [zEnc, small]⟩
theorem wfE_pk {lo hi : Int} {w : Int} {l : List Bool} (h1 : 0 ≤ lo ∧ lo < 4294967296) (h2 : 0 ≤ hi ∧ hi < 4294967296) (hl : l.length ≤ 65536) : wfE (lo, (hi, (w, (pk l, (l.length : Int))))) := ⟨h1, h2, pk_bytes l, small_pk hl⟩
theorem doneS_wf {n : Nat} {lo hi : Int} {w : Nat} {l : List Bool} (hl : l.length ≤ 65536) : wfE (doneS (widS n lo hi w l)).2.1 := by
  cases h : widS n lo hi w l with
  | none => exact wfE_zero
  | some r =>
    obtain ⟨lo', hi', w', l'⟩ := r
    have := widS_len hl h
    unfold doneS
    dsimp only
    split
    · exact wfE_zero
    · exact wfE_pk (u32_range _) (u32_range _) this.1
/-- what Put comes to -/
noncomputable def PutF (e : EncT) (C : List Int) (s : Int) : EncT × Int := (g_coder_Put e C s).getD (zEnc, 1)
theorem PutF_same {e : EncT} {C : List Int} {s : Int} (he : wfE e) (hC : small C) (hs : s < 2 ^ 63) : g_coder_Put e C s = some (PutF e C s) ∧ g_r04_Put e C s = some (PutF e C s) ∧ wfE (PutF e C s).1 := by
  obtain ⟨r, h1, h2, h3⟩ := Put_same he hC hs
  have : PutF e C s = r := by unfold PutF; rw [h1]; rfl
  rw [this]
  refine ⟨h1, h2, ?_⟩
  rcases h3 with ⟨rfl, _⟩ | ⟨lo, hi, w, l, _, _, _, _, hl, rfl⟩
  · exact wfE_zero
  · exact doneS_wf hl
noncomputable def EndF (e : EncT) : (List Int × Int) × Int := (g_coder_End e).getD (([], 0), 1)
theorem EndF_same {e : EncT} (he : wfE e) : g_coder_End e = some (EndF e) ∧ g_r04_End e = some (EndF e) := by
  obtain ⟨r, h1, h2, _⟩ := End_same he
  have : EndF e = r := by unfold EndF; rw [h1]; rfl
  rw [this]; exact ⟨h1, h2⟩
/-- one symbol behind the other -/
noncomputable def putAll : List (Int × List Int) → EncT → EncT × Int
  | [], e => (e, 0)
  | x :: r, e => if (PutF e x.2 x.1).2 ≠ 0 then (zEnc, (PutF e x.2 x.1).2) else putAll r (PutF e x.2 x.1).1
def eBegin : EncT := (0, (4294967295, (0, ([], 0))))
theorem wfE_begin : wfE eBegin := ⟨by simp [eBegin], by simp [eBegin], fun x hx => (nomatch hx), by simp [eBegin, small]⟩
noncomputable def allF (l : List Int) (F : List (List Int)) : (List Int × Int) × Int :=
  if l.length ≠ F.length then (([], 0), 1) else if (putAll (l.zip F) eBegin).2 ≠ 0 then (([], 0), (putAll (l.zip F) eBegin).2) else EndF (putAll (l.zip F) eBegin).1
theorem zip_drop {l : List Int} {F : List (List Int)} (h : l.length = F.length) {i : Nat} (hi : i < l.length) : (l.zip F).drop i = (l.getD i 0, F.getD i []) :: (l.zip F).drop (i + 1) := by
  have hz : i < (l.zip F).length := by rw [List.length_zip]; omega
  rw [List.drop_eq_getElem_cons hz]
  congr 1
  rw [List.getElem_zip, List.getD_eq_getElem?_getD, List.getElem?_eq_getElem hi, List.getD_eq_getElem?_getD, List.getElem?_eq_getElem (by omega)]
  rfl
theorem mem_get {F : List (List Int)} {i : Nat} (h : i < F.length) : F.getD i [] ∈ F := by
  rw [List.getD_eq_getElem?_getD, List.getElem?_eq_getElem h]; exact List.getElem_mem h
theorem mem_getI {l : List Int} {i : Nat} (h : i < l.length) : l.getD i 0 ∈ l := by
  rw [List.getD_eq_getElem?_getD, List.getElem?_eq_getElem h]; exact List.getElem_mem h
/-- what a run of Put's leaves -/
def runR (W : EncT × Int) (r : ((List Int × Int) × EncT × Unit) ⊕ (Int × (List Int × Int) × Unit)) : Prop :=
  (∃ e, r = .inl (([], 0), e, ()) ∧ W = (e, 0) ∧ wfE e) ∨ (∃ k, r = .inr (k, ([], 0), ()) ∧ W = (zEnc, k) ∧ k ≠ 0)
theorem coder_run {l : List Int} {F : List (List Int)} (h : l.length = F.length) (hl : small l) (hF : ∀ C ∈ F, small C) (hr : ∀ s ∈ l, s < 2 ^ 63) {e : EncT} (he : wfE e) :
    ∃ r, iter g_coder_All_r1 (F, l, (l.length : Int), 0, ([], 0), e, ()) = some r ∧ runR (putAll (l.zip F) e) r := by
  unfold small at hl
  refine iter_ex (fun x => ((l.length : Int) - x.2.2.2.1).toNat) (fun x => ∃ (i : Nat) (e' : EncT), x = (F, l, (l.length : Int), (i : Int), ([], 0), e', ()) ∧ i ≤ l.length ∧ wfE e' ∧ putAll ((l.zip F).drop i) e' = putAll (l.zip F) e)
    (runR (putAll (l.zip F) e)) ?_ _ ⟨0, e, rfl, Nat.zero_le _, he, rfl⟩
  rintro x ⟨i, ⟨a1, a2, a3, a4, a5⟩, rfl, h1, h2, h3⟩
  by_cases h4 : i < l.length
  · have hp := PutF_same h2 (hF _ (mem_get (i := i) (by omega))) (hr _ (mem_getI h4))
    obtain ⟨p1, _, p3⟩ := hp
    rw [zip_drop h h4, putAll] at h3
    generalize hy : PutF (a1, a2, a3, a4, a5) (F.getD i []) (l.getD i 0) = y at p1 p3 h3
    obtain ⟨⟨y1, y2, y3, y4, y5⟩, k⟩ := y
    by_cases h5 : k ≠ 0
    · right
      refine ⟨_, ?_, .inr ⟨k, rfl, by rw [← h3]; exact if_pos h5, h5⟩⟩
      simp (disch := omega) only [g_coder_All_r1, dT, wT, Int.toNat_natCast, p1, Option.bind_some, nT]
    · have hk : k = 0 := Decidable.not_not.1 h5
      subst hk
      left
      refine ⟨(F, l, (l.length : Int), ((i + 1 : Nat) : Int), ([], 0), (y1, y2, y3, y4, y5), ()), ?_, ⟨i + 1, _, rfl, h4, p3, h3⟩, by simp only; omega⟩
      simp (disch := omega) only [g_coder_All_r1, dT, wT, Int.toNat_natCast, p1, Option.bind_some, nF, wrap_i64]
      rfl
  · right
    have hi : i = l.length := by omega
    rw [List.drop_eq_nil_of_le (by rw [List.length_zip]; omega), putAll] at h3
    refine ⟨_, ?_, .inl ⟨_, rfl, h3.symm, h2⟩⟩
    simp (disch := omega) only [g_coder_All_r1, dF]
theorem r04_run {l : List Int} {F : List (List Int)} (h : l.length = F.length) (hl : small l) (hF : ∀ C ∈ F, small C) (hr : ∀ s ∈ l, s < 2 ^ 63) {e : EncT} (he : wfE e) :
    ∃ r, iter g_r04_All_r1 (F, l, (l.length : Int), 0, ([], 0), e, ()) = some r ∧ runR (putAll (l.zip F) e) r := by
  unfold small at hl
  refine iter_ex (fun x => ((l.length : Int) - x.2.2.2.1).toNat) (fun x => ∃ (i : Nat) (e' : EncT), x = (F, l, (l.length : Int), (i : Int), ([], 0), e', ()) ∧ i ≤ l.length ∧ wfE e' ∧ putAll ((l.zip F).drop i) e' = putAll (l.zip F) e)
    (runR (putAll (l.zip F) e)) ?_ _ ⟨0, e, rfl, Nat.zero_le _, he, rfl⟩
  rintro x ⟨i, ⟨a1, a2, a3, a4, a5⟩, rfl, h1, h2, h3⟩
  by_cases h4 : i < l.length
  · have hp := PutF_same h2 (hF _ (mem_get (i := i) (by omega))) (hr _ (mem_getI h4))
    obtain ⟨_, p1, p3⟩ := hp
    rw [zip_drop h h4, putAll] at h3
    generalize hy : PutF (a1, a2, a3, a4, a5) (F.getD i []) (l.getD i 0) = y at p1 p3 h3
    obtain ⟨⟨y1, y2, y3, y4, y5⟩, k⟩ := y
    by_cases h5 : k ≠ 0
    · right
      refine ⟨_, ?_, .inr ⟨k, rfl, by rw [← h3]; exact if_pos h5, h5⟩⟩
      simp (disch := omega) only [g_r04_All_r1, dT, wT, Int.toNat_natCast, p1, Option.bind_some, nT]
    · have hk : k = 0 := Decidable.not_not.1 h5
      subst hk
      left
      refine ⟨(F, l, (l.length : Int), ((i + 1 : Nat) : Int), ([], 0), (y1, y2, y3, y4, y5), ()), ?_, ⟨i + 1, _, rfl, h4, p3, h3⟩, by simp only; omega⟩
      simp (disch := omega) only [g_r04_All_r1, dT, wT, Int.toNat_natCast, p1, Option.bind_some, nF, wrap_i64]
      rfl
  · right
    have hi : i = l.length := by omega
    rw [List.drop_eq_nil_of_le (by rw [List.length_zip]; omega), putAll] at h3
    refine ⟨_, ?_, .inl ⟨_, rfl, h3.symm, h2⟩⟩
    simp (disch := omega) only [g_r04_All_r1, dF]
theorem All_same {l : List Int} {F : List (List Int)} (hl : small l) (hl2 : small F) (hF : ∀ C ∈ F, small C) (hr : ∀ s ∈ l, s < 2 ^ 63) : g_coder_All l F = some (allF l F) ∧ g_r04_All l F = some (allF l F) := by
  unfold allF
  unfold small at hl hl2
  by_cases h : l.length = F.length
  · rw [if_neg (by omega)]
    obtain ⟨r, h1, h2⟩ := coder_run h hl hF hr wfE_begin
    obtain ⟨r', h1', h2'⟩ := r04_run h hl hF hr wfE_begin
    have b1 : g_coder_Begin = some eBegin := rfl
    have b2 : g_r04_Begin = some eBegin := rfl
    constructor
    · rcases h2 with ⟨⟨e1, e2, e3, e4, e5⟩, rfl, hW, he⟩ | ⟨k, rfl, hW, hk⟩
      · rw [hW, if_neg (by simp)]
        have := (EndF_same he).1
        simp (disch := omega) only [g_coder_All, nF, b1, Option.bind_some]
        rw [show (eBegin.1, eBegin.2.1, eBegin.2.2.1, eBegin.2.2.2.1, eBegin.2.2.2.2) = eBegin from rfl, h1]
        simp only [Option.bind_some, this]
      · rw [hW, if_pos hk]
        simp (disch := omega) only [g_coder_All, nF, b1, Option.bind_some]
        rw [show (eBegin.1, eBegin.2.1, eBegin.2.2.1, eBegin.2.2.2.1, eBegin.2.2.2.2) = eBegin from rfl, h1]
        simp only [Option.bind_some]
    · rcases h2' with ⟨⟨e1, e2, e3, e4, e5⟩, rfl, hW, he⟩ | ⟨k, rfl, hW, hk⟩
      · rw [hW, if_neg (by simp)]
        have := (EndF_same he).2
        simp (disch := omega) only [g_r04_All, nF, b2, Option.bind_some]
        rw [show (eBegin.1, eBegin.2.1, eBegin.2.2.1, eBegin.2.2.2.1, eBegin.2.2.2.2) = eBegin from rfl, h1']
        simp only [Option.bind_some, this]
      · rw [hW, if_pos hk]
        simp (disch := omega) only [g_r04_All, nF, b2, Option.bind_some]
        rw [show (eBegin.1, eBegin.2.1, eBegin.2.2.1, eBegin.2.2.2.1, eBegin.2.2.2.2) = eBegin from rfl, h1']
        simp only [Option.bind_some]
  · rw [if_pos h]
    simp (disch := omega) only [g_coder_All, g_r04_All, nT, and_self]
end Go.Sq
/- The coder: Back. -/
namespace Go.Sq
open Go.Rx

theorem wfD_zero : wfD zDec := ⟨by simp [zDec], by simp [zDec], by simp [zDec], fun x hx => (nomatch hx), by simp [zDec, small]⟩
theorem nextR_wf {lo hi c : Int} {p : Nat} {l : List Bool} {C : List Int} {s : Nat} (hl : l.length ≤ 65536) : wfD (nextR lo hi c p l C s).1 := ⟨u32_range _, u32_range _, u32_range _, pk_bytes l, small_pk hl⟩
noncomputable def NextF (d : DecT) (C : List Int) : DecT × Int × Int := (g_coder_Next d C).getD (zDec, (0, 1))
theorem NextF_same {d : DecT} {C : List Int} (hd : wfD d) (hC : small C) : g_coder_Next d C = some (NextF d C) ∧ g_r04_Next d C = some (NextF d C) ∧ wfD (NextF d C).1 := by
  obtain ⟨r, h1, h2, h3⟩ := Next_same hd hC
  have : NextF d C = r := by unfold NextF; rw [h1]; rfl
  rw [this]
  refine ⟨h1, h2, ?_⟩
  rcases h3 with ⟨rfl, _⟩ | ⟨lo, hi, c, p, l, _, _, _, hl, _, _, _, _, _, _, ⟨rfl, _⟩ | ⟨s, _, _, rfl⟩⟩
  · exact wfD_zero
  · exact wfD_zero
  · exact nextR_wf hl
noncomputable def StartF (b : List Int × Int) : DecT × Int := (g_coder_Start b).getD (zDec, 1)
theorem StartF_same {B : List Int} {N : Int} (hB : bytes B) (hs : small B) : g_coder_Start (B, N) = some (StartF (B, N)) ∧ g_r04_Start (B, N) = some (StartF (B, N)) ∧ wfD (StartF (B, N)).1 := by
  obtain ⟨r, h1, h2, h3⟩ := Start_same (N := N) hB hs
  have : StartF (B, N) = r := by unfold StartF; rw [h1]; rfl
  rw [this]
  refine ⟨h1, h2, ?_⟩
  rcases h3 with ⟨rfl, _⟩ | ⟨l, hl, _, _, rfl⟩
  · exact wfD_zero
  · exact ⟨by simp, by simp, codeS_lt l (by omega), pk_bytes l, small_pk hl⟩
/-- one symbol behind the other -/
noncomputable def backS : List (List Int) → DecT → List Int → List Int × Int
  | [], _, acc => (acc, 0)
  | C :: r, d, acc => if (NextF d C).2.2 ≠ 0 then ([], (NextF d C).2.2) else backS r (NextF d C).1 (acc ++ [(NextF d C).2.1])
noncomputable def backF (b : List Int × Int) (F : List (List Int)) : List Int × Int :=
  if (StartF b).2 ≠ 0 then ([], (StartF b).2) else backS F (StartF b).1 []
theorem drop_get {F : List (List Int)} {i : Nat} (hi : i < F.length) : F.drop i = F.getD i [] :: F.drop (i + 1) := by
  rw [List.drop_eq_getElem_cons hi]
  congr 1
  rw [List.getD_eq_getElem?_getD, List.getElem?_eq_getElem hi]
  rfl
theorem coder_back {F : List (List Int)} (hF : F.length ≤ 1000) (hC : ∀ C ∈ F, small C) {d : DecT} (hd : wfD d) :
    ∃ r, iter g_coder_Back_r1 (0, [], F, (F.length : Int), 0, d, ()) = some r ∧ ((backS F d []).2 = 0 ∧ r = (0, (backS F d []).1, ()) ∨ (backS F d []).2 ≠ 0 ∧ (backS F d []).1 = [] ∧ r.1 = (backS F d []).2) := by
  refine iter_ex (fun x => (2 * ((F.length : Int) - x.2.2.2.2.1) + if x.1 = 0 then 1 else 0).toNat)
    (fun x => ∃ (i : Nat) (d' : DecT) (acc : List Int), i ≤ F.length ∧ acc.length = i ∧ ((x = (0, acc, F, (F.length : Int), (i : Int), d', ()) ∧ wfD d' ∧ backS (F.drop i) d' acc = backS F d []) ∨
      (∃ k, k ≠ 0 ∧ x = (k, acc, F, (F.length : Int), (i : Int), d', ()) ∧ backS F d [] = ([], k))))
    (fun r => (backS F d []).2 = 0 ∧ r = (0, (backS F d []).1, ()) ∨ (backS F d []).2 ≠ 0 ∧ (backS F d []).1 = [] ∧ r.1 = (backS F d []).2) ?_ _ ⟨0, d, [], Nat.zero_le _, rfl, .inl ⟨rfl, hd, rfl⟩⟩
  rintro x ⟨i, ⟨d1, d2, d3, ⟨d4, d5⟩, d6⟩, acc, h1, h2, ⟨rfl, h3, h4⟩ | ⟨k, hk, rfl, h4⟩⟩
  · by_cases h5 : i < F.length
    · obtain ⟨p1, _, p3⟩ := NextF_same h3 (hC _ (mem_get h5))
      rw [drop_get h5, backS] at h4
      generalize hy : NextF (d1, d2, d3, (d4, d5), d6) (F.getD i []) = y at p1 p3 h4
      obtain ⟨⟨y1, y2, y3, ⟨y4, y5⟩, y6⟩, s, k⟩ := y
      left
      refine ⟨(k, acc ++ [s], F, (F.length : Int), ((i + 1 : Nat) : Int), (y1, y2, y3, (y4, y5), y6), ()), ?_, ⟨i + 1, (y1, y2, y3, (y4, y5), y6), acc ++ [s], h5, by simp [h2], ?_⟩, by simp only; split <;> omega⟩
      · have hroom : room 8 (acc ++ [s]).length = true := room_iff.2 (by simp; omega)
        simp (disch := omega) only [g_coder_Back_r1, dT, wT, nF, Int.toNat_natCast, p1, Option.bind_some, hroom, cond_true, wrap_i64]
        rfl
      · by_cases h6 : k = 0
        · subst h6
          exact .inl ⟨rfl, p3, h4⟩
        · refine .inr ⟨k, h6, rfl, ?_⟩
          rw [← h4]; exact if_pos h6
    · right
      rw [List.drop_eq_nil_of_le (by omega), backS] at h4
      refine ⟨_, ?_, .inl ⟨by rw [← h4], rfl⟩⟩
      rw [← h4]
      simp (disch := omega) only [g_coder_Back_r1, dF]
  · right
    by_cases h5 : i < F.length
    · refine ⟨(k, acc, ()), ?_, .inr ⟨by rw [h4]; exact hk, by rw [h4], by rw [h4]⟩⟩
      simp (disch := omega) only [g_coder_Back_r1, dT, wT, nT]
    · refine ⟨(k, acc, ()), ?_, .inr ⟨by rw [h4]; exact hk, by rw [h4], by rw [h4]⟩⟩
      simp (disch := omega) only [g_coder_Back_r1, dF]
theorem r04_back {F : List (List Int)} (hF : F.length ≤ 1000) (hC : ∀ C ∈ F, small C) {d : DecT} (hd : wfD d) :
    ∃ r, iter g_r04_Back_r1 ([], F, (F.length : Int), 0, d, ()) = some r ∧ ((backS F d []).2 = 0 ∧ r = .inl ((backS F d []).1, ()) ∨ r = .inr ((backS F d []).1, (backS F d []).2, ())) := by
  refine iter_ex (fun x => ((F.length : Int) - x.2.2.2.1).toNat)
    (fun x => ∃ (i : Nat) (d' : DecT) (acc : List Int), i ≤ F.length ∧ acc.length = i ∧ x = (acc, F, (F.length : Int), (i : Int), d', ()) ∧ wfD d' ∧ backS (F.drop i) d' acc = backS F d [])
    (fun r => (backS F d []).2 = 0 ∧ r = (.inl ((backS F d []).1, ()) : (List Int × Unit) ⊕ (List Int × Int × Unit)) ∨ r = .inr ((backS F d []).1, (backS F d []).2, ())) ?_ _ ⟨0, d, [], Nat.zero_le _, rfl, rfl, hd, rfl⟩
  rintro x ⟨i, ⟨d1, d2, d3, ⟨d4, d5⟩, d6⟩, acc, h1, h2, rfl, h3, h4⟩
  by_cases h5 : i < F.length
  · obtain ⟨_, p1, p3⟩ := NextF_same h3 (hC _ (mem_get h5))
    rw [drop_get h5, backS] at h4
    generalize hy : NextF (d1, d2, d3, (d4, d5), d6) (F.getD i []) = y at p1 p3 h4
    obtain ⟨⟨y1, y2, y3, ⟨y4, y5⟩, y6⟩, s, k⟩ := y
    by_cases h6 : k = 0
    · subst h6
      left
      refine ⟨(acc ++ [s], F, (F.length : Int), ((i + 1 : Nat) : Int), (y1, y2, y3, (y4, y5), y6), ()), ?_, ⟨i + 1, _, acc ++ [s], h5, by simp [h2], rfl, p3, h4⟩, by simp only; omega⟩
      have hroom : room 8 (acc ++ [s]).length = true := room_iff.2 (by simp; omega)
      simp (disch := omega) only [g_r04_Back_r1, dT, wT, nF, Int.toNat_natCast, p1, Option.bind_some, hroom, cond_true, wrap_i64]
      rfl
    · right
      have h4 : ([], k) = backS F d [] := by rw [← h4]; exact (if_pos h6).symm
      refine ⟨_, ?_, .inr rfl⟩
      rw [← h4]
      simp (disch := omega) only [g_r04_Back_r1, dT, wT, nT, Int.toNat_natCast, p1, Option.bind_some]
  · right
    rw [List.drop_eq_nil_of_le (by omega), backS] at h4
    refine ⟨_, ?_, .inl ⟨by rw [← h4], rfl⟩⟩
    rw [← h4]
    simp (disch := omega) only [g_r04_Back_r1, dF]
theorem Back_same {B : List Int} {N : Int} {F : List (List Int)} (hB : bytes B) (hs : small B) (hF : F.length ≤ 1000) (hC : ∀ C ∈ F, small C) : g_coder_Back (B, N) F = some (backF (B, N) F) ∧ g_r04_Back (B, N) F = some (backF (B, N) F) := by
  obtain ⟨s1, s2, s3⟩ := StartF_same (N := N) hB hs
  unfold backF
  generalize hy : StartF (B, N) = y at s1 s2 s3
  obtain ⟨⟨y1, y2, y3, ⟨y4, y5⟩, y6⟩, k⟩ := y
  by_cases hk : k = 0
  · subst hk
    rw [if_neg (by simp)]
    obtain ⟨r, h1, h2⟩ := coder_back hF hC s3
    obtain ⟨r', h1', h2'⟩ := r04_back hF hC s3
    constructor
    · simp only [g_coder_Back, s1, Option.bind_some, h1]
      rcases h2 with ⟨h3, rfl⟩ | ⟨h3, h4, h5⟩
      · simp (disch := omega) only [nF]
        congr 1
        exact Prod.ext rfl h3.symm
      · rw [h5, nT h3]
        congr 1
        exact Prod.ext h4.symm rfl
    · simp (disch := omega) only [g_r04_Back, s2, Option.bind_some, nF, h1']
      rcases h2' with ⟨h3, rfl⟩ | rfl
      · simp only []
        congr 1
        exact Prod.ext rfl h3.symm
      · rfl
  · rw [if_pos hk]
    constructor
    · cases F with
      | nil =>
        have : iter g_coder_Back_r1 (k, [], [], ((([] : List (List Int)).length : Nat) : Int), 0, (y1, y2, y3, (y4, y5), y6), ()) = some (k, [], ()) := by
          apply iter_inr
          simp (disch := simp) only [g_coder_Back_r1, dF]
        simp (disch := omega) only [g_coder_Back, s1, Option.bind_some, this, nT]
      | cons C F =>
        have : iter g_coder_Back_r1 (k, [], C :: F, (((C :: F).length : Nat) : Int), 0, (y1, y2, y3, (y4, y5), y6), ()) = some (k, [], ()) := by
          apply iter_inr
          have hlen : (C :: F).length = F.length + 1 := by simp
          simp (disch := omega) only [g_coder_Back_r1, dT, wT, nT]
        simp (disch := omega) only [g_coder_Back, s1, Option.bind_some, this, nT]
    · simp (disch := omega) only [g_r04_Back, s2, Option.bind_some, nT]
/-- equal lists -/
theorem Equal_eq {a b : List Int} (ha : small a) (hb : small b) : g_r03_Equal a b = some (decide (a = b)) := by
  unfold small at ha hb
  by_cases h : a.length = b.length
  · have loop : ∃ r, iter g_r03_Equal_r1 (a, b, (a.length : Int), 0, ()) = some r ∧ ((r = (.inl () : Unit ⊕ (Bool × Unit)) ∧ a = b) ∨ (r = .inr (false, ()) ∧ a ≠ b)) := by
      refine iter_ex (fun x => ((a.length : Int) - x.2.2.2.1).toNat) (fun x => ∃ i : Nat, x = (a, b, (a.length : Int), (i : Int), ()) ∧ i ≤ a.length ∧ ∀ j, j < i → a.getD j 0 = b.getD j 0)
        (fun r => (r = (.inl () : Unit ⊕ (Bool × Unit)) ∧ a = b) ∨ (r = .inr (false, ()) ∧ a ≠ b)) ?_ _ ⟨0, rfl, Nat.zero_le _, fun j hj => by omega⟩
      rintro x ⟨i, rfl, h1, h2⟩
      by_cases h3 : i < a.length
      · by_cases h4 : a.getD i 0 = b.getD i 0
        · left
          refine ⟨(a, b, (a.length : Int), ((i + 1 : Nat) : Int), ()), ?_, ⟨i + 1, rfl, h3, fun j hj => ?_⟩, by simp only; omega⟩
          · simp (disch := omega) only [g_r03_Equal_r1, dT, wT, Int.toNat_natCast, nF, wrap_i64]
            rfl
          · rcases Nat.lt_or_eq_of_le (Nat.lt_succ_iff.1 hj) with h | rfl
            · exact h2 j h
            · exact h4
        · right
          refine ⟨_, ?_, .inr ⟨rfl, fun e => h4 (by rw [e])⟩⟩
          simp (disch := omega) only [g_r03_Equal_r1, dT, wT, Int.toNat_natCast, nT]
      · right
        refine ⟨_, ?_, .inl ⟨rfl, ext_getD h fun k hk => h2 k (by omega)⟩⟩
        simp (disch := omega) only [g_r03_Equal_r1, dF]
    obtain ⟨r, h1, h2⟩ := loop
    rcases h2 with ⟨rfl, h2⟩ | ⟨rfl, h2⟩
    · rw [decide_eq_true h2]
      simp (disch := omega) only [g_r03_Equal, nF, h1, Option.bind_some]
    · rw [decide_eq_false h2]
      simp (disch := omega) only [g_r03_Equal, nF, h1, Option.bind_some]
  · rw [decide_eq_false (fun e => h (by rw [e]))]
    simp (disch := omega) only [g_r03_Equal, nT]
end Go.Sq
/- The chapter's example. -/
namespace Go.Sq
open Go.Rx

def exC : List Int := [0, 1, 4]
theorem exC_ok : okF exC := by
  refine ⟨by decide, by decide, rfl, by decide, fun i hi => ?_⟩
  have : i = 0 ∨ i = 1 := by simp [exC] at hi; omega
  rcases this with rfl | rfl <;> decide
theorem exC_tot : totS exC = 4 := by rw [(totS_pos exC_ok).1]; rfl
theorem PutF_ok {lo hi : Int} {w : Nat} {l : List Bool} {C : List Int} {s : Int} (hlo : 0 ≤ lo) (hhi : hi < 4294967296) (hg : goodP lo hi) (hw : w ≤ 65536) (hl : l.length ≤ 65536) (hs : okSpan C s) :
    PutF (lo, (hi, ((w : Int), (pk l, (l.length : Int))))) C s = putR lo hi w l C s := by
  unfold PutF; rw [coder_Put_ok hlo hhi hg hw hl hs]; rfl
theorem putR_eq {lo hi t lo' hi' : Int} {w w' : Nat} {l l' : List Bool} {C : List Int} {s : Int} (ht : totS C = t) (hW : widS 33 (narL lo hi (C.getD s.toNat 0) t) (narH lo hi (C.getD (s.toNat + 1) 0) t) w l = some (lo', hi', w', l'))
    (hw : w' ≤ 65536) (h1 : 0 ≤ lo' ∧ lo' < 4294967296) (h2 : 0 ≤ hi' ∧ hi' < 4294967296) : putR lo hi w l C s = ((lo', (hi', ((w' : Int), (pk l', (l'.length : Int))))), 0) := by
  unfold putR
  rw [ht, hW]
  unfold doneS flip3
  dsimp only
  rw [if_neg (by omega), wrap_u32 h1.1 h1.2, wrap_u32 h2.1 h2.2]
theorem NextF_ok {lo hi c : Int} {p : Nat} {l : List Bool} {C : List Int} {s : Nat} (hlo : 0 ≤ lo) (hhi : hi < 4294967296) (hg : goodP lo hi) (hc1 : lo ≤ c) (hc2 : c ≤ hi) (hl : l.length ≤ 65536)
    (hp1 : 32 ≤ p) (hp2 : p ≤ l.length + 32) (hF : okF C) (hs : isSym C (findX lo hi c (totS C)) s) : NextF (lo, (hi, (c, ((pk l, (l.length : Int)), (p : Int))))) C = nextR lo hi c p l C s := by
  unfold NextF; rw [coder_Next_ok hlo hhi hg hc1 hc2 hl hp1 hp2 hF hs]; rfl
theorem nextR_eq {lo hi c t lo' hi' c' : Int} {p p' : Nat} {l : List Bool} {C : List Int} {s : Nat} (ht : totS C = t) (hW : decS 33 (narL lo hi (C.getD s 0) t) (narH lo hi (C.getD (s + 1) 0) t) c p l = (lo', hi', c', p'))
    (h1 : 0 ≤ lo' ∧ lo' < 4294967296) (h2 : 0 ≤ hi' ∧ hi' < 4294967296) (h3 : 0 ≤ c' ∧ c' < 4294967296) : nextR lo hi c p l C s = ((lo', (hi', (c', ((pk l, (l.length : Int)), (p' : Int))))), ((s : Int), 0)) := by
  unfold nextR
  rw [ht, hW]
  dsimp only
  rw [wrap_u32 h1.1 h1.2, wrap_u32 h2.1 h2.2, wrap_u32 h3.1 h3.2]
def exL : List Bool := [false, true, false, true]
theorem ex_span (s : Int) (h0 : 0 ≤ s) (h1 : s ≤ 1) : okSpan exC s := ⟨exC_ok, h0, by simp [exC]; omega⟩
theorem eBegin_eq : eBegin = (0, (4294967295, (((0 : Nat) : Int), (pk [], ((([] : List Bool).length : Nat) : Int))))) := rfl
theorem ex_put1 : PutF eBegin exC 1 = ((1073741824, (4294967295, (((0 : Nat) : Int), (pk [], ((([] : List Bool).length : Nat) : Int))))), 0) := by
  rw [eBegin_eq, PutF_ok (by decide) (by decide) (by decide) (by decide) (by decide) (ex_span 1 (by decide) (by decide))]
  exact putR_eq exC_tot (by kernel_rfl) (by decide) (by decide) (by decide)
theorem ex_put2 : PutF (1073741824, (4294967295, (((0 : Nat) : Int), (pk [], ((([] : List Bool).length : Nat) : Int))))) exC 0 = ((0, (3221225471, (((0 : Nat) : Int), (pk [false, true], ((([false, true] : List Bool).length : Nat) : Int))))), 0) := by
  rw [PutF_ok (by decide) (by decide) (by decide) (by decide) (by decide) (ex_span 0 (by decide) (by decide))]
  exact putR_eq exC_tot (by kernel_rfl) (by decide) (by decide) (by decide)
theorem ex_put3 : PutF (0, (3221225471, (((0 : Nat) : Int), (pk [false, true], ((([false, true] : List Bool).length : Nat) : Int))))) exC 1 = ((805306368, (3221225471, (((0 : Nat) : Int), (pk [false, true], ((([false, true] : List Bool).length : Nat) : Int))))), 0) := by
  rw [PutF_ok (by decide) (by decide) (by decide) (by decide) (by decide) (ex_span 1 (by decide) (by decide))]
  exact putR_eq exC_tot (by kernel_rfl) (by decide) (by decide) (by decide)
theorem EndF_ok {lo hi : Int} {w : Nat} {l : List Bool} (hlo : 0 ≤ lo) (hhi : hi < 4294967296) (hg : goodP lo hi) (hw : w ≤ 65536) (hl : l.length ≤ 65536) :
    EndF (lo, (hi, ((w : Int), (pk l, (l.length : Int))))) = outS l (decide (1073741824 ≤ lo)) (w + 1) := by
  unfold EndF; rw [coder_End_ok hlo hhi hg hw hl]; rfl
theorem ex_all : allF [1, 0, 1] [exC, exC, exC] = ((pk exL, 4), 0) := by
  have h : putAll (([1, 0, 1] : List Int).zip [exC, exC, exC]) eBegin = ((805306368, (3221225471, (((0 : Nat) : Int), (pk [false, true], ((([false, true] : List Bool).length : Nat) : Int))))), 0) := by
    show putAll [(1, exC), (0, exC), (1, exC)] eBegin = _
    simp only [putAll, ex_put1, ex_put2, ex_put3]
    simp
  unfold allF
  rw [if_neg (by simp), h, if_neg (by simp)]
  show EndF (805306368, (3221225471, (((0 : Nat) : Int), (pk [false, true], ((([false, true] : List Bool).length : Nat) : Int))))) = _
  rw [EndF_ok (by decide) (by decide) (by decide) (by decide) (by decide)]
  rfl
theorem ex_none : allF [] [] = (([64], 2), 0) := by
  unfold allF
  rw [if_neg (by simp)]
  show (if (eBegin, (0 : Int)).2 ≠ 0 then _ else EndF eBegin) = _
  rw [if_neg (by simp), eBegin_eq, EndF_ok (by decide) (by decide) (by decide) (by decide) (by decide)]
  kernel_rfl
theorem ex_new : g_freq_New [1, 3] = some (exC, 0) := by
  have i1 : iter g_freq_New_r1 ([1, 3], [1, 3], ((([1, 3] : List Int).length : Nat) : Int), 0, [], (List.replicate 1 (0 : Int)), ()) = some (.inl ([1, 3], [], exC, ())) := by
    rw [iter_inl (y := ([1, 3], [1, 3], ((([1, 3] : List Int).length : Nat) : Int), 1, [], [0, 1], ())) (by kernel_rfl)]
    rw [iter_inl (y := ([1, 3], [1, 3], ((([1, 3] : List Int).length : Nat) : Int), 2, [], [0, 1, 4], ())) (by kernel_rfl)]
    exact iter_inr (by kernel_rfl)
  have : g_freq_New [1, 3] = (iter g_freq_New_r1 ([1, 3], [1, 3], ((([1, 3] : List Int).length : Nat) : Int), 0, [], (List.replicate 1 (0 : Int)), ())).bind fun j5 =>
    (match j5 with
    | .inl j6 => (bif ((j6.1.length : Int) == 0) then some ([], 1) else some (j6.2.2.1, 0))
    | .inr j7 => (some (j7.2.1, j7.1))) := by kernel_rfl
  rw [this, i1]
  rfl
theorem ex_start : StartF (pk exL, 4) = ((0, (4294967295, (1342177280, ((pk exL, ((exL.length : Nat) : Int)), ((32 : Nat) : Int))))), 0) := by
  unfold StartF
  have h := coder_Start_ok (l := exL) (by decide)
  have hc : codeS exL 32 = 1342177280 := by kernel_rfl
  rw [hc] at h
  rw [show (pk exL, (4 : Int)) = (pk exL, ((exL.length : Nat) : Int)) from rfl, h]
  rfl
theorem ex_sym (x : Int) (s : Nat) (h : s + 1 < 3 ∧ exC.getD s 0 ≤ x ∧ x < exC.getD (s + 1) 0) : isSym exC x s := h
theorem ex_next1 : NextF (0, (4294967295, (1342177280, ((pk exL, ((exL.length : Nat) : Int)), ((32 : Nat) : Int))))) exC = ((1073741824, (4294967295, (1342177280, ((pk exL, ((exL.length : Nat) : Int)), ((32 : Nat) : Int))))), (((1 : Nat) : Int), 0)) := by
  rw [NextF_ok (s := 1) (by decide) (by decide) (by decide) (by decide) (by decide) (by decide) (by decide) (by decide) exC_ok (by rw [exC_tot]; exact ex_sym _ _ (by decide))]
  exact nextR_eq exC_tot (by kernel_rfl) (by decide) (by decide) (by decide)
theorem ex_next2 : NextF (1073741824, (4294967295, (1342177280, ((pk exL, ((exL.length : Nat) : Int)), ((32 : Nat) : Int))))) exC = ((0, (3221225471, (1073741824, ((pk exL, ((exL.length : Nat) : Int)), ((34 : Nat) : Int))))), (((0 : Nat) : Int), 0)) := by
  rw [NextF_ok (s := 0) (by decide) (by decide) (by decide) (by decide) (by decide) (by decide) (by decide) (by decide) exC_ok (by rw [exC_tot]; exact ex_sym _ _ (by decide))]
  exact nextR_eq exC_tot (by kernel_rfl) (by decide) (by decide) (by decide)
theorem ex_next3 : NextF (0, (3221225471, (1073741824, ((pk exL, ((exL.length : Nat) : Int)), ((34 : Nat) : Int))))) exC = ((805306368, (3221225471, (1073741824, ((pk exL, ((exL.length : Nat) : Int)), ((34 : Nat) : Int))))), (((1 : Nat) : Int), 0)) := by
  rw [NextF_ok (s := 1) (by decide) (by decide) (by decide) (by decide) (by decide) (by decide) (by decide) (by decide) exC_ok (by rw [exC_tot]; exact ex_sym _ _ (by decide))]
  exact nextR_eq exC_tot (by kernel_rfl) (by decide) (by decide) (by decide)
theorem ex_back : backF (pk exL, 4) [exC, exC, exC] = ([1, 0, 1], 0) := by
  unfold backF
  rw [ex_start]
  simp only [ne_eq, not_true_eq_false, if_false, backS, ex_next1, ex_next2, ex_next3]
  rfl
theorem ex_small : ∀ C ∈ [exC, exC, exC], small C := by
  intro C hC
  have : C = exC := by simpa using hC
  subst this; simp [small, exC]
theorem live_eq : g_law04_live = some true := by
  have a1 := (All_same (l := []) (F := []) (by simp [small]) (by simp [small]) (fun C h => (nomatch h)) (fun s h => (nomatch h))).1
  rw [ex_none] at a1
  have a2 := (All_same (l := [1, 0, 1]) (F := [exC, exC, exC]) (by simp [small]) (by simp [small]) ex_small (fun s h => by
    have : s = 1 ∨ s = 0 ∨ s = 1 := by simpa using h
    omega)).1
  rw [ex_all] at a2
  have a3 := (Back_same (B := pk exL) (N := 4) (F := [exC, exC, exC]) (pk_bytes _) (small_pk (by decide)) (by decide) ex_small).1
  rw [ex_back] at a3
  have a4 := Equal_eq (a := [1, 0, 1]) (b := [1, 0, 1]) (by simp [small]) (by simp [small])
  have hw : within 0 ([64] : List Int).length = true := rfl
  simp only [g_law04_live, a1, ex_new, a2, a3, a4, Option.bind_some, hw, beq_self_eq_true, cond_true, decide_true, List.length_singleton, List.getD_cons_zero]
  rfl
end Go.Sq
/- Three laws of the coder: what it puts, what it has next, all of it. -/
namespace Go.Sq
open Go.Rx

theorem few_one {B : List Int} {N : Int} {C : List Int} (hB : small B) : g_law04_few (B, N) [C] = some (decide (C.length ≤ 400 ∧ B.length ≤ 9000)) := by
  rw [few_eq (by simp [small]) hB]
  congr 1
  rw [decide_eq_decide]
  constructor
  · rintro ⟨h1, h2, _⟩; exact ⟨h1 C (by simp), h2⟩
  · rintro ⟨h1, h2⟩; exact ⟨fun D hD => by simp at hD; subst hD; exact h1, h2, by simp⟩
theorem few_none {B : List Int} {N : Int} (hB : small B) : g_law04_few (B, N) [] = some (decide (B.length ≤ 9000)) := by
  rw [few_eq (by simp [small]) hB]
  congr 1
  rw [decide_eq_decide]
  constructor
  · rintro ⟨_, h2, _⟩; exact h2
  · intro h; exact ⟨fun D hD => (nomatch hD), h, by simp⟩
theorem Copy_small {B : List Int} {N : Int} (h : B.length ≤ 9000) : g_r01_Copy (B, N) = some (B, N) := by
  simp (disch := omega) only [g_r01_Copy, rT]
theorem puts_loop1 {u : Bool} {a : EncT} {b : List Int × Int} {x : EncT} {c : List Int × Int} (hx : small x.2.2.2.1) :
    iter g_law04_CoderPuts_r1 (u, (x.2.2.2.1.length : Int), 0, a, b, x, c, ()) = some (u, a, b, c, ()) := by
  obtain ⟨a1, a2, a3, a4, a5⟩ := a
  obtain ⟨b1, b2⟩ := b
  obtain ⟨x1, x2, x3, x4, x5⟩ := x
  obtain ⟨c1, c2⟩ := c
  have hx : x4.length ≤ 9223372036854775807 := hx
  obtain ⟨r, h1, h2⟩ := iter_ex (f := g_law04_CoderPuts_r1) (fun s => ((x4.length : Int) - s.2.2.1).toNat)
    (fun s => ∃ (i : Nat) (y : List Int), s = (u, (x4.length : Int), (i : Int), (a1, a2, a3, a4, a5), (b1, b2), (x1, x2, x3, y, x5), (c1, c2), ()) ∧ i ≤ x4.length ∧ y.length = x4.length)
    (fun r => r = (u, (a1, a2, a3, a4, a5), (b1, b2), (c1, c2), ())) (by
      rintro s ⟨i, y, rfl, h1, h2⟩
      by_cases h3 : i < x4.length
      · left
        refine ⟨(u, (x4.length : Int), ((i + 1 : Nat) : Int), (a1, a2, a3, a4, a5), (b1, b2), (x1, x2, x3, y.set i (IntKind.u8.wrap (y.getD i 0 + 1)), x5), (c1, c2), ()), ?_, ⟨i + 1, _, rfl, h3, by simp [h2]⟩, by simp only; omega⟩
        simp (disch := omega) only [g_law04_CoderPuts_r1, dT, wT, wrap_i64, Int.toNat_natCast]
        rfl
      · right
        refine ⟨_, ?_, rfl⟩
        simp (disch := omega) only [g_law04_CoderPuts_r1, dF]) (u, (x4.length : Int), 0, (a1, a2, a3, a4, a5), (b1, b2), (x1, x2, x3, x4, x5), (c1, c2), ()) ⟨0, x4, rfl, Nat.zero_le _, rfl⟩
  show iter g_law04_CoderPuts_r1 (u, (x4.length : Int), 0, (a1, a2, a3, a4, a5), (b1, b2), (x1, x2, x3, x4, x5), (c1, c2), ()) = _
  rw [h1, h2]
theorem puts_loop2 {u : Bool} {a : EncT} {b : List Int × Int} {c : List Int × Int} (hx : small c.1) :
    iter g_law04_CoderPuts_r2 (u, (c.1.length : Int), 0, a, b, c, ()) = some (u, a, b, ()) := by
  obtain ⟨a1, a2, a3, a4, a5⟩ := a
  obtain ⟨b1, b2⟩ := b
  obtain ⟨x4, x5⟩ := c
  have hx : x4.length ≤ 9223372036854775807 := hx
  obtain ⟨r, h1, h2⟩ := iter_ex (f := g_law04_CoderPuts_r2) (fun s => ((x4.length : Int) - s.2.2.1).toNat)
    (fun s => ∃ (i : Nat) (y : List Int), s = (u, (x4.length : Int), (i : Int), (a1, a2, a3, a4, a5), (b1, b2), (y, x5), ()) ∧ i ≤ x4.length ∧ y.length = x4.length)
    (fun r => r = (u, (a1, a2, a3, a4, a5), (b1, b2), ())) (by
      rintro s ⟨i, y, rfl, h1, h2⟩
      by_cases h3 : i < x4.length
      · left
        refine ⟨(u, (x4.length : Int), ((i + 1 : Nat) : Int), (a1, a2, a3, a4, a5), (b1, b2), (y.set i (IntKind.u8.wrap (y.getD i 0 + 1)), x5), ()), ?_, ⟨i + 1, _, rfl, h3, by simp [h2]⟩, by simp only; omega⟩
        simp (disch := omega) only [g_law04_CoderPuts_r2, dT, wT, wrap_i64, Int.toNat_natCast]
        rfl
      · right
        refine ⟨_, ?_, rfl⟩
        simp (disch := omega) only [g_law04_CoderPuts_r2, dF]) (u, (x4.length : Int), 0, (a1, a2, a3, a4, a5), (b1, b2), (x4, x5), ()) ⟨0, x4, rfl, Nat.zero_le _, rfl⟩
  show iter g_law04_CoderPuts_r2 (u, (x4.length : Int), 0, (a1, a2, a3, a4, a5), (b1, b2), (x4, x5), ()) = _
  rw [h1, h2]
theorem EndF_small {e : EncT} (he : wfE e) : small (EndF e).1.1 := by
  obtain ⟨r, h1, _, h3⟩ := End_same he
  have : EndF e = r := by unfold EndF; rw [h1]; rfl
  rw [this]
  rcases h3 with ⟨rfl, _⟩ | ⟨lo, hi, w, l, _, _, _, _, rfl⟩
  · simp [small]
  · unfold outS
    split
    · simp [small]
    · have := pk_len (outL l (decide (1073741824 ≤ lo)) (w + 1))
      rw [outL_len] at this
      unfold small; dsimp only; omega
theorem law_Puts {e : EncT} {C : List Int} {s : Int} (he : wfE e) (hC : small C) (hs : s < 2 ^ 63) : g_law04_CoderPuts e C s = some true := by
  obtain ⟨lo, hi, w, B, N⟩ := e
  have hB : small B := he.2.2.2
  have hf := few_one (N := N) (C := C) hB
  by_cases h : C.length ≤ 400 ∧ B.length ≤ 9000
  · rw [decide_eq_true h] at hf
    obtain ⟨p1, p2, p3⟩ := PutF_same he hC hs
    obtain ⟨q1, q2⟩ := EndF_same he
    have q3 := EndF_small he
    have hc := Copy_small (N := N) h.2
    generalize PutF (lo, hi, w, B, N) C s = y at p1 p2 p3
    generalize EndF (lo, hi, w, B, N) = z at q1 q2 q3
    obtain ⟨⟨y1, y2, y3, y4, y5⟩, y6⟩ := y
    obtain ⟨⟨z1, z2⟩, z3⟩ := z
    have l1 := puts_loop1 (u := true) (a := (lo, hi, w, B, N)) (b := (B, N)) (x := (y1, y2, y3, y4, y5)) (c := (z1, z2)) p3.2.2.2
    have l2 := puts_loop2 (u := true) (a := (lo, hi, w, B, N)) (b := (B, N)) (c := (z1, z2)) q3
    have b1 : g_coder_Begin = some eBegin := rfl
    have b2 : g_r04_Begin = some eBegin := rfl
    simp only [] at l1 l2
    simp only [g_law04_CoderPuts, live_eq, hf, hc, p1, p2, q1, q2, SameEnc_refl, Same_refl, b1, b2, Option.bind_some, Bool.not_true, cond_false, bne_self_eq_false, l1, l2, cond_true]
  · rw [decide_eq_false h] at hf
    simp only [g_law04_CoderPuts, live_eq, hf, Option.bind_some, Bool.not_false, cond_true]
theorem SameDec_refl (a : DecT) : g_r04_SameDec a a = some true := by
  have h := Same_refl (a.2.2.2.1.1, a.2.2.2.1.2)
  simp only [g_r04_SameDec, beq_self_eq_true, cond_true, h, Option.bind_some]
theorem law_Nexts {d : DecT} {b : List Int × Int} {C : List Int} (hd : wfD d) (hb : bytes b.1) (hb2 : small b.1) (hC : small C) : g_law04_CoderNexts d b C = some true := by
  obtain ⟨lo, hi, c, ⟨B, N⟩, p⟩ := d
  obtain ⟨B', N'⟩ := b
  have hB : small B := hd.2.2.2.2
  have hB' : small B' := hb2
  have hf := few_one (N := N) (C := C) hB
  have hf' := few_none (N := N') hB'
  by_cases h : C.length ≤ 400 ∧ B.length ≤ 9000
  · rw [decide_eq_true h] at hf
    by_cases h' : B'.length ≤ 9000
    · rw [decide_eq_true h'] at hf'
      obtain ⟨p1, p2, p3⟩ := NextF_same hd hC
      obtain ⟨s1, s2, s3⟩ := StartF_same (N := N') (B := B') hb hb2
      obtain ⟨q1, q2, q3⟩ := NextF_same s3 hC
      have hc := Copy_small (N := N) h.2
      generalize NextF (lo, hi, c, (B, N), p) C = y at p1 p2 p3
      generalize StartF (B', N') = z at s1 s2 s3 q1 q2 q3
      obtain ⟨⟨y1, y2, y3, ⟨y4, y5⟩, y6⟩, y7, y8⟩ := y
      obtain ⟨⟨z1, z2, z3, ⟨z4, z5⟩, z6⟩, z7⟩ := z
      generalize NextF ((z1, z2, z3, (z4, z5), z6), z7).1 C = v at q1 q2 q3
      obtain ⟨⟨v1, v2, v3, ⟨v4, v5⟩, v6⟩, v7, v8⟩ := v
      simp only [] at q1 q2
      simp only [g_law04_CoderNexts, live_eq, hf, hf', hc, p1, p2, s1, s2, q1, q2, SameDec_refl, Same_refl, Option.bind_some, Bool.not_true, cond_false, bne_self_eq_false, beq_self_eq_true, cond_true]
    · rw [decide_eq_false h'] at hf'
      simp only [g_law04_CoderNexts, live_eq, hf, hf', Option.bind_some, Bool.not_true, Bool.not_false, cond_false, cond_true]
  · rw [decide_eq_false h] at hf
    simp only [g_law04_CoderNexts, live_eq, hf, Option.bind_some, Bool.not_false, cond_true]
theorem backS_small : ∀ (F : List (List Int)) (d : DecT) (acc : List Int), (backS F d acc).1.length ≤ acc.length + F.length
  | [], d, acc => by simp [backS]
  | C :: r, d, acc => by
    rw [backS]
    split
    · simp
    · have := backS_small r (NextF d C).1 (acc ++ [(NextF d C).2.1])
      simp at this ⊢; omega
theorem law_All {l : List Int} {F : List (List Int)} {b : List Int × Int} (hl : small l) (hl2 : ∀ s ∈ l, s < 2 ^ 63) (hF : small F) (hC : ∀ C ∈ F, small C) (hb : bytes b.1) (hb2 : small b.1) : g_law04_CoderAll l F b = some true := by
  obtain ⟨B, N⟩ := b
  have hf := few_eq (N := N) hF hb2
  by_cases h : (∀ C ∈ F, C.length ≤ 400) ∧ B.length ≤ 9000 ∧ F.length ≤ 100
  · rw [decide_eq_true h] at hf
    have hf : g_law04_few (B, N) F = some true := hf
    by_cases h2 : l.length > 100
    · simp (disch := omega) only [g_law04_CoderAll, live_eq, hf, Option.bind_some, Bool.not_true, cond_false, dT]
    · obtain ⟨p1, p2⟩ := All_same hl hF hC hl2
      obtain ⟨q1, q2⟩ := Back_same (N := N) hb hb2 (F := F) (by omega) hC
      have q3 : small (backF (B, N) F).1 := by
        unfold backF
        split
        · simp [small]
        · have := backS_small F (StartF (B, N)).1 []
          simp only [small, List.length_nil] at this ⊢
          have := h.2.2; omega
      have q4 := Equal_eq q3 q3
      rw [decide_eq_true rfl] at q4
      simp (disch := omega) only [g_law04_CoderAll, live_eq, hf, Option.bind_some, Bool.not_true, cond_false, dF, p1, p2, q1, q2, q4, Same_refl, cond_true, beq_self_eq_true]
  · rw [decide_eq_false h] at hf
    have hf : g_law04_few (B, N) F = some false := hf
    simp only [g_law04_CoderAll, live_eq, hf, Option.bind_some, Bool.not_false, cond_true]
end Go.Sq
/- From what Go may hand over to what the laws ask. -/
namespace Go.Sq
open Go.Rx

theorem wf_u8 {x : Int} (h : wf (.int .u8) x) : 0 ≤ x ∧ x ≤ 255 := by
  have e : IntKind.u8.max = 255 := by decide
  have e' : IntKind.u8.min = 0 := by decide
  have h1 : IntKind.u8.min ≤ x := h.1
  have h2 : x ≤ IntKind.u8.max := h.2
  rw [e'] at h1
  rw [e] at h2
  omega
theorem wf_u32 {x : Int} (h : wf (.int .u32) x) : 0 ≤ x ∧ x < 4294967296 := by
  have e : IntKind.u32.max = 4294967295 := by decide
  have e' : IntKind.u32.min = 0 := by decide
  have h1 : IntKind.u32.min ≤ x := h.1
  have h2 : x ≤ IntKind.u32.max := h.2
  rw [e'] at h1
  rw [e] at h2
  omega
theorem wf_i64 {x : Int} (h : wf (.int .i64) x) : -9223372036854775808 ≤ x ∧ x < 2 ^ 63 := by
  have e : IntKind.i64.max = 9223372036854775807 := by decide
  have e' : IntKind.i64.min = -9223372036854775808 := by decide
  have h1 : IntKind.i64.min ≤ x := h.1
  have h2 : x ≤ IntKind.i64.max := h.2
  rw [e'] at h1
  rw [e] at h2
  omega
theorem small_of {α : Type} {l : List α} (h : l.length ≤ maxLen) : small l := by unfold small; unfold maxLen at h; omega
theorem wf_bytes {l : List Int} (h : wf (.sl (.int .u8)) l) : small l ∧ bytes l := ⟨small_of h.1, fun x hx => wf_u8 (h.2 x hx)⟩
theorem wf_ints {l : List Int} (h : wf (.sl (.int .i64)) l) : small l ∧ ∀ s ∈ l, -9223372036854775808 ≤ s ∧ s < 2 ^ 63 := ⟨small_of h.1, fun x hx => wf_i64 (h.2 x hx)⟩
theorem wf_tabs {F : List (List Int)} (h : wf (.sl (.sl (.int .i64))) F) : small F ∧ ∀ C ∈ F, small C := ⟨small_of h.1, fun x hx => (wf_ints (h.2 x hx)).1⟩
abbrev EncTy : Ty := .pair (.int .u32) (.pair (.int .u32) (.pair (.int .i64) (.pair (.sl (.int .u8)) (.int .i64))))
abbrev DecTy : Ty := .pair (.int .u32) (.pair (.int .u32) (.pair (.int .u32) (.pair (.pair (.sl (.int .u8)) (.int .i64)) (.int .i64))))
abbrev BitsTy : Ty := .pair (.sl (.int .u8)) (.int .i64)
theorem wf_Enc {e : EncT} (h : wf EncTy e) : wfE e := ⟨wf_u32 h.1, wf_u32 h.2.1, (wf_bytes h.2.2.2.1).2, (wf_bytes h.2.2.2.1).1⟩
theorem wf_Dec {d : DecT} (h : wf DecTy d) : wfD d := ⟨wf_u32 h.1, wf_u32 h.2.1, wf_u32 h.2.2.1, (wf_bytes h.2.2.2.1.1).2, (wf_bytes h.2.2.2.1.1).1⟩
theorem pure_Puts (x : denL [(true, EncTy), (true, .sl (.int .i64)), (false, .int .i64)]) (h : wfL _ x) : g_law04_CoderPuts x.1 x.2.1 x.2.2 = some true :=
  law_Puts (wf_Enc h.1) (wf_ints h.2.1).1 (wf_i64 h.2.2).2
theorem pure_Nexts (x : denL [(true, DecTy), (true, BitsTy), (true, .sl (.int .i64))]) (h : wfL _ x) : g_law04_CoderNexts x.1 x.2.1 x.2.2 = some true :=
  law_Nexts (wf_Dec h.1) (wf_bytes h.2.1.1).2 (wf_bytes h.2.1.1).1 (wf_ints h.2.2).1
theorem pure_All (x : denL [(false, .sl (.int .i64)), (false, .sl (.sl (.int .i64))), (true, BitsTy)]) (h : wfL _ x) : g_law04_CoderAll x.1 x.2.1 x.2.2 = some true :=
  law_All (wf_ints h.1).1 (fun s hs => ((wf_ints h.1).2 s hs).2) (wf_tabs h.2.1).1 (wf_tabs h.2.1).2 (wf_bytes h.2.2.1).2 (wf_bytes h.2.2.1).1
end Go.Sq
/- The law CoderTotal: as many symbols are had as tables are asked. -/
namespace Go.Sq
open Go.Rx

theorem roomy_pos {n : Nat} {lo hi : Int} (hr : roomy n lo hi) (h : hi < 2147483648 ∨ lo ≥ 2147483648 ∨ (lo ≥ 1073741824 ∧ hi < 3221225472)) : ∃ k, n = k + 1 := by
  cases n with
  | zero => have := roomy_zero hr; omega
  | succ k => exact ⟨k, rfl⟩
theorem decS_ok : ∀ {n : Nat} {lo hi c : Int} {p : Nat} {l : List Bool}, roomy n lo hi → lo ≤ c → c ≤ hi → ∃ (lo' hi' c' : Int) (p' : Nat), decS (n + 1) lo hi c p l = (lo', hi', c', p') ∧ goodP lo' hi' ∧ 0 ≤ lo' ∧ hi' < 4294967296 ∧ lo' ≤ c' ∧ c' ≤ hi' ∧ p ≤ p' ∧ p' ≤ p + n := by
  intro n
  induction n with
  | zero =>
    intro lo hi c p l hr h1 h2
    have := roomy_zero hr
    refine ⟨lo, hi, c, p, ?_, ?_, by omega, by omega, h1, h2, Nat.le_refl _, Nat.le_refl _⟩
    · rw [decS, if_neg (by omega), if_neg (by omega), if_neg (by omega)]
    · unfold goodP; omega
  | succ n ih =>
    intro lo hi c p l hr h1 h2
    obtain ⟨r1, r2, r3, r4⟩ := hr
    have hr : roomy (n + 1) lo hi := ⟨r1, r2, r3, r4⟩
    have hb := bI_range l p
    rw [decS]
    by_cases c1 : hi < 2147483648
    · rw [if_pos c1]
      obtain ⟨lo', hi', c', p', a1, a2, a3, a4, a5, a6, a7, a8⟩ := ih (l := l) (p := p + 1) (lo := 2 * lo) (hi := 2 * hi + 1) (c := 2 * c + bI l p) (roomy_next hr (by omega) (by omega) (by omega)) (by omega) (by omega)
      exact ⟨lo', hi', c', p', a1, a2, a3, a4, a5, a6, by omega, by omega⟩
    rw [if_neg c1]
    by_cases c2 : lo ≥ 2147483648
    · rw [if_pos c2]
      obtain ⟨lo', hi', c', p', a1, a2, a3, a4, a5, a6, a7, a8⟩ := ih (l := l) (p := p + 1) (lo := 2 * (lo - 2147483648)) (hi := 2 * (hi - 2147483648) + 1) (c := 2 * (c - 2147483648) + bI l p) (roomy_next hr (by omega) (by omega) (by omega)) (by omega) (by omega)
      exact ⟨lo', hi', c', p', a1, a2, a3, a4, a5, a6, by omega, by omega⟩
    rw [if_neg c2]
    by_cases c3 : lo ≥ 1073741824 ∧ hi < 3221225472
    · rw [if_pos c3]
      obtain ⟨lo', hi', c', p', a1, a2, a3, a4, a5, a6, a7, a8⟩ := ih (l := l) (p := p + 1) (lo := 2 * (lo - 1073741824)) (hi := 2 * (hi - 1073741824) + 1) (c := 2 * (c - 1073741824) + bI l p) (roomy_next hr (by omega) (by omega) (by omega)) (by omega) (by omega)
      exact ⟨lo', hi', c', p', a1, a2, a3, a4, a5, a6, by omega, by omega⟩
    · rw [if_neg c3]
      exact ⟨lo, hi, c, p, rfl, by unfold goodP; omega, r1, r3, h1, h2, Nat.le_refl _, by omega⟩
/-- a decoder's state, as it is while one reads -/
def isD (l : List Bool) (d : DecT) : Prop := ∃ (lo hi c : Int) (p : Nat), d = (lo, (hi, (c, ((pk l, (l.length : Int)), (p : Int))))) ∧ 0 ≤ lo ∧ hi < 4294967296 ∧ goodP lo hi ∧ lo ≤ c ∧ c ≤ hi ∧ 32 ≤ p ∧ p ≤ 65600
theorem next_isD {l : List Bool} (hl : l.length ≤ 65536) {d : DecT} (hd : isD l d) {C : List Int} (hF : okF C) :
    NextF d C = (zDec, (0, 20)) ∨ ∃ (s : Nat) (d' : DecT), NextF d C = (d', ((s : Int), 0)) ∧ isD l d' ∧ s + 1 < C.length := by
  obtain ⟨lo, hi, c, p, rfl, a1, a2, a3, a4, a5, a7, a8⟩ := hd
  have hgl := a3.1
  obtain ⟨_, t1, t2⟩ := totS_pos hF
  obtain ⟨_, _, f3, f4, _, _⟩ := find_facts a4 a5 (by omega) t1 t2
  obtain ⟨s, hs⟩ := isSym_ex hF f3 f4
  by_cases hp : l.length + 32 < p
  · left
    unfold NextF
    rw [coder_Next_short a1 a2 a3 a4 a5 hl a7 hp a8 hF]; rfl
  · right
    rw [NextF_ok a1 a2 a3 a4 a5 hl a7 (by omega) hF hs]
    have hs1 := hs.1
    have b0 := okF_mono hF (i := 0) (j := s) (by omega) (by omega)
    rw [hF.2.2.1] at b0
    have b1 := hF.2.2.2.2 s hs1
    have b2 := okF_mono hF (i := s + 1) (j := C.length - 1) (by omega) (by omega)
    rw [← (totS_pos hF).1] at b2
    have hgw := good_wide a3
    obtain ⟨w1, w2⟩ := find_within (a := C.getD s 0) (b := C.getD (s + 1) 0) a4 a5 (by omega) t1 t2 hs.2.1 hs.2.2
    obtain ⟨g1, g2, g3, g4, g5, g6, g7⟩ := nar_facts (r := hi - lo + 1) (a := C.getD s 0) (b := C.getD (s + 1) 0) (t := totS C) (by omega) (by omega) b0 b1 b2 t1 t2
    have hL : narL lo hi (C.getD s 0) (totS C) = lo + (hi - lo + 1) * C.getD s 0 / totS C := rfl
    have hH : narH lo hi (C.getD (s + 1) 0) (totS C) = lo + (hi - lo + 1) * C.getD (s + 1) 0 / totS C - 1 := rfl
    obtain ⟨lo', hi', c', p', e1, e2, e3, e4, e5, e6, e7, e8⟩ := decS_ok (n := 32) (p := p) (l := l) (roomy_start (lo := narL lo hi (C.getD s 0) (totS C)) (hi := narH lo hi (C.getD (s + 1) 0) (totS C)) (by rw [hL]; omega) (by omega) (by rw [hH]; omega)) w1 w2
    have e2' := e2.1
    exact ⟨s, _, nextR_eq rfl e1 (by omega) (by omega) (by omega), ⟨lo', hi', c', p', rfl, e3, e4, e2, e5, e6, by omega, by omega⟩, hs1⟩
theorem backS_tot {l : List Bool} (hl : l.length ≤ 65536) : ∀ (F : List (List Int)) (d : DecT) (acc : List Int), (∀ C ∈ F, okF C) → isD l d →
    backS F d acc = ([], 20) ∨ ∃ syms : List Int, backS F d acc = (acc ++ syms, 0) ∧ syms.length = F.length ∧ (∀ i, i < F.length → 0 ≤ syms.getD i 0 ∧ syms.getD i 0 + 1 < (F.getD i []).length) ∧ ∀ k, k ≤ F.length → backS (F.take k) d acc = (acc ++ syms.take k, 0)
  | [], d, acc, _, _ => .inr ⟨[], by simp [backS], rfl, fun i h => by simp at h, fun k _ => by simp [backS]⟩
  | C :: F, d, acc, hF, hd => by
    rcases next_isD hl hd (hF C List.mem_cons_self) with h | ⟨s, d', h, hd', hs⟩
    · left
      rw [backS, h]; rfl
    · rcases backS_tot hl F d' (acc ++ [(s : Int)]) (fun C h => hF C (List.mem_cons_of_mem _ h)) hd' with h2 | ⟨syms, h2, h3, h4, h5⟩
      · left
        rw [backS, h]
        simp only [ne_eq, not_true_eq_false, if_false]
        exact h2
      · right
        refine ⟨(s : Int) :: syms, ?_, by simp [h3], fun i hi => ?_, fun k hk => ?_⟩
        · rw [backS, h]
          simp only [ne_eq, not_true_eq_false, if_false]
          rw [h2]; simp
        · cases i with
          | zero => simp only [List.getD_cons_zero]; omega
          | succ i => simp only [List.getD_cons_succ]; exact h4 i (by simpa using hi)
        · cases k with
          | zero => simp [backS]
          | succ k =>
            rw [List.take_succ_cons, backS, h]
            simp only [ne_eq, not_true_eq_false, if_false]
            rw [h5 k (by simpa using hk)]; simp
theorem start_isD {l : List Bool} (hl : l.length ≤ 65536) : ∃ d, StartF (pk l, (l.length : Int)) = (d, 0) ∧ isD l d := by
  unfold StartF
  rw [coder_Start_ok hl]
  have := codeS_lt l (n := 32) (by omega)
  exact ⟨_, rfl, 0, 4294967295, codeS l 32, 32, rfl, by omega, by omega, by decide, by omega, by omega, by omega, by omega⟩
theorem tmod_range {k n : Int} (hn : 0 < n) : -n < k.tmod n ∧ k.tmod n < n := by
  constructor
  · by_cases h : 0 ≤ k
    · have := Int.tmod_nonneg n h; omega
    · have h1 : k.tmod n = -((-k).tmod n) := by rw [← Int.neg_tmod, Int.neg_neg]
      have h2 := Int.tmod_lt_of_pos (-k) hn
      omega
  · exact Int.tmod_lt_of_pos k hn
theorem law_Total {b : List Int × Int} {F : List (List Int)} {k : Int} (hF : small F) (hC : ∀ C ∈ F, small C) (hb : bytes b.1) (hb2 : small b.1) : g_law04_CoderTotal b F k = some true := by
  obtain ⟨B, N⟩ := b
  have hf := few_eq (N := N) hF hb2
  by_cases h : (∀ C ∈ F, C.length ≤ 400) ∧ B.length ≤ 9000 ∧ F.length ≤ 100
  · rw [decide_eq_true h] at hf
    have hf : g_law04_few (B, N) F = some true := hf
    have hc := bits_Check_eq (N := N) hb hb2
    have hn := h.2.2
    unfold ck at hc
    by_cases ho : okB B N
    · rw [if_pos ho] at hc
      have hc : g_bits_Check (B, N) = some 0 := hc
      obtain ⟨l, rfl, rfl, hl⟩ := (okB_iff hb).1 ho
      -- are all tables in order?
      have loop1 : ∃ r, iter g_law04_CoderTotal_r1 (F, k, true, F, (F.length : Int), 0, (pk l, (l.length : Int)), ()) = some r ∧
          ((r = (.inl (F, k, true, (pk l, (l.length : Int)), ()) : (List (List Int) × Int × Bool × (List Int × Int) × Unit) ⊕ (Bool × Unit)) ∧ ∀ C ∈ F, okF C) ∨ r = .inr (true, ())) := by
        refine iter_ex (fun x => ((F.length : Int) - x.2.2.2.2.2.1).toNat) (fun x => ∃ i : Nat, x = (F, k, true, F, (F.length : Int), (i : Int), (pk l, (l.length : Int)), ()) ∧ i ≤ F.length ∧ ∀ j, j < i → okF (F.getD j []))
          (fun r => (r = (.inl (F, k, true, (pk l, (l.length : Int)), ()) : (List (List Int) × Int × Bool × (List Int × Int) × Unit) ⊕ (Bool × Unit)) ∧ ∀ C ∈ F, okF C) ∨ r = .inr (true, ())) ?_ _ ⟨0, rfl, Nat.zero_le _, fun j hj => by omega⟩
        rintro x ⟨i, rfl, h1, h2⟩
        by_cases h3 : i < F.length
        · have hck := freq_Check_eq (hC _ (mem_get h3))
          by_cases h4 : okF (F.getD i [])
          · rw [ckF_pos h4] at hck
            left
            refine ⟨(F, k, true, F, (F.length : Int), ((i + 1 : Nat) : Int), (pk l, (l.length : Int)), ()), ?_, ⟨i + 1, rfl, h3, fun j hj => ?_⟩, by simp only; omega⟩
            · simp (disch := omega) only [g_law04_CoderTotal_r1, dT, wT, Int.toNat_natCast, hck, Option.bind_some, nF, wrap_i64]
              rfl
            · rcases Nat.lt_or_eq_of_le (Nat.lt_succ_iff.1 hj) with h | rfl
              · exact h2 j h
              · exact h4
          · rw [ckF_neg h4] at hck
            right
            refine ⟨_, ?_, .inr rfl⟩
            simp (disch := omega) only [g_law04_CoderTotal_r1, dT, wT, Int.toNat_natCast, hck, Option.bind_some, nT]
        · right
          refine ⟨_, ?_, .inl ⟨rfl, fun C hC => ?_⟩⟩
          · simp (disch := omega) only [g_law04_CoderTotal_r1, dF]
          · obtain ⟨j, hj, e⟩ := List.getElem_of_mem hC
            have := h2 j (by omega)
            rw [List.getD_eq_getElem?_getD, List.getElem?_eq_getElem hj] at this
            rw [← e]; exact this
      obtain ⟨r, l1, l2⟩ := loop1
      rcases l2 with ⟨rfl, hok⟩ | rfl
      · have hbk := (Back_same (N := (l.length : Int)) hb hb2 (F := F) (by omega) hC).1
        obtain ⟨d, hst, hd⟩ := start_isD hl
        have hbf : ∀ G, backF (pk l, (l.length : Int)) G = backS G d [] := fun G => by
          unfold backF; rw [hst]; rfl
        rw [hbf] at hbk
        rcases backS_tot hl F d [] hok hd with h2 | ⟨syms, h2, h3, h4, h5⟩
        · rw [h2] at hbk
          simp (disch := omega) only [g_law04_CoderTotal, live_eq, hf, hc, Option.bind_some, Bool.not_true, cond_false, bne_self_eq_false, l1, hbk, nT, cond_true, eT]
          rfl
        · rw [h2, List.nil_append] at hbk
          have loop2 : iter g_law04_CoderTotal_r2 (F, k, true, syms, syms, (syms.length : Int), 0, (pk l, (l.length : Int)), ()) = some (.inl (F, k, true, syms, (pk l, (l.length : Int)), ())) := by
            obtain ⟨r, q1, q2⟩ := iter_ex (f := g_law04_CoderTotal_r2) (fun x => ((F.length : Int) - x.2.2.2.2.2.2.1).toNat) (fun x => ∃ i : Nat, x = (F, k, true, syms, syms, (syms.length : Int), (i : Int), (pk l, (l.length : Int)), ()) ∧ i ≤ F.length)
              (fun r => r = .inl (F, k, true, syms, (pk l, (l.length : Int)), ())) (by
                rintro x ⟨i, rfl, h6⟩
                by_cases h7 : i < F.length
                · obtain ⟨h8, h9⟩ := h4 i h7
                  have hcl := h.1 _ (mem_get h7)
                  left
                  refine ⟨(F, k, true, syms, syms, (syms.length : Int), ((i + 1 : Nat) : Int), (pk l, (l.length : Int)), ()), ?_, ⟨i + 1, rfl, h7⟩, by simp only; omega⟩
                  simp (disch := omega) only [g_law04_CoderTotal_r2, dT, dF, wT, Int.toNat_natCast, Option.bind_some, wrap_i64]
                  rfl
                · right
                  refine ⟨_, ?_, rfl⟩
                  simp (disch := omega) only [g_law04_CoderTotal_r2, dF]) _ ⟨0, rfl, Nat.zero_le _⟩
            have q1' : iter g_law04_CoderTotal_r2 (F, k, true, syms, syms, (syms.length : Int), 0, (pk l, (l.length : Int)), ()) = some r := q1
            rw [q1', q2]
          obtain ⟨t1, t2⟩ := tmod_range (k := k) (n := (F.length : Int) + 1) (by omega)
          generalize hk : k.tmod ((F.length : Int) + 1) = k1 at t1 t2
          have t3 : 0 ≤ (k1 + (F.length : Int) + 1).tmod ((F.length : Int) + 1) := Int.tmod_nonneg _ (by omega)
          have t4 := (tmod_range (k := k1 + (F.length : Int) + 1) (n := (F.length : Int) + 1) (by omega)).2
          obtain ⟨m, hm⟩ : ∃ m : Nat, (k1 + (F.length : Int) + 1).tmod ((F.length : Int) + 1) = m := ⟨((k1 + (F.length : Int) + 1).tmod ((F.length : Int) + 1)).toNat, by omega⟩
          have hbk2 := (Back_same (N := (l.length : Int)) hb hb2 (F := F.take m) (by rw [List.length_take]; omega) (fun C hC' => hC C (List.mem_of_mem_take hC'))).1
          rw [hbf, h5 m (by omega), List.nil_append] at hbk2
          have hEq := Equal_eq (a := syms.take m) (b := syms.take m) (by simp [small]; omega) (by simp [small]; omega)
          rw [decide_eq_true rfl] at hEq
          simp (disch := omega) only [g_law04_CoderTotal, live_eq, hf, hc, Option.bind_some, Bool.not_true, cond_false, bne_self_eq_false, l1, hbk, nF, loop2, nT, wrap_i64, hk, hm, gT, Int.toNat_natCast, List.drop_zero, hbk2, cond_true, eT, hEq]
      · simp (disch := omega) only [g_law04_CoderTotal, live_eq, hf, hc, Option.bind_some, Bool.not_true, cond_false, bne_self_eq_false, l1]
    · rw [if_neg ho] at hc
      have hc : g_bits_Check (B, N) = some 1 := hc
      simp (disch := omega) only [g_law04_CoderTotal, live_eq, hf, hc, Option.bind_some, Bool.not_true, cond_false, nT]
  · rw [decide_eq_false h] at hf
    have hf : g_law04_few (B, N) F = some false := hf
    simp only [g_law04_CoderTotal, live_eq, hf, Option.bind_some, Bool.not_false, cond_true]
theorem pure_Total (x : denL [(true, BitsTy), (false, .sl (.sl (.int .i64))), (false, .int .i64)]) (h : wfL _ x) : g_law04_CoderTotal x.1 x.2.1 x.2.2 = some true :=
  law_Total (wf_tabs h.2.1).1 (wf_tabs h.2.1).2 (wf_bytes h.1.1).2 (wf_bytes h.1.1).1
end Go.Sq
/- The law CoderEven: by even tables symbols are bytes. -/
namespace Go.Sq
open Go.Rx

def evenC : List Int := (List.range 257).map fun (j : Nat) => (j : Int)
theorem rng_get (n i : Nat) (h : i < n) : ((List.range n).map fun (j : Nat) => (j : Int)).getD i 0 = (i : Int) := by
  simp [List.getD_eq_getElem?_getD, h]
theorem evenC_len : evenC.length = 257 := by simp [evenC]
theorem evenC_get {i : Nat} (h : i < 257) : evenC.getD i 0 = (i : Int) := rng_get 257 i h
theorem evenC_ok : okF evenC := by
  refine ⟨by rw [evenC_len]; omega, by rw [evenC_len]; omega, evenC_get (by omega), ?_, fun i hi => ?_⟩
  · rw [evenC_len, evenC_get (by omega)]; omega
  · rw [evenC_len] at hi
    rw [evenC_get (by omega), evenC_get (by omega)]; omega
theorem evenC_tot : totS evenC = 256 := by
  rw [(totS_pos evenC_ok).1, evenC_len, evenC_get (by omega)]; rfl
theorem even_repeat : g_slices_Repeat_Sint_int [1] 256 = some (List.replicate 256 1) := by
  have step : ∀ a b : List Int, ∀ n m : Int, g_slices_Repeat_Sint_int_r1 (a, n, ()) = some (.inl (b, m, ())) → iter g_slices_Repeat_Sint_int_r1 (a, n, ()) = iter g_slices_Repeat_Sint_int_r1 (b, m, ()) := fun a b n m h => iter_inl h
  have h0 : g_slices_Repeat_Sint_int [1] 256 = (iter g_slices_Repeat_Sint_int_r1 (1 :: List.replicate 255 0, 1, ())).bind fun j4 => some j4.1 := by kernel_rfl
  rw [h0]
  rw [step _ (List.replicate 2 1 ++ List.replicate 254 0) _ 2 (by kernel_rfl), step _ (List.replicate 4 1 ++ List.replicate 252 0) _ 4 (by kernel_rfl), step _ (List.replicate 8 1 ++ List.replicate 248 0) _ 8 (by kernel_rfl),
    step _ (List.replicate 16 1 ++ List.replicate 240 0) _ 16 (by kernel_rfl), step _ (List.replicate 32 1 ++ List.replicate 224 0) _ 32 (by kernel_rfl), step _ (List.replicate 64 1 ++ List.replicate 192 0) _ 64 (by kernel_rfl),
    step _ (List.replicate 128 1 ++ List.replicate 128 0) _ 128 (by kernel_rfl), step _ (List.replicate 256 1) _ 256 (by kernel_rfl)]
  rw [iter_inr (r := (List.replicate 256 1, ())) (by kernel_rfl)]
  rfl
theorem rng_succ (n : Nat) : ((List.range (n + 1)).map fun (j : Nat) => (j : Int)) ++ [((n + 1 : Nat) : Int)] = (List.range (n + 2)).map fun (j : Nat) => (j : Int) := by
  rw [List.range_succ (n := n + 1)]; simp
theorem new_ones {ones : List Int} (hl : ones.length = 256) (ho : ∀ i, i < 256 → ones.getD i 0 = 1) : g_freq_New ones = some (evenC, 0) := by
  have loop : iter g_freq_New_r1 (ones, ones, (ones.length : Int), 0, [], [0], ()) = some (.inl (ones, [], evenC, ())) := by
    obtain ⟨r, h1, h2⟩ := iter_ex (f := g_freq_New_r1) (fun x => (256 - x.2.2.2.1).toNat) (fun x => ∃ i : Nat, x = (ones, ones, (ones.length : Int), (i : Int), [], ((List.range (i + 1)).map fun (j : Nat) => (j : Int)), ()) ∧ i ≤ 256)
      (fun r => r = .inl (ones, [], evenC, ())) (by
        rintro x ⟨i, rfl, h1⟩
        by_cases h2 : i < 256
        · left
          have hg := ho i h2
          have hlen : ((List.range (i + 1)).map fun (j : Nat) => (j : Int)).length = i + 1 := by simp
          have hlast := last_eq (C := (List.range (i + 1)).map fun (j : Nat) => (j : Int)) (by omega) (by omega)
          rw [hlen, Nat.add_sub_cancel, rng_get _ _ (by omega)] at hlast
          have hroom : room 8 ((List.range (i + 2)).map fun (j : Nat) => (j : Int)).length = true := room_iff.2 (by simp; omega)
          refine ⟨_, ?_, ⟨i + 1, rfl, h2⟩, by simp only; omega⟩
          have hs := rng_succ i
          have e : ((i + 1 : Nat) : Int) = (i : Int) + 1 := by omega
          rw [e] at hs
          simp (disch := omega) only [g_freq_New_r1, dT, dF, wT, Int.toNat_natCast, hg, hlast, Option.bind_some, wrap_i64, hs, hroom, cond_true]
          rw [e]
        · right
          have : i = 256 := by omega
          subst this
          refine ⟨_, ?_, rfl⟩
          simp (disch := omega) only [g_freq_New_r1, dF]
          rfl) _ ⟨0, rfl, by omega⟩
    have h1' : iter g_freq_New_r1 (ones, ones, (ones.length : Int), 0, [], [0], ()) = some r := h1
    rw [h1', h2]
  have hroom : (decide ((0 : Int) ≤ 1) && decide (1 ≤ (256 : Int) + 1) && room 8 ((256 : Int) + 1).toNat) = true := by decide
  have e : (ones.length : Int) = 256 := by omega
  rw [e] at loop
  have hrep : List.replicate 1 (0 : Int) = [0] := rfl
  have e2 : ((256 : Int) == 0) = false := by decide
  simp (disch := omega) only [g_freq_New, dF, e, wrap_i64, hrep, loop, Option.bind_some, eF]
  exact cT hroom
theorem even_new : g_freq_New (List.replicate 256 1) = some (evenC, 0) := new_ones List.length_replicate fun i hi => by
  rw [List.getD_eq_getElem?_getD, List.getElem?_replicate, if_pos hi]; rfl
theorem even_eq : g_freq_Even 256 = some (evenC, 0) := by
  simp (disch := omega) only [g_freq_Even, dF, Option.bind_some, even_repeat, even_new, decide_false, cond_false]

theorem bn_hi0 {x k : Nat} (h : x < 2 ^ k) : bn x (k + 1) = false :: bn x k := by
  rw [bn_next, Nat.testBit_lt_two_pow h]
theorem bn_hi1 {y k : Nat} (h : y < 2 ^ k) : bn (2 ^ k + y) (k + 1) = true :: bn y k := by
  rw [bn_next]
  have e : 2 ^ k + y = 2 ^ k * 1 + y := by omega
  congr 1
  · rw [e, Nat.testBit_two_pow_mul_add _ h, if_neg (by omega)]; simp
  · apply ext_getDb
    · simp [bn_len]
    · intro i hi
      rw [bn_len] at hi
      rw [bn_get, bn_get, e, Nat.testBit_two_pow_mul_add _ h, if_pos (by omega)]
/-- an interval that is a part of so many equal ones -/
theorem widS_even : ∀ (k n j x : Nat) (L : List Bool), k + j = 32 → k ≤ n → x < 2 ^ k → L.length + k ≤ 65536 →
    widS (n + 1) ((x : Int) * 2 ^ j) (((x : Int) + 1) * 2 ^ j - 1) 0 L = some (0, 4294967295, 0, L ++ bn x k)
  | 0, n, j, x, L, hj, _, hx, _ => by
    have h0 : x = 0 := by simpa using hx
    have h1 : j = 32 := by omega
    subst h0; subst h1
    rw [widS, if_neg (by decide), if_neg (by decide), if_neg (by decide)]
    simp [bn]
  | k + 1, 0, _, _, _, _, h, _, _ => by omega
  | k + 1, n + 1, j, x, L, hj, hn, hx, hL => by
    have hpj : (2 : Int) ^ (j + 1) = 2 * 2 ^ j := by rw [Int.pow_succ]; omega
    have hpk : (2 : Int) ^ k * 2 ^ j = 2147483648 := by
      rw [← Int.pow_add, show k + j = 31 from by omega]; rfl
    have hpos : (0 : Int) < 2 ^ j := Int.pow_pos (by decide)
    have hcast : ((2 ^ k : Nat) : Int) = (2 : Int) ^ k := by simp
    rw [widS]
    by_cases h1 : x < 2 ^ k
    · have h2 : ((x : Int) + 1) * 2 ^ j ≤ 2 ^ k * 2 ^ j := Int.mul_le_mul_of_nonneg_right (by omega) (by omega)
      rw [if_pos (by omega), if_neg (by omega)]
      have ih := widS_even k n (j + 1) x (outL L false 0) (by omega) (by omega) h1 (by rw [outL_len]; omega)
      have e1 : (x : Int) * 2 ^ (j + 1) = 2 * ((x : Int) * 2 ^ j) := by rw [hpj, Int.mul_left_comm]
      have e2 : ((x : Int) + 1) * 2 ^ (j + 1) - 1 = 2 * (((x : Int) + 1) * 2 ^ j - 1) + 1 := by rw [hpj, Int.mul_left_comm]; omega
      rw [e1, e2] at ih
      rw [ih, bn_hi0 h1]
      simp [outL]
    · obtain ⟨y, rfl⟩ : ∃ y, x = 2 ^ k + y := ⟨x - 2 ^ k, by omega⟩
      have hy : y < 2 ^ k := by rw [Nat.pow_succ] at hx; omega
      have e0 : ((2 ^ k + y : Nat) : Int) = 2 ^ k + (y : Int) := by omega
      have h2 : ((y : Int) + 1) * 2 ^ j ≤ 2 ^ k * 2 ^ j := Int.mul_le_mul_of_nonneg_right (by omega) (by omega)
      have h3 : 0 ≤ (y : Int) * 2 ^ j := Int.mul_nonneg (by omega) (by omega)
      rw [e0]
      have e3 : (2 ^ k + (y : Int)) * 2 ^ j = 2147483648 + (y : Int) * 2 ^ j := by rw [Int.add_mul, hpk]
      have e4 : (2 ^ k + (y : Int) + 1) * 2 ^ j = 2147483648 + ((y : Int) + 1) * 2 ^ j := by rw [Int.add_assoc, Int.add_mul, hpk]
      have e5 : ((y : Int) + 1) * 2 ^ j = (y : Int) * 2 ^ j + 2 ^ j := by rw [Int.add_mul]; omega
      rw [e3, e4, if_neg (by omega), if_pos (by omega), if_neg (by omega)]
      have ih := widS_even k n (j + 1) y (outL L true 0) (by omega) (by omega) hy (by rw [outL_len]; omega)
      have e1 : (y : Int) * 2 ^ (j + 1) = 2 * (2147483648 + (y : Int) * 2 ^ j - 2147483648) := by rw [hpj, Int.mul_left_comm]; omega
      have e2 : ((y : Int) + 1) * 2 ^ (j + 1) - 1 = 2 * (2147483648 + ((y : Int) + 1) * 2 ^ j - 1 - 2147483648) + 1 := by rw [hpj, Int.mul_left_comm]; omega
      rw [e1, e2] at ih
      rw [ih, bn_hi1 hy]
      simp [outL]
def fullE (L : List Bool) : EncT := (0, (4294967295, (((0 : Nat) : Int), (pk L, (L.length : Int)))))
theorem even_put {L : List Bool} {b : Nat} (hb : b < 256) (hL : L.length + 8 ≤ 65536) : PutF (fullE L) evenC (b : Int) = (fullE (L ++ bn b 8), 0) := by
  unfold fullE
  have hs : okSpan evenC (b : Int) := ⟨evenC_ok, by omega, by rw [evenC_len]; omega⟩
  rw [PutF_ok (by decide) (by decide) (by decide) (by decide) (by omega) hs]
  have h := widS_even 8 32 24 b L (by omega) (by omega) hb hL
  refine putR_eq evenC_tot ?_ (by decide) (by decide) (by decide)
  rw [Int.toNat_natCast, evenC_get (by omega), evenC_get (by omega)]
  have e1 : narL 0 4294967295 (b : Int) 256 = (b : Int) * 2 ^ 24 := by unfold narL; omega
  have e2 : narH 0 4294967295 ((b + 1 : Nat) : Int) 256 = ((b : Int) + 1) * 2 ^ 24 - 1 := by unfold narH; omega
  rw [e1, e2]
  exact h
def bits8 (l : List Int) : List Bool := l.flatMap fun x => bn x.toNat 8
theorem bits8_len (l : List Int) : (bits8 l).length = 8 * l.length := by
  induction l with
  | nil => rfl
  | cons x l ih =>
    show (bn x.toNat 8 ++ bits8 l).length = _
    rw [List.length_append, bn_len, ih, List.length_cons]; omega
theorem even_all : ∀ (l : List Int) (L : List Bool), bytes l → L.length + 8 * l.length ≤ 65536 → putAll (l.zip (List.replicate l.length evenC)) (fullE L) = (fullE (L ++ bits8 l), 0)
  | [], L, _, _ => by simp [putAll, bits8]
  | x :: l, L, hb, hL => by
    have hx := hb x List.mem_cons_self
    obtain ⟨b, rfl⟩ : ∃ b : Nat, x = b := ⟨x.toNat, by omega⟩
    simp only [List.length_cons] at hL
    have h := even_put (L := L) (b := b) (by omega) (by omega)
    simp only [List.length_cons, List.replicate_succ, List.zip_cons_cons, putAll, h, ne_eq, not_true_eq_false, if_false]
    rw [even_all l (L ++ bn b 8) (fun y hy => hb y (List.mem_cons_of_mem _ hy)) (by rw [List.length_append, bn_len]; omega)]
    simp [bits8]
theorem pk_cons8 {x M : List Bool} (hx : x.length = 8) : pk (x ++ M) = ((byt x 0 : Nat) : Int) :: pk M := by
  symm
  apply pk_ext
  · rw [List.length_cons, pk_len, List.length_append, hx]; omega
  · intro k hk
    cases k with
    | zero =>
      rw [List.getD_cons_zero]
      congr 1
      exact (byt_app_low (by omega)).symm
    | succ k =>
      rw [List.getD_cons_succ, pk_get]
      congr 1
      apply Nat.eq_of_testBit_eq
      intro i
      rw [byt_test, byt_test, getD_app, hx]
      by_cases hi : i < 8
      · rw [if_neg (by omega), show 8 * (k + 1) + (7 - i) - 8 = 8 * k + (7 - i) from by omega]
      · simp [hi]
theorem byt_bn {b : Nat} (hb : b < 256) : byt (bn b 8) 0 = b := by
  apply Nat.eq_of_testBit_eq
  intro i
  rw [byt_test, bn_get]
  by_cases hi : i < 8
  · have : 8 * 0 + (7 - i) < 8 := by omega
    simp only [hi, this, decide_true, Bool.true_and]
    congr 1; omega
  · rw [Nat.testBit_lt_two_pow (Nat.lt_of_lt_of_le hb (show 2 ^ 8 ≤ 2 ^ i from Nat.pow_le_pow_right (by omega) (by omega)))]
    simp [hi]
theorem pk_bits8 : ∀ (l : List Int) (M : List Bool), bytes l → pk (bits8 l ++ M) = l ++ pk M
  | [], M, _ => rfl
  | x :: l, M, hb => by
    have hx := hb x List.mem_cons_self
    obtain ⟨b, rfl⟩ : ∃ b : Nat, x = b := ⟨x.toNat, by omega⟩
    show pk ((bn ((b : Int).toNat) 8 ++ bits8 l) ++ M) = _
    rw [Int.toNat_natCast, List.append_assoc, pk_cons8 (bn_len _ _), byt_bn (by omega), pk_bits8 l M (fun y hy => hb y (List.mem_cons_of_mem _ hy))]
    rfl
theorem law_Even {l : List Int} (hl : small l) (hb : bytes l) : g_law04_CoderEven l = some true := by
  by_cases h : l.length > 100
  · simp (disch := omega) only [g_law04_CoderEven, live_eq, Option.bind_some, Bool.not_true, cond_false, dT]
  · have loop : iter g_law04_CoderEven_r1 (l, true, [], [], l, (l.length : Int), 0, evenC, ()) = some (l, true, l, List.replicate l.length evenC, ()) := by
      obtain ⟨r, h1, h2⟩ := iter_ex (f := g_law04_CoderEven_r1) (fun x => ((l.length : Int) - x.2.2.2.2.2.2.1).toNat) (fun x => ∃ i : Nat, x = (l, true, l.take i, List.replicate i evenC, l, (l.length : Int), (i : Int), evenC, ()) ∧ i ≤ l.length)
        (fun r => r = (l, true, l, List.replicate l.length evenC, ())) (by
          rintro x ⟨i, rfl, h1⟩
          by_cases h2 : i < l.length
          · left
            have hx := hb _ (mem_getI h2)
            have ht : l.take i ++ [l.getD i 0] = l.take (i + 1) := by
              rw [List.take_add_one, List.getD_eq_getElem?_getD, List.getElem?_eq_getElem h2]; rfl
            have hr : List.replicate i evenC ++ [evenC] = List.replicate (i + 1) evenC := by rw [List.replicate_succ']
            have r1 : room 8 (l.take (i + 1)).length = true := room_iff.2 (by rw [List.length_take]; omega)
            have r2 : room 24 (List.replicate (i + 1) evenC).length = true := room_iff.2 (by rw [List.length_replicate]; omega)
            refine ⟨_, ?_, ⟨i + 1, rfl, h2⟩, by simp only; omega⟩
            simp (disch := omega) only [g_law04_CoderEven_r1, dT, wT, Int.toNat_natCast, wrap_i64, ht, hr, r1, r2, cond_true]
            rfl
          · right
            have : i = l.length := by omega
            subst this
            refine ⟨_, ?_, rfl⟩
            simp (disch := omega) only [g_law04_CoderEven_r1, dF, List.take_length]) _ ⟨0, rfl, Nat.zero_le _⟩
      have h1' : iter g_law04_CoderEven_r1 (l, true, [], [], l, (l.length : Int), 0, evenC, ()) = some r := h1
      rw [h1', h2]
    have hsm : ∀ C ∈ List.replicate l.length evenC, small C := fun C hC => by
      have := (List.mem_replicate.1 hC).2
      subst this; unfold small; rw [evenC_len]; omega
    have ha := (All_same (l := l) (F := List.replicate l.length evenC) hl (by unfold small; rw [List.length_replicate]; omega) hsm (fun s hs => by have := hb s hs; omega)).1
    have hall : allF l (List.replicate l.length evenC) = ((l ++ [64], 8 * (l.length : Int) + 2), 0) := by
      unfold allF
      rw [if_neg (by simp)]
      have hp := even_all l [] hb (by simp; omega)
      rw [show fullE [] = eBegin from rfl, List.nil_append] at hp
      rw [hp, if_neg (by simp)]
      have hlen := bits8_len l
      show EndF (fullE (bits8 l)) = _
      unfold fullE
      rw [EndF_ok (by decide) (by decide) (by decide) (by decide) (by omega)]
      unfold outS
      rw [if_neg (by omega)]
      have : outL (bits8 l) (decide ((1073741824 : Int) ≤ 0)) (0 + 1) = bits8 l ++ [false, true] := rfl
      rw [this, pk_bits8 l _ hb, hlen, show pk [false, true] = [64] from by kernel_rfl]
      congr 2
    rw [hall] at ha
    have hlen : (l ++ [(64 : Int)]).length = l.length + 1 := by simp
    have htk : (((l ++ [(64 : Int)]).take (l.length : Int).toNat).drop 0) = l := by simp
    have hgt : (l ++ [(64 : Int)]).getD ((l.length : Int).toNat) 0 = 64 := by simp [List.getD_eq_getElem?_getD]
    simp (disch := omega) only [g_law04_CoderEven, live_eq, Option.bind_some, Bool.not_true, cond_false, dF, even_eq, nF, loop, ha, cond_true, eT, wrap_i64, htk, hgt, gT, wT, strEq, beq_self_eq_true]
theorem pure_Even (x : denL [(false, .sl (.int .u8))]) (h : wfL _ x) : g_law04_CoderEven x = some true := law_Even (wf_bytes h).1 (wf_bytes h).2
end Go.Sq
/- Bits are taken, bits are joined. -/
namespace Go.Sq
open Go.Rx

/-- a number out of its bits -/
def bval : List Bool → Nat
  | [] => 0
  | b :: l => b.toNat * 2 ^ l.length + bval l
theorem bval_lt : ∀ l : List Bool, bval l < 2 ^ l.length
  | [] => by simp [bval]
  | b :: l => by
    have := bval_lt l
    have hb := bool_lt b
    simp only [bval, List.length_cons, Nat.pow_succ]
    have : b.toNat * 2 ^ l.length ≤ 1 * 2 ^ l.length := Nat.mul_le_mul_right _ (by omega)
    omega
theorem bval_app : ∀ (l m : List Bool), bval (l ++ m) = bval l * 2 ^ m.length + bval m
  | [], m => by simp [bval]
  | b :: l, m => by
    simp only [List.cons_append, bval, List.length_append, bval_app l m, Nat.pow_add, Nat.add_mul, Nat.mul_assoc]
    omega
theorem bn_bval : ∀ l : List Bool, bn (bval l) l.length = l
  | [] => rfl
  | b :: l => by
    have h := bval_lt l
    have ih := bn_bval l
    cases b
    · show bn (0 * 2 ^ l.length + bval l) (l.length + 1) = _
      rw [Nat.zero_mul, Nat.zero_add, bn_hi0 h, ih]
    · show bn (1 * 2 ^ l.length + bval l) (l.length + 1) = _
      rw [Nat.one_mul, bn_hi1 h, ih]
theorem bval_test (l : List Bool) (i : Nat) : (bval l).testBit i = (decide (i < l.length) && l.getD (l.length - 1 - i) false) := by
  by_cases h : i < l.length
  · have h1 := congrArg (fun m => m.getD (l.length - 1 - i) false) (bn_bval l)
    simp only [bn_get] at h1
    rw [← h1]
    have e : l.length - 1 - (l.length - 1 - i) = i := by omega
    have h2 : l.length - 1 - i < l.length := by omega
    simp [h, h2, e]
  · rw [Nat.testBit_lt_two_pow (Nat.lt_of_lt_of_le (bval_lt l) (Nat.pow_le_pow_right (by omega) (by omega)))]
    simp [h]
theorem getD_take {α : Type} (l : List α) (k i : Nat) (d : α) : (l.take k).getD i d = if i < k then l.getD i d else d := by
  simp only [List.getD_eq_getElem?_getD, List.getElem?_take]
  split <;> rfl
/-- some bits out of one byte -/
theorem part_eq {l : List Bool} {i k : Nat} (h : i % 8 + k ≤ 8) (hl : i + k ≤ l.length) : (byt l (i / 8) >>> (8 - i % 8 - k)) % 2 ^ k = bval ((l.drop i).take k) := by
  apply Nat.eq_of_testBit_eq
  intro j
  have hlen : ((l.drop i).take k).length = k := by rw [List.length_take, List.length_drop]; omega
  rw [Nat.testBit_mod_two_pow, Nat.testBit_shiftRight, byt_test, bval_test, hlen, getD_take, getD_drop]
  by_cases hj : j < k
  · have h1 : 8 - i % 8 - k + j < 8 := by omega
    have h2 : k - 1 - j < k := by omega
    simp only [hj, h1, h2, decide_true, Bool.true_and, if_true]
    congr 1; omega
  · simp [hj]
theorem take_step {l : List Bool} {i w v : Nat} (hl : l.length ≤ 2 ^ 40) (hi : i + w ≤ l.length) (hw : w ≤ 64) (hw0 : 0 < w) (hv : v < 2 ^ (64 - w)) :
    ∃ k, 0 < k ∧ k ≤ w ∧ g_bits_take_r1 ((i : Int), (w : Int), (v : Int), (pk l, (l.length : Int)), ()) =
      some (.inl (((i + k : Nat) : Int), ((w - k : Nat) : Int), ((v * 2 ^ k + bval ((l.drop i).take k) : Nat) : Int), (pk l, (l.length : Int)), ())) := by
  obtain ⟨left, hleft⟩ : ∃ left, left = 8 - i % 8 := ⟨_, rfl⟩
  obtain ⟨k, hk⟩ : ∃ k, k = min left w := ⟨_, rfl⟩
  have e1 : (i : Int).tdiv 8 = ((i / 8 : Nat) : Int) := tdiv_nat
  have e2 : (i : Int).tmod 8 = ((i % 8 : Nat) : Int) := tmod_nat
  have e3 : (8 : Int) - ((i % 8 : Nat) : Int) = (left : Int) := by omega
  have hkif : (if (w : Int) < (left : Int) then (w : Int) else (left : Int)) = (k : Int) := by rw [hk]; split <;> omega
  have hpl := pk_len l
  refine ⟨k, by omega, by omega, ?_⟩
  have hpart := part_eq (l := l) (i := i) (k := k) (by omega) (by omega)
  have e4 : (left : Int) - (k : Int) = ((left - k : Nat) : Int) := by omega
  have hB := byt_lt l (i / 8)
  have e5 : shrI .u8 (byt l (i / 8) : Int) ((left - k : Nat) : Int) = ((byt l (i / 8) >>> (left - k) : Nat) : Int) := shr_nat (by simp only [IntKind.bits]; omega)
  have hs : byt l (i / 8) >>> (left - k) < 256 := Nat.lt_of_le_of_lt (by rw [Nat.shiftRight_eq_div_pow]; exact Nat.div_le_self _ _) hB
  have hpow : 2 ^ k ≤ 2 ^ 8 := Nat.pow_le_pow_right (by omega) (by omega)
  have hpos := Nat.two_pow_pos k
  rw [← hleft] at hpart
  have e6 : IntKind.u8.wrap (shlI .u8 1 (k : Int) - 1) = ((2 ^ k - 1 : Nat) : Int) := by
    have h := shl_nat8 (a := 1) (n := k) (by omega)
    rw [Nat.shiftLeft_eq, Nat.one_mul] at h
    rw [show shlI .u8 1 (k : Int) = ((2 ^ k % 256 : Nat) : Int) from h]
    rcases Nat.lt_or_ge k 8 with h8 | h8
    · have : 2 ^ k ≤ 2 ^ 7 := Nat.pow_le_pow_right (by omega) (by omega)
      rw [Nat.mod_eq_of_lt (by omega), wrap_u8 (by omega) (by omega)]; omega
    · have : k = 8 := by omega
      subst this; rfl
  have e7 : bitsI .and .u8 ((byt l (i / 8) >>> (left - k) : Nat) : Int) ((2 ^ k - 1 : Nat) : Int) = ((bval ((l.drop i).take k) : Nat) : Int) := by
    rw [and_nat8 hs (by omega), Nat.and_two_pow_sub_one_eq_mod, hpart]
  have hm := bval_lt ((l.drop i).take k)
  have hlen : ((l.drop i).take k).length = k := by rw [List.length_take, List.length_drop]; omega
  rw [hlen] at hm
  have hvk : v * 2 ^ k + 2 ^ k ≤ 2 ^ 64 := by
    have h1 : (v + 1) * 2 ^ k ≤ 2 ^ (64 - w) * 2 ^ k := Nat.mul_le_mul_right _ hv
    rw [← Nat.pow_add] at h1
    have h2 : 2 ^ (64 - w + k) ≤ 2 ^ 64 := Nat.pow_le_pow_right (by omega) (by omega)
    rw [Nat.add_mul, Nat.one_mul] at h1
    omega
  have e8 : shlI .u64 (v : Int) (k : Int) = ((v * 2 ^ k : Nat) : Int) := by
    rw [shl_nat64 (by omega), Nat.shiftLeft_eq, Nat.mod_eq_of_lt (by omega)]
  have e9 : bitsI .or .u64 ((v * 2 ^ k : Nat) : Int) ((bval ((l.drop i).take k) : Nat) : Int) = ((v * 2 ^ k + bval ((l.drop i).take k) : Nat) : Int) := by
    rw [or_nat64 (by omega) (by omega)]
    congr 1
    rw [Nat.mul_comm, ← Nat.two_pow_add_eq_or_of_lt hm]
  generalize bval ((l.drop i).take k) = y at *
  generalize v * 2 ^ k = y2 at *
  generalize byt l (i / 8) >>> (left - k) = y3 at *
  generalize 2 ^ k = y4 at *
  simp (disch := omega) only [g_bits_take_r1, dT, e1, e2, e3, wrap_i64, hkif, wT, e4, Int.toNat_natCast, pk_get, e5, e6, e7, e8, e9, wrap_u64]
  rw [show (i : Int) + (k : Int) = ((i + k : Nat) : Int) from by omega, show (w : Int) - (k : Int) = ((w - k : Nat) : Int) from by omega]
theorem take_eq {l : List Bool} {i w : Nat} (hl : l.length ≤ 2 ^ 40) (hi : i + w ≤ l.length) (hw : w ≤ 64) : g_bits_take (pk l, (l.length : Int)) (i : Int) (w : Int) = some ((bval ((l.drop i).take w) : Nat) : Int) := by
  obtain ⟨r, h1, h2⟩ := iter_ex (f := g_bits_take_r1) (fun x => x.2.1.toNat)
    (fun x => ∃ (j u v : Nat), x = ((j : Int), (u : Int), (v : Int), (pk l, (l.length : Int)), ()) ∧ j + u = i + w ∧ u ≤ w ∧ v < 2 ^ (w - u) ∧ v * 2 ^ u + bval ((l.drop j).take u) = bval ((l.drop i).take w))
    (fun r => r = (((bval ((l.drop i).take w) : Nat) : Int), ())) (by
      rintro x ⟨j, u, v, rfl, h1, h2, h3, h4⟩
      rcases Nat.eq_zero_or_pos u with rfl | hu
      · right
        refine ⟨_, ?_, rfl⟩
        rw [← h4]
        simp (disch := omega) only [g_bits_take_r1, dF]
        simp [bval]
      · left
        obtain ⟨k, k1, k2, hs⟩ := take_step (l := l) (i := j) (w := u) (v := v) hl (by omega) (by omega) hu (Nat.lt_of_lt_of_le h3 (Nat.pow_le_pow_right (by omega) (by omega)))
        refine ⟨_, hs, ⟨j + k, u - k, v * 2 ^ k + bval ((l.drop j).take k), rfl, by omega, by omega, ?_, ?_⟩, by simp only; omega⟩
        · have hm := bval_lt ((l.drop j).take k)
          have hlen : ((l.drop j).take k).length = k := by rw [List.length_take, List.length_drop]; omega
          rw [hlen] at hm
          have e : 2 ^ (w - (u - k)) = 2 ^ (w - u) * 2 ^ k := by rw [← Nat.pow_add]; congr 1; omega
          have h5 : (v + 1) * 2 ^ k ≤ 2 ^ (w - u) * 2 ^ k := Nat.mul_le_mul_right _ h3
          rw [Nat.add_mul, Nat.one_mul] at h5
          rw [e]; omega
        · have hsplit : (l.drop j).take u = (l.drop j).take k ++ (l.drop (j + k)).take (u - k) := by
            rw [← List.drop_drop, ← List.take_add, show k + (u - k) = u from by omega]
          have hlen : ((l.drop (j + k)).take (u - k)).length = u - k := by rw [List.length_take, List.length_drop]; omega
          have e : 2 ^ u = 2 ^ k * 2 ^ (u - k) := by rw [← Nat.pow_add]; congr 1; omega
          rw [← h4, hsplit, bval_app, hlen, e, Nat.add_mul, Nat.mul_assoc]; omega) ((i : Int), (w : Int), 0, (pk l, (l.length : Int)), ()) ⟨i, w, 0, rfl, rfl, Nat.le_refl _, Nat.two_pow_pos _, by simp⟩
  simp only [g_bits_take, h1, h2, Option.bind_some]

/-- bits behind bits -/
theorem join_bits {M L : List Bool} (hM : M.length ≤ 65536) (hL : L.length ≤ 65536) {a b : List (List Int × Int)} {n i : Int} {z : List Int × Int} :
    iter g_bits_Join_r2 (0, a, n, i, z, (pk M, (M.length : Int)), (pk L, (L.length : Int)), ()) = some (a, n, i, z, (pk (M ++ L), ((M.length + L.length : Nat) : Int)), ()) := by
  obtain ⟨z1, z2⟩ := z
  obtain ⟨r, h1, h2⟩ := iter_ex (f := g_bits_Join_r2) (fun x => ((L.length : Int) + 8 - x.1).toNat)
    (fun x => ∃ j : Nat, x = ((j : Int), a, n, i, (z1, z2), (pk (M ++ L.take j), ((M ++ L.take j).length : Int)), (pk L, (L.length : Int)), ()) ∧ j ≤ L.length + 7 ∧ j % 8 = 0)
    (fun r => r = (a, n, i, (z1, z2), (pk (M ++ L), ((M.length + L.length : Nat) : Int)), ())) (by
      rintro x ⟨j, rfl, h1, h2⟩
      by_cases h3 : j < L.length
      · left
        obtain ⟨k, hk⟩ : ∃ k : Nat, k = min (L.length - j) 8 := ⟨_, rfl⟩
        have hkif : (if (L.length : Int) - (j : Int) < 8 then (L.length : Int) - (j : Int) else 8) = (k : Int) := by split <;> omega
        have ht := take_eq (l := L) (i := j) (w := k) (by omega) (by omega) (by omega)
        have hlen : ((L.drop j).take k).length = k := by rw [List.length_take, List.length_drop]; omega
        have hbl := bval_lt ((L.drop j).take k)
        rw [hlen] at hbl
        have h256 : 2 ^ k ≤ 2 ^ 8 := Nat.pow_le_pow_right (by omega) (by omega)
        have hml : (M ++ L.take j).length = M.length + j := by rw [List.length_append, List.length_take]; omega
        have ha := add_eq (l := M ++ L.take j) (v := bval ((L.drop j).take k)) (w := k) (by omega) (by omega) (by omega)
        have hbn := bn_bval ((L.drop j).take k)
        rw [hlen] at hbn
        rw [hbn] at ha
        have hcat : M ++ L.take j ++ (L.drop j).take k = M ++ L.take (j + 8) := by
          rw [List.append_assoc, ← List.take_add]
          congr 1
          rcases Nat.lt_or_ge L.length (j + 8) with h | h
          · rw [List.take_of_length_le (i := j + 8) (by omega), List.take_of_length_le (by omega)]
          · congr 1; omega
        rw [hcat] at ha
        have hcl : (M ++ L.take (j + 8)).length = (M ++ L.take j).length + k := by
          have := congrArg List.length hcat
          rw [List.length_append, hlen] at this; omega
        refine ⟨(((j + 8 : Nat) : Int), a, n, i, (z1, z2), (pk (M ++ L.take (j + 8)), ((M ++ L.take (j + 8)).length : Int)), (pk L, (L.length : Int)), ()), ?_, ⟨j + 8, rfl, by omega, by omega⟩, by simp only; omega⟩
        rw [hcl]
        rw [show ((j + 8 : Nat) : Int) = (j : Int) + 8 from by omega]
        simp (disch := omega) only [g_bits_Join_r2, dT, wrap_i64, hkif, ht, Option.bind_some, ha]
      · right
        refine ⟨_, ?_, rfl⟩
        have e : L.take j = L := List.take_of_length_le (by omega)
        rw [e]
        have e2 : ((M ++ L).length : Int) = ((M.length + L.length : Nat) : Int) := by rw [List.length_append]
        rw [← e2]
        simp (disch := omega) only [g_bits_Join_r2, dF]) (0, a, n, i, (z1, z2), (pk M, (M.length : Int)), (pk L, (L.length : Int)), ()) ⟨0, by simp, by omega, rfl⟩
  rw [h1, h2]
theorem join_two {L T : List Bool} (hL : L.length ≤ 65536) (hT : T.length ≤ 65536) :
    g_bits_Join [(pk L, (L.length : Int)), (pk T, (T.length : Int))] = some (if L.length + T.length > 65536 then (([], 0), 2) else ((pk (L ++ T), ((L.length + T.length : Nat) : Int)), 0)) := by
  obtain ⟨a, ha⟩ : ∃ a, a = [(pk L, (L.length : Int)), (pk T, (T.length : Int))] := ⟨_, rfl⟩
  have g0 : a.getD 0 ([], 0) = (pk L, (L.length : Int)) := by rw [ha]; rfl
  have g1 : a.getD 1 ([], 0) = (pk T, (T.length : Int)) := by rw [ha]; rfl
  have hlen : (a.length : Int) = 2 := by rw [ha]; rfl
  have hlen' : a.length = 2 := by omega
  have c0 := bits_Check_eq (N := L.length) (pk_bytes L) (small_pk hL)
  rw [ck_pk hL] at c0
  have c1 := bits_Check_eq (N := T.length) (pk_bytes T) (small_pk hT)
  rw [ck_pk hT] at c1
  have t0 : (0 : Int).toNat = 0 := rfl
  have t1 : (1 : Int).toNat = 1 := rfl
  have loop : iter g_bits_Join_r1 (a, 0, a, 2, 0, ([], 0), ()) = some (.inl (a, ((L.length + T.length : Nat) : Int), ([], 0), ())) := by
    rw [iter_inl (y := (a, (L.length : Int), a, 2, 1, ([], 0), ()))]
    · rw [iter_inl (y := (a, ((L.length + T.length : Nat) : Int), a, 2, 2, ([], 0), ()))]
      · apply iter_inr
        simp (disch := omega) only [g_bits_Join_r1, dF]
      · have e : (L.length : Int) + (T.length : Int) = ((L.length + T.length : Nat) : Int) := by omega
        simp (disch := omega) only [g_bits_Join_r1, dT, wT, t1, g1, c1, Option.bind_some, nF, wrap_i64, e]
        rfl
    · simp (disch := omega) only [g_bits_Join_r1, dT, wT, t0, g0, c0, Option.bind_some, nF, wrap_i64]
      simp
  rw [← ha]
  by_cases h : L.length + T.length > 65536
  · rw [if_pos h]
    simp (disch := omega) only [g_bits_Join, hlen, loop, Option.bind_some, dT]
  · rw [if_neg h]
    have j0 : ∀ b : Int, iter g_bits_Join_r2 (0, a, 2, b, ([], 0), ([], 0), (pk L, (L.length : Int)), ()) = some (a, 2, b, ([], 0), (pk L, (L.length : Int)), ()) := fun b => by
      have h := join_bits (M := []) (L := L) (by simp) hL (a := a) (b := a) (n := 2) (i := b) (z := ([], 0))
      rw [List.nil_append, List.length_nil, Nat.zero_add] at h
      exact h
    have j1 := fun (b : Int) => join_bits (M := L) (L := T) hL hT (a := a) (b := a) (n := 2) (i := b) (z := ([], 0))
    have loop3 : iter g_bits_Join_r3 (a, 2, 0, ([], 0), ([], 0), ()) = some (([], 0), (pk (L ++ T), ((L.length + T.length : Nat) : Int)), ()) := by
      rw [iter_inl (y := (a, 2, 1, ([], 0), (pk L, (L.length : Int)), ()))]
      · rw [iter_inl (y := (a, 2, 2, ([], 0), (pk (L ++ T), ((L.length + T.length : Nat) : Int)), ()))]
        · apply iter_inr
          simp (disch := omega) only [g_bits_Join_r3, dF]
        · simp (disch := omega) only [g_bits_Join_r3, dT, wT, t1, g1, j1, Option.bind_some, wrap_i64]
          rfl
      · simp (disch := omega) only [g_bits_Join_r3, dT, wT, t0, g0, j0, Option.bind_some, wrap_i64]
        rfl
    simp (disch := omega) only [g_bits_Join, hlen, loop, Option.bind_some, dF, loop3]
end Go.Sq
/- The law CoderBack: what was put is had back. -/
namespace Go.Sq
open Go.Rx

/-- where a coder's interval begins, in whole numbers -/
def base (l : List Bool) (w : Nat) : Int := (bval l : Int) * (4294967296 * 2 ^ w) + 2147483648 * (2 ^ w - 1)
theorem bval_rep (b : Bool) : ∀ k, bval (List.replicate k b) = b.toNat * (2 ^ k - 1)
  | 0 => by simp [bval]
  | k + 1 => by
    have := Nat.two_pow_pos k
    rw [List.replicate_succ, bval, bval_rep b k, List.length_replicate, Nat.pow_succ]
    cases b
    · simp
    · simp; omega
theorem bval_outL (l : List Bool) (b : Bool) (w : Nat) : bval (outL l b w) = bval l * 2 ^ w * 2 + (b.toNat * 2 ^ w + (!b).toNat * (2 ^ w - 1)) := by
  unfold outL
  rw [bval_app, bval, bval_rep, List.length_cons, List.length_replicate, Nat.pow_succ, Nat.mul_assoc]
theorem base_out0 (l : List Bool) (w : Nat) : base (outL l false w) 0 = 2 * base l w := by
  unfold base
  rw [bval_outL]
  have hp : (1 : Int) ≤ 2 ^ w := by have := Int.pow_pos (n := 2) (m := w) (by decide); omega
  have hc : ((2 ^ w : Nat) : Int) = (2 : Int) ^ w := by simp
  have h1 : (((bval l * 2 ^ w * 2 + (false.toNat * 2 ^ w + (!false).toNat * (2 ^ w - 1)) : Nat)) : Int) = (bval l : Int) * 2 ^ w * 2 + (2 ^ w - 1) := by
    have : bval l * 2 ^ w * 2 + (false.toNat * 2 ^ w + (!false).toNat * (2 ^ w - 1)) = bval l * 2 ^ w * 2 + (2 ^ w - 1) := by simp
    rw [this]
    have hp' := Nat.two_pow_pos w
    rw [Int.natCast_add, Int.natCast_mul, Int.natCast_mul, hc]
    omega
  rw [h1]
  have h2 : (bval l : Int) * (4294967296 * 2 ^ w) = 4294967296 * ((bval l : Int) * 2 ^ w) := by rw [Int.mul_left_comm]
  rw [h2]
  simp
  omega
theorem base_out1 (l : List Bool) (w : Nat) : base (outL l true w) 0 = 2 * base l w + 4294967296 := by
  unfold base
  rw [bval_outL]
  have hc : ((2 ^ w : Nat) : Int) = (2 : Int) ^ w := by simp
  have h1 : (((bval l * 2 ^ w * 2 + (true.toNat * 2 ^ w + (!true).toNat * (2 ^ w - 1)) : Nat)) : Int) = (bval l : Int) * 2 ^ w * 2 + 2 ^ w := by
    have : bval l * 2 ^ w * 2 + (true.toNat * 2 ^ w + (!true).toNat * (2 ^ w - 1)) = bval l * 2 ^ w * 2 + 2 ^ w := by simp
    rw [this, Int.natCast_add, Int.natCast_mul, Int.natCast_mul, hc]
    omega
  rw [h1]
  have h2 : (bval l : Int) * (4294967296 * 2 ^ w) = 4294967296 * ((bval l : Int) * 2 ^ w) := by rw [Int.mul_left_comm]
  rw [h2]
  simp
  omega
theorem base_wait (l : List Bool) (w : Nat) : base l (w + 1) = 2 * base l w + 2147483648 := by
  unfold base
  have h2 : ∀ x : Int, (bval l : Int) * (4294967296 * x) = 4294967296 * ((bval l : Int) * x) := fun x => Int.mul_left_comm _ _ _
  have h3 : (bval l : Int) * (2 ^ w * 2) = (bval l : Int) * 2 ^ w * 2 := (Int.mul_assoc _ _ _).symm
  rw [h2, h2, Int.pow_succ, h3]
  omega
/-- the stream's number, as one sees it -/
def seen (B : List Bool) (w : Nat) (l : List Bool) : Int := codeS B (l.length + w + 32) - base l w
def inside (B : List Bool) (lo hi : Int) (w : Nat) (l : List Bool) : Prop := lo ≤ seen B w l ∧ seen B w l ≤ hi
theorem seen_out0 (B : List Bool) (w : Nat) (l : List Bool) : seen B 0 (outL l false w) = 2 * seen B w l + bI B (l.length + w + 32) := by
  unfold seen
  rw [base_out0, outL_len, show l.length + w + 1 + 0 + 32 = (l.length + w + 32) + 1 from by omega, codeS]; omega
theorem seen_out1 (B : List Bool) (w : Nat) (l : List Bool) : seen B 0 (outL l true w) = 2 * (seen B w l - 2147483648) + bI B (l.length + w + 32) := by
  unfold seen
  rw [base_out1, outL_len, show l.length + w + 1 + 0 + 32 = (l.length + w + 32) + 1 from by omega, codeS]; omega
theorem seen_wait (B : List Bool) (w : Nat) (l : List Bool) : seen B (w + 1) l = 2 * (seen B w l - 1073741824) + bI B (l.length + w + 32) := by
  unfold seen
  rw [base_wait, show l.length + (w + 1) + 32 = (l.length + w + 32) + 1 from by omega, codeS]; omega
theorem widS_ok : ∀ {n : Nat} {lo hi : Int} {w : Nat} {l : List Bool} {lo' hi' : Int} {w' : Nat} {l' : List Bool}, roomy n lo hi → widS (n + 1) lo hi w l = some (lo', hi', w', l') →
    goodP lo' hi' ∧ 0 ≤ lo' ∧ hi' < 4294967296 ∧ ∃ k, l'.length + w' = l.length + w + k ∧ hi' - lo' + 1 = (hi - lo + 1) * 2 ^ k := by
  intro n
  induction n with
  | zero =>
    intro lo hi w l lo' hi' w' l' hr h
    have := roomy_zero hr
    rw [widS, if_neg (by omega), if_neg (by omega), if_neg (by omega)] at h
    cases h
    exact ⟨by unfold goodP; omega, by omega, by omega, 0, rfl, by simp⟩
  | succ n ih =>
    intro lo hi w l lo' hi' w' l' hr h
    obtain ⟨r1, r2, r3, r4⟩ := hr
    have hr : roomy (n + 1) lo hi := ⟨r1, r2, r3, r4⟩
    have dbl : ∀ (a k : Int) (m : Nat), a = 2 * k → a * 2 ^ m = k * 2 ^ (m + 1) := fun a k m e => by rw [e, Int.pow_succ, Int.mul_comm 2 k, Int.mul_assoc, Int.mul_comm 2]
    rw [widS] at h
    by_cases c1 : hi < 2147483648
    · rw [if_pos c1] at h
      split at h
      · cases h
      · obtain ⟨a1, a2, a3, k, a4, a5⟩ := ih (roomy_next hr (by omega) (by omega) (by omega)) h
        rw [outL_len] at a4
        exact ⟨a1, a2, a3, k + 1, by omega, by rw [a5]; exact dbl _ _ _ (by omega)⟩
    rw [if_neg c1] at h
    by_cases c2 : lo ≥ 2147483648
    · rw [if_pos c2] at h
      split at h
      · cases h
      · obtain ⟨a1, a2, a3, k, a4, a5⟩ := ih (roomy_next hr (by omega) (by omega) (by omega)) h
        rw [outL_len] at a4
        exact ⟨a1, a2, a3, k + 1, by omega, by rw [a5]; exact dbl _ _ _ (by omega)⟩
    rw [if_neg c2] at h
    by_cases c3 : lo ≥ 1073741824 ∧ hi < 3221225472
    · rw [if_pos c3] at h
      obtain ⟨a1, a2, a3, k, a4, a5⟩ := ih (roomy_next hr (by omega) (by omega) (by omega)) h
      exact ⟨a1, a2, a3, k + 1, by omega, by rw [a5]; exact dbl _ _ _ (by omega)⟩
    · rw [if_neg c3] at h
      cases h
      exact ⟨by unfold goodP; omega, r1, r3, 0, rfl, by simp⟩
/-- who reads goes where the coder went -/
theorem follow {B : List Bool} : ∀ {n : Nat} {lo hi : Int} {w : Nat} {l : List Bool} {lo' hi' : Int} {w' : Nat} {l' : List Bool}, roomy n lo hi → widS (n + 1) lo hi w l = some (lo', hi', w', l') → inside B lo' hi' w' l' →
    inside B lo hi w l ∧ decS (n + 1) lo hi (seen B w l) (l.length + w + 32) B = (lo', hi', seen B w' l', l'.length + w' + 32) := by
  intro n
  induction n with
  | zero =>
    intro lo hi w l lo' hi' w' l' hr h hin
    have := roomy_zero hr
    rw [widS, if_neg (by omega), if_neg (by omega), if_neg (by omega)] at h
    cases h
    refine ⟨hin, ?_⟩
    rw [decS, if_neg (by omega), if_neg (by omega), if_neg (by omega)]
  | succ n ih =>
    intro lo hi w l lo' hi' w' l' hr h hin
    obtain ⟨r1, r2, r3, r4⟩ := hr
    have hr : roomy (n + 1) lo hi := ⟨r1, r2, r3, r4⟩
    have hb := bI_range B (l.length + w + 32)
    rw [widS] at h
    rw [decS]
    by_cases c1 : hi < 2147483648
    · rw [if_pos c1] at h ⊢
      split at h
      · cases h
      · obtain ⟨⟨a1, a2⟩, a3⟩ := ih (roomy_next hr (by omega) (by omega) (by omega)) h hin
        rw [seen_out0] at a1 a2 a3
        rw [outL_len, show l.length + w + 1 + 0 + 32 = l.length + w + 32 + 1 from by omega] at a3
        exact ⟨⟨by omega, by omega⟩, a3⟩
    rw [if_neg c1] at h ⊢
    by_cases c2 : lo ≥ 2147483648
    · rw [if_pos c2] at h ⊢
      split at h
      · cases h
      · obtain ⟨⟨a1, a2⟩, a3⟩ := ih (roomy_next hr (by omega) (by omega) (by omega)) h hin
        rw [seen_out1] at a1 a2 a3
        rw [outL_len, show l.length + w + 1 + 0 + 32 = l.length + w + 32 + 1 from by omega] at a3
        exact ⟨⟨by omega, by omega⟩, a3⟩
    rw [if_neg c2] at h ⊢
    by_cases c3 : lo ≥ 1073741824 ∧ hi < 3221225472
    · rw [if_pos c3] at h ⊢
      obtain ⟨⟨a1, a2⟩, a3⟩ := ih (roomy_next hr (by omega) (by omega) (by omega)) h hin
      rw [seen_wait] at a1 a2 a3
      rw [show l.length + (w + 1) + 32 = l.length + w + 32 + 1 from by omega] at a3
      exact ⟨⟨by omega, by omega⟩, a3⟩
    · rw [if_neg c3] at h ⊢
      cases h
      exact ⟨hin, rfl⟩
/-- what lies within what a symbol narrows to, is that symbol's -/
theorem within_find {lo hi c t a b : Int} (hR : 0 < hi - lo + 1) (ht : 1 ≤ t) (h1 : narL lo hi a t ≤ c) (h2 : c ≤ narH lo hi b t) : a ≤ findX lo hi c t ∧ findX lo hi c t < b := by
  unfold narL at h1
  unfold narH at h2
  have g1 : (hi - lo + 1) * a < (c - lo + 1) * t := by
    have := Int.lt_ediv_add_one_mul_self ((hi - lo + 1) * a) (show 0 < t by omega)
    have h3 : ((hi - lo + 1) * a / t + 1) * t ≤ (c - lo + 1) * t := Int.mul_le_mul_of_nonneg_right (by omega) (by omega)
    omega
  have g2 : (c - lo + 1) * t ≤ (hi - lo + 1) * b := by
    have h3 := Int.ediv_mul_le ((hi - lo + 1) * b) (show t ≠ 0 by omega)
    have h4 : (c - lo + 1) * t ≤ (hi - lo + 1) * b / t * t := Int.mul_le_mul_of_nonneg_right (by omega) (by omega)
    omega
  unfold findX
  constructor
  · apply Int.le_ediv_of_mul_le hR
    rw [Int.mul_comm a]; omega
  · apply Int.ediv_lt_of_lt_mul hR
    rw [Int.mul_comm b]; omega
theorem codeS_pre (L T : List Bool) : ∀ k, ∃ r : Int, codeS (L ++ T) (L.length + k) = (bval L : Int) * 2 ^ k + r ∧ 0 ≤ r ∧ r < 2 ^ k := by
  have h0 : codeS (L ++ T) L.length = bval L := by
    have key : ∀ (M N : List Bool), codeS (M ++ N) M.length = bval M := by
      intro M
      generalize hn : M.length = n
      induction n generalizing M with
      | zero =>
        intro N
        have : M = [] := List.length_eq_zero_iff.1 hn
        subst this; rfl
      | succ n ih =>
        intro N
        have hne : M ≠ [] := by rintro rfl; simp at hn
        obtain ⟨M', b, rfl⟩ : ∃ M' b, M = M' ++ [b] := ⟨M.dropLast, M.getLast hne, (List.dropLast_concat_getLast hne).symm⟩
        have hl : M'.length = n := by simp at hn; omega
        have := ih M' hl ([b] ++ N)
        rw [← List.append_assoc] at this
        rw [codeS, this, bval_app]
        have hb : bI (M' ++ [b] ++ N) n = (b.toNat : Int) := by
          unfold bI
          rw [List.append_assoc, getD_app, if_neg (by omega), hl, Nat.sub_self]; rfl
        rw [hb]
        simp [bval]
        omega
    exact key L T
  intro k
  induction k with
  | zero => exact ⟨0, by rw [Nat.add_zero, h0]; simp, by decide, by decide⟩
  | succ k ih =>
    obtain ⟨r, h1, h2, h3⟩ := ih
    have hb := bI_range (L ++ T) (L.length + k)
    refine ⟨2 * r + bI (L ++ T) (L.length + k), ?_, by omega, by rw [Int.pow_succ]; omega⟩
    rw [← Nat.add_assoc, codeS, h1, Int.pow_succ, ← Int.mul_assoc]
    omega
/-- the end of a coder's work lies within -/
theorem end_inside {lo hi : Int} {w : Nat} {l T : List Bool} (h0 : 0 ≤ lo) (hh : hi < 4294967296) (hg : goodP lo hi) : inside (outL l (decide (1073741824 ≤ lo)) (w + 1) ++ T) lo hi w l := by
  unfold inside seen
  have hlen := outL_len l (decide (1073741824 ≤ lo)) (w + 1)
  obtain ⟨r, h1, h2, h3⟩ := codeS_pre (outL l (decide (1073741824 ≤ lo)) (w + 1)) T 30
  rw [hlen, show l.length + (w + 1) + 1 + 30 = l.length + w + 32 from by omega] at h1
  rw [h1, bval_outL]
  have hc : ((2 ^ w : Nat) : Int) = (2 : Int) ^ w := by simp
  have hp : (1 : Int) ≤ 2 ^ w := by have := Int.pow_pos (n := 2) (m := w) (by decide); omega
  have hp' := Nat.two_pow_pos w
  unfold base
  have e2 : (bval l : Int) * (4294967296 * 2 ^ w) = 4294967296 * ((bval l : Int) * 2 ^ w) := Int.mul_left_comm _ _ _
  rw [e2]
  have e30 : (2 : Int) ^ 30 = 1073741824 := by decide
  rw [e30] at h3 ⊢
  obtain ⟨g1, g2, g3, g4⟩ := hg
  have hx : ((bval l * 2 ^ (w + 1) : Nat) : Int) = (bval l : Int) * 2 ^ w * 2 := by
    rw [Nat.pow_succ, ← Nat.mul_assoc, Int.natCast_mul, Int.natCast_mul, hc]; rfl
  by_cases hq : 1073741824 ≤ lo
  · rw [decide_eq_true hq]
    have e1 : ((bval l * 2 ^ (w + 1) * 2 + (true.toNat * 2 ^ (w + 1) + (!true).toNat * (2 ^ (w + 1) - 1)) : Nat) : Int) = (bval l : Int) * 2 ^ w * 2 * 2 + 2 ^ w * 2 := by
      have : bval l * 2 ^ (w + 1) * 2 + (true.toNat * 2 ^ (w + 1) + (!true).toNat * (2 ^ (w + 1) - 1)) = bval l * 2 ^ (w + 1) * 2 + 2 ^ w * 2 := by simp [Nat.pow_succ]
      rw [this, Int.natCast_add, Int.natCast_mul, hx, Int.natCast_mul, hc]; rfl
    rw [e1]
    generalize (bval l : Int) * 2 ^ w = X at *
    generalize (2 : Int) ^ w = Y at *
    omega
  · rw [decide_eq_false hq]
    have e1 : ((bval l * 2 ^ (w + 1) * 2 + (false.toNat * 2 ^ (w + 1) + (!false).toNat * (2 ^ (w + 1) - 1)) : Nat) : Int) = (bval l : Int) * 2 ^ w * 2 * 2 + (2 ^ w * 2 - 1) := by
      have : bval l * 2 ^ (w + 1) * 2 + (false.toNat * 2 ^ (w + 1) + (!false).toNat * (2 ^ (w + 1) - 1)) = bval l * 2 ^ (w + 1) * 2 + (2 ^ w * 2 - 1) := by simp [Nat.pow_succ]
      rw [this, Int.natCast_add, Int.natCast_mul, hx]
      omega
    rw [e1]
    generalize (bval l : Int) * 2 ^ w = X at *
    generalize (2 : Int) ^ w = Y at *
    omega
end Go.Sq
/- The law CoderBack, at last. -/
namespace Go.Sq
open Go.Rx

def encE (lo hi : Int) (w : Nat) (l : List Bool) : EncT := (lo, (hi, ((w : Int), (pk l, (l.length : Int)))))
def decD (B : List Bool) (lo hi : Int) (w : Nat) (l : List Bool) : DecT := (lo, (hi, (seen B w l, ((pk B, (B.length : Int)), ((l.length + w + 32 : Nat) : Int)))))
/-- is it a coder's state at work? -/
structure atWork (lo hi : Int) (w : Nat) (l : List Bool) : Prop where
  lo0 : 0 ≤ lo
  hi1 : hi < 4294967296
  good : goodP lo hi
  wait : w ≤ 65536
  len : l.length ≤ 65536
/-- a Put that came to something -/
theorem put_zero {lo hi : Int} {w : Nat} {l : List Bool} (h : atWork lo hi w l) {C : List Int} {s : Int} (hC : small C) (hs : s < 2 ^ 63) (hz : (PutF (encE lo hi w l) C s).2 = 0) :
    okSpan C s ∧ ∃ (lo' hi' : Int) (w' : Nat) (l' : List Bool), widS 33 (narL lo hi (C.getD s.toNat 0) (totS C)) (narH lo hi (C.getD (s.toNat + 1) 0) (totS C)) w l = some (lo', hi', w', l') ∧ atWork lo' hi' w' l' ∧ PutF (encE lo hi w l) C s = (encE lo' hi' w' l', 0) := by
  have hgl := h.good.1
  have h1 := h.lo0
  have h2 := h.hi1
  have hwf : wfE (encE lo hi w l) := wfE_pk ⟨h1, by omega⟩ ⟨by omega, h2⟩ h.len
  by_cases ho : okSpan C s
  · refine ⟨ho, ?_⟩
    have hp := PutF_ok h1 h2 h.good h.wait h.len ho
    unfold encE at hz ⊢
    rw [hp] at hz ⊢
    obtain ⟨_, t1, t2⟩ := totS_pos ho.1
    obtain ⟨a0, a1, a2⟩ := span_ok ho.1 ho.2.1 ho.2.2
    have hgw := good_wide h.good
    obtain ⟨f1, f2, f3, f4, f5, f6, f7⟩ := nar_facts (r := hi - lo + 1) (a := C.getD s.toNat 0) (b := C.getD (s.toNat + 1) 0) (t := totS C) (by omega) (by omega) a0 a1 a2 t1 t2
    have hL : narL lo hi (C.getD s.toNat 0) (totS C) = lo + (hi - lo + 1) * C.getD s.toNat 0 / totS C := rfl
    have hH : narH lo hi (C.getD (s.toNat + 1) 0) (totS C) = lo + (hi - lo + 1) * C.getD (s.toNat + 1) 0 / totS C - 1 := rfl
    have hroom : roomy 32 (narL lo hi (C.getD s.toNat 0) (totS C)) (narH lo hi (C.getD (s.toNat + 1) 0) (totS C)) := roomy_start (by rw [hL]; omega) (by rw [hL, hH]; omega) (by rw [hH]; omega)
    cases hW : widS 33 (narL lo hi (C.getD s.toNat 0) (totS C)) (narH lo hi (C.getD (s.toNat + 1) 0) (totS C)) w l with
    | none =>
      unfold putR at hz
      rw [hW] at hz
      simp [doneS, flip3] at hz
    | some r =>
      obtain ⟨lo', hi', w', l'⟩ := r
      have hw' : w' ≤ 65536 := by
        rcases Nat.lt_or_ge 65536 w' with h5 | h5
        · unfold putR at hz
          rw [hW] at hz
          simp [doneS, flip3, h5] at hz
        · exact h5
      obtain ⟨b1, b2, b3, _⟩ := widS_ok hroom hW
      have b4 := (widS_len h.len hW).1
      have b5 := b1.1
      exact ⟨lo', hi', w', l', rfl, ⟨b2, b3, b1, hw', b4⟩, putR_eq rfl hW hw' ⟨b2, by omega⟩ ⟨by omega, b3⟩⟩
  · exfalso
    rw [(show PutF (encE lo hi w l) C s = ((0, (0, (0, ([], 0)))), 1) by unfold PutF; rw [coder_Put_bad hwf hC hs (fun hh => ho hh.2)]; rfl)] at hz
    cases hz
theorem run_back : ∀ (zs : List (Int × List Int)) {lo hi : Int} {w : Nat} {l : List Bool}, atWork lo hi w l → (∀ z ∈ zs, small z.2 ∧ z.1 < 2 ^ 63) → (putAll zs (encE lo hi w l)).2 = 0 →
    ∃ (lo' hi' : Int) (w' : Nat) (l' : List Bool), putAll zs (encE lo hi w l) = (encE lo' hi' w' l', 0) ∧ atWork lo' hi' w' l' ∧ l.length + w ≤ l'.length + w' ∧
      ∀ B : List Bool, B.length ≤ 65536 → l'.length + w' ≤ B.length → inside B lo' hi' w' l' → inside B lo hi w l ∧ ∀ acc, backS (zs.map (·.2)) (decD B lo hi w l) acc = (acc ++ zs.map (·.1), 0)
  | [], lo, hi, w, l, h, _, _ => ⟨lo, hi, w, l, rfl, h, Nat.le_refl _, fun B _ _ hin => ⟨hin, fun acc => by simp [backS]⟩⟩
  | (s, C) :: zs, lo, hi, w, l, h, hz, hp => by
    rw [putAll] at hp
    have hzC : small C := (hz (s, C) List.mem_cons_self).1
    have hzs : s < 2 ^ 63 := (hz (s, C) List.mem_cons_self).2
    have hp : (if (PutF (encE lo hi w l) C s).2 ≠ 0 then (zEnc, (PutF (encE lo hi w l) C s).2) else putAll zs (PutF (encE lo hi w l) C s).1).2 = 0 := hp
    have hz0 : (PutF (encE lo hi w l) C s).2 = 0 := by
      by_cases h0 : (PutF (encE lo hi w l) C s).2 = 0
      · exact h0
      · rw [if_pos h0] at hp; exact absurd hp h0
    rw [if_neg (by simp [hz0])] at hp
    obtain ⟨hsp, lo1, hi1, w1, l1, hW, hat, hput⟩ := put_zero (C := C) (s := s) h hzC hzs hz0
    rw [hput] at hp
    obtain ⟨lo', hi', w', l', e1, e2, e3, e4⟩ := run_back zs hat (fun z hz' => hz z (List.mem_cons_of_mem _ hz')) hp
    have h1 := h.lo0
    have h2 := h.hi1
    have hgl := h.good.1
    obtain ⟨_, t1, t2⟩ := totS_pos hsp.1
    obtain ⟨a0, a1, a2⟩ := span_ok hsp.1 hsp.2.1 hsp.2.2
    have hgw := good_wide h.good
    obtain ⟨f1, f2, f3, f4, f5, f6, f7⟩ := nar_facts (r := hi - lo + 1) (a := C.getD s.toNat 0) (b := C.getD (s.toNat + 1) 0) (t := totS C) (by omega) (by omega) a0 a1 a2 t1 t2
    have hL : narL lo hi (C.getD s.toNat 0) (totS C) = lo + (hi - lo + 1) * C.getD s.toNat 0 / totS C := rfl
    have hH : narH lo hi (C.getD (s.toNat + 1) 0) (totS C) = lo + (hi - lo + 1) * C.getD (s.toNat + 1) 0 / totS C - 1 := rfl
    have hroom : roomy 32 (narL lo hi (C.getD s.toNat 0) (totS C)) (narH lo hi (C.getD (s.toNat + 1) 0) (totS C)) := roomy_start (by rw [hL]; omega) (by rw [hL, hH]; omega) (by rw [hH]; omega)
    obtain ⟨b1, b2, b3, k, b4, _⟩ := widS_ok hroom hW
    refine ⟨lo', hi', w', l', ?_, e2, by omega, fun B hB hlen hin => ?_⟩
    · rw [putAll, if_neg (by simp [hz0]), hput]; exact e1
    · obtain ⟨g1, g2⟩ := e4 B hB hlen hin
      obtain ⟨⟨q1, q2⟩, q3⟩ := follow hroom hW g1
      have hs1 := hsp.2.1
      have hs2 := hsp.2.2
      have hsym : isSym C (findX lo hi (seen B w l) (totS C)) s.toNat := by
        obtain ⟨x1, x2⟩ := within_find (by omega) t1 q1 q2
        exact ⟨by omega, x1, x2⟩
      have hin2 : inside B lo hi w l := ⟨by rw [hL] at q1; omega, by rw [hH] at q2; omega⟩
      refine ⟨hin2, fun acc => ?_⟩
      have hnext : NextF (decD B lo hi w l) C = (decD B lo1 hi1 w1 l1, (((s.toNat : Nat) : Int), 0)) := by
        unfold decD
        rw [NextF_ok h1 h2 h.good hin2.1 hin2.2 hB (by omega) (by omega) hsp.1 hsym]
        have b5 := b1.1
        have g3 := g1.1
        have g4 := g1.2
        exact nextR_eq rfl q3 ⟨b2, by omega⟩ ⟨by omega, b3⟩ ⟨by omega, by omega⟩
      rw [List.map_cons, backS, hnext]
      simp only [ne_eq, not_true_eq_false, if_false]
      rw [g2]
      have : ((s.toNat : Nat) : Int) = s := by omega
      rw [this]
      simp
theorem atWork_begin : atWork 0 4294967295 0 [] := ⟨by decide, by decide, by decide, by decide, by decide⟩
theorem map_zip {l : List Int} {F : List (List Int)} (h : l.length = F.length) : (l.zip F).map (·.1) = l ∧ (l.zip F).map (·.2) = F := by
  constructor
  · exact List.map_fst_zip (by omega)
  · exact List.map_snd_zip (by omega)
/-- what All makes is had back, whatever stands behind -/
theorem all_back {l : List Int} {F : List (List Int)} (hC : ∀ C ∈ F, small C) (hs : ∀ s ∈ l, s < 2 ^ 63) (hz : (allF l F).2 = 0) :
    ∃ L : List Bool, allF l F = ((pk L, (L.length : Int)), 0) ∧ L.length ≤ 65536 ∧ ∀ T : List Bool, L.length + T.length ≤ 65536 → backF (pk (L ++ T), ((L ++ T).length : Int)) F = (l, 0) := by
  unfold allF at hz ⊢
  by_cases h : l.length = F.length
  · rw [if_neg (by omega)] at hz ⊢
    have hp : (putAll (l.zip F) eBegin).2 = 0 := by
      by_cases h0 : (putAll (l.zip F) eBegin).2 = 0
      · exact h0
      · rw [if_pos h0] at hz; exact absurd hz h0
    rw [if_neg (by simp [hp])] at hz ⊢
    have hb : eBegin = encE 0 4294967295 0 [] := rfl
    rw [hb] at hp hz ⊢
    have hmem : ∀ z ∈ l.zip F, small z.2 ∧ z.1 < 2 ^ 63 := fun z hz => ⟨hC _ (List.of_mem_zip hz).2, hs _ (List.of_mem_zip hz).1⟩
    obtain ⟨lo', hi', w', l', e1, e2, e3, e4⟩ := run_back (l.zip F) atWork_begin hmem hp
    rw [e1] at hz ⊢
    dsimp only at hz ⊢
    have he := EndF_ok e2.lo0 e2.hi1 e2.good e2.wait e2.len
    unfold encE at hz ⊢
    rw [he] at hz ⊢
    unfold outS at hz ⊢
    by_cases hlong : l'.length + (w' + 1) + 1 > 65536
    · rw [if_pos hlong] at hz; cases hz
    · rw [if_neg hlong]
      have hlen := outL_len l' (decide (1073741824 ≤ lo')) (w' + 1)
      refine ⟨outL l' (decide (1073741824 ≤ lo')) (w' + 1), by rw [hlen], by omega, fun T hT => ?_⟩
      have hBl : (outL l' (decide (1073741824 ≤ lo')) (w' + 1) ++ T).length = l'.length + (w' + 1) + 1 + T.length := by rw [List.length_append, hlen]
      obtain ⟨_, g2⟩ := e4 (outL l' (decide (1073741824 ≤ lo')) (w' + 1) ++ T) (by omega) (by omega) (end_inside e2.lo0 e2.hi1 e2.good)
      generalize outL l' (decide (1073741824 ≤ lo')) (w' + 1) ++ T = B at *
      have hBB : B.length ≤ 65536 := by omega
      have hst : StartF (pk B, (B.length : Int)) = (decD B 0 4294967295 0 [], 0) := by
        unfold StartF
        rw [coder_Start_ok hBB]
        unfold decD seen base
        simp [bval]
      unfold backF
      rw [hst, if_neg (by simp)]
      have := g2 []
      rw [(map_zip h).1, (map_zip h).2] at this
      simpa using this
  · rw [if_pos h] at hz; cases hz
theorem all_err {l : List Int} {F : List (List Int)} (hC : ∀ C ∈ F, small C) (hs : ∀ s ∈ l, s < 2 ^ 63) (hz : (allF l F).2 ≠ 0) : (allF l F).1.2 = 0 := by
  unfold allF at hz ⊢
  by_cases h : l.length = F.length
  · rw [if_neg (by omega)] at hz ⊢
    by_cases h0 : (putAll (l.zip F) eBegin).2 = 0
    · rw [if_neg (by simp [h0])] at hz ⊢
      have hb : eBegin = encE 0 4294967295 0 [] := rfl
      rw [hb] at h0 hz ⊢
      obtain ⟨lo', hi', w', l', e1, e2, _, _⟩ := run_back (l.zip F) atWork_begin (fun z hz => ⟨hC _ (List.of_mem_zip hz).2, hs _ (List.of_mem_zip hz).1⟩) h0
      rw [e1] at hz ⊢
      dsimp only at hz ⊢
      have he := EndF_ok e2.lo0 e2.hi1 e2.good e2.wait e2.len
      unfold encE at hz ⊢
      rw [he] at hz ⊢
      unfold outS at hz ⊢
      split
      · rfl
      · rename_i hh; rw [if_neg hh] at hz; exact absurd rfl hz
    · rw [if_pos h0]
  · rw [if_pos h]
theorem law_Back {l : List Int} {F : List (List Int)} {b : List Int × Int} (hl : small l) (hl2 : ∀ s ∈ l, s < 2 ^ 63) (hF : small F) (hC : ∀ C ∈ F, small C) (hb : bytes b.1) (hb2 : small b.1) : g_law04_CoderBack l F b = some true := by
  obtain ⟨B, N⟩ := b
  have hf := few_eq (N := N) hF hb2
  by_cases h : (∀ C ∈ F, C.length ≤ 400) ∧ B.length ≤ 9000 ∧ F.length ≤ 100
  · rw [decide_eq_true h] at hf
    have hf : g_law04_few (B, N) F = some true := hf
    have hF100 := h.2.2
    by_cases h2 : l.length > 100
    · simp (disch := omega) only [g_law04_CoderBack, live_eq, hf, Option.bind_some, Bool.not_true, cond_false, dT, cond_true]
    · have hc := bits_Check_eq (N := N) hb hb2
      unfold ck at hc
      by_cases ho : okB B N
      · rw [if_pos ho] at hc
        have hc : g_bits_Check (B, N) = some 0 := hc
        obtain ⟨T, rfl, rfl, hT⟩ := (okB_iff hb).1 ho
        have p1 := (All_same hl hF hC hl2).1
        by_cases hz : (allF l F).2 = 0
        · obtain ⟨L, hL, hLl, hback⟩ := all_back hC hl2 hz
          rw [hL] at p1
          have q1 := (Back_same (N := (L.length : Int)) (pk_bytes L) (small_pk hLl) (F := F) (by omega) hC).1
          have hb0 := hback [] (by simpa using hLl)
          rw [List.append_nil] at hb0
          rw [hb0] at q1
          have hEq := Equal_eq (a := l) (b := l) hl hl
          rw [decide_eq_true rfl] at hEq
          have hj := join_two hLl hT
          by_cases hlong : L.length + T.length > 65536
          · rw [if_pos hlong] at hj
            simp (disch := omega) only [g_law04_CoderBack, live_eq, hf, hc, Option.bind_some, Bool.not_true, cond_false, dF, bne_self_eq_false, p1, q1, hj, hEq, nT]
          · rw [if_neg hlong] at hj
            have q2 := (Back_same (N := ((L ++ T).length : Int)) (pk_bytes (L ++ T)) (small_pk (by rw [List.length_append]; omega)) (F := F) (by omega) hC).1
            rw [hback T (by omega), List.length_append] at q2
            simp (disch := omega) only [g_law04_CoderBack, live_eq, hf, hc, Option.bind_some, Bool.not_true, cond_false, dF, bne_self_eq_false, p1, q1, hj, hEq, q2, cond_true, beq_self_eq_true]
        · have hn := all_err hC hl2 hz
          generalize allF l F = y at p1 hz hn
          obtain ⟨⟨y1, y2⟩, y3⟩ := y
          have hn : y2 = 0 := hn
          subst hn
          have hz : y3 ≠ 0 := hz
          simp (disch := omega) only [g_law04_CoderBack, live_eq, hf, hc, Option.bind_some, Bool.not_true, cond_false, dF, bne_self_eq_false, p1, nT, cond_true, beq_self_eq_true]
      · rw [if_neg ho] at hc
        have hc : g_bits_Check (B, N) = some 1 := hc
        have e : ((1 : Int) != 0) = true := rfl
        simp (disch := omega) only [g_law04_CoderBack, live_eq, hf, hc, Option.bind_some, Bool.not_true, cond_false, dF, e, cond_true]
  · rw [decide_eq_false h] at hf
    have hf : g_law04_few (B, N) F = some false := hf
    simp only [g_law04_CoderBack, live_eq, hf, Option.bind_some, Bool.not_false, cond_true]
theorem pure_Back (x : denL [(false, .sl (.int .i64)), (false, .sl (.sl (.int .i64))), (true, BitsTy)]) (h : wfL _ x) : g_law04_CoderBack x.1 x.2.1 x.2.2 = some true :=
  law_Back (wf_ints h.1).1 (fun s hs => ((wf_ints h.1).2 s hs).2) (wf_tabs h.2.1).1 (wf_tabs h.2.1).2 (wf_bytes h.2.2.1).2 (wf_bytes h.2.2.1).1
end Go.Sq
/- The law CoderLong: what is out is no longer than what the symbols are worth. -/
namespace Go.Sq
open Go.Rx

/-- so many bits a symbol is worth, by its table -/
def worthS (s : Int) (C : List Int) (n : Nat) : Prop := totS C ≤ (C.getD (s.toNat + 1) 0 - C.getD s.toNat 0) * 2 ^ n ∧ n ≤ 14
def worthL : List (Int × List Int) → List Nat → Prop
  | [], [] => True
  | (s, C) :: zs, n :: ns => worthS s C n ∧ worthL zs ns
  | _, _ => False
def sumN : List Nat → Nat
  | [] => 0
  | n :: ns => n + sumN ns
theorem sumN_snoc : ∀ (ns : List Nat) (n : Nat), sumN (ns ++ [n]) = sumN ns + n
  | [], n => by simp [sumN]
  | m :: ns, n => by simp only [List.cons_append, sumN, sumN_snoc ns n]; omega
theorem worthL_snoc : ∀ {zs : List (Int × List Int)} {ns : List Nat} {s : Int} {C : List Int} {n : Nat}, worthL zs ns → worthS s C n → worthL (zs ++ [(s, C)]) (ns ++ [n])
  | [], [], s, C, n, _, h => ⟨h, trivial⟩
  | (s', C') :: zs, n' :: ns, s, C, n, h, h' => ⟨h.1, worthL_snoc h.2 h'⟩
  | [], _ :: _, _, _, _, h, _ => h.elim
  | _ :: _, [], _, _, _, h, _ => h.elim
theorem narrow_worth {lo hi a b t : Int} {n : Nat} (hR : 1073741824 ≤ hi - lo + 1) (ht : 1 ≤ t) (hw : t ≤ (b - a) * 2 ^ n) (hn : n ≤ 14) :
    (hi - lo + 1) * 65535 ≤ (narH lo hi b t - narL lo hi a t + 1) * (2 ^ n * 65536) := by
  have hp : (1 : Int) ≤ 2 ^ n := by have := Int.pow_pos (n := 2) (m := n) (by decide); omega
  have hp2 : (2 : Int) ^ n ≤ 16384 := by
    have h : (2 : Nat) ^ n ≤ 2 ^ 14 := Nat.pow_le_pow_right (by omega) hn
    have e : (2 : Int) ^ n = ((2 ^ n : Nat) : Int) := by simp
    rw [e]; omega
  generalize hRR : hi - lo + 1 = R at *
  have e : narH lo hi b t - narL lo hi a t + 1 = R * b / t - R * a / t := by unfold narH narL; rw [hRR]; omega
  rw [e]
  generalize (2 : Int) ^ n = P at *
  have g1 := Int.lt_ediv_add_one_mul_self (R * b) (show 0 < t by omega)
  have g2 := Int.ediv_mul_le (R * a) (show t ≠ 0 by omega)
  generalize R * b / t = x at *
  generalize R * a / t = y at *
  have g3 : R * (b - a) - t ≤ (x - y) * t := by
    rw [Int.sub_mul, Int.mul_sub]
    rw [Int.add_mul] at g1
    omega
  have g4 : (R * (b - a) - t) * P ≤ (x - y) * t * P := Int.mul_le_mul_of_nonneg_right g3 (by omega)
  have g5 : R * t ≤ R * ((b - a) * P) := Int.mul_le_mul_of_nonneg_left hw (by omega)
  have g6 : (R - P) * t ≤ (x - y) * P * t := by
    have e1 : (x - y) * t * P = (x - y) * P * t := by ac_rfl
    have e2 : (R * (b - a) - t) * P = R * ((b - a) * P) - P * t := by rw [Int.sub_mul, Int.mul_assoc, Int.mul_comm t P]
    rw [e1, e2] at g4
    rw [Int.sub_mul]; omega
  have g7 : R - P ≤ (x - y) * P := Int.le_of_mul_le_mul_right g6 (by omega)
  have e3 : (x - y) * (P * 65536) = (x - y) * P * 65536 := by ac_rfl
  rw [e3]
  omega
theorem run_long : ∀ (zs : List (Int × List Int)) (ns : List Nat) {lo hi : Int} {w : Nat} {l : List Bool}, atWork lo hi w l → (∀ z ∈ zs, small z.2 ∧ z.1 < 2 ^ 63) → (putAll zs (encE lo hi w l)).2 = 0 → worthL zs ns →
    ∃ (lo' hi' : Int) (w' : Nat) (l' : List Bool) (k : Nat), putAll zs (encE lo hi w l) = (encE lo' hi' w' l', 0) ∧ atWork lo' hi' w' l' ∧ l'.length + w' = l.length + w + k ∧
      (hi - lo + 1) * (2 ^ k * 65535 ^ zs.length) ≤ (hi' - lo' + 1) * (2 ^ sumN ns * 65536 ^ zs.length)
  | [], [], lo, hi, w, l, h, _, _, _ => ⟨lo, hi, w, l, 0, rfl, h, rfl, by simp [sumN]⟩
  | [], _ :: _, _, _, _, _, _, _, _, h => h.elim
  | (_, _) :: _, [], _, _, _, _, _, _, _, h => h.elim
  | (s, C) :: zs, n :: ns, lo, hi, w, l, h, hz, hp, hw => by
    rw [putAll] at hp
    have hzC : small C := (hz (s, C) List.mem_cons_self).1
    have hzs : s < 2 ^ 63 := (hz (s, C) List.mem_cons_self).2
    have hp : (if (PutF (encE lo hi w l) C s).2 ≠ 0 then (zEnc, (PutF (encE lo hi w l) C s).2) else putAll zs (PutF (encE lo hi w l) C s).1).2 = 0 := hp
    have hz0 : (PutF (encE lo hi w l) C s).2 = 0 := by
      by_cases h0 : (PutF (encE lo hi w l) C s).2 = 0
      · exact h0
      · rw [if_pos h0] at hp; exact absurd hp h0
    rw [if_neg (by simp [hz0])] at hp
    obtain ⟨hsp, lo1, hi1, w1, l1, hW, hat, hput⟩ := put_zero (C := C) (s := s) h hzC hzs hz0
    rw [hput] at hp
    obtain ⟨lo', hi', w', l', k', e1, e2, e3, e4⟩ := run_long zs ns hat (fun z hz' => hz z (List.mem_cons_of_mem _ hz')) hp hw.2
    have h1 := h.lo0
    have h2 := h.hi1
    have hgl := h.good.1
    obtain ⟨_, t1, t2⟩ := totS_pos hsp.1
    obtain ⟨a0, a1, a2⟩ := span_ok hsp.1 hsp.2.1 hsp.2.2
    have hgw := good_wide h.good
    obtain ⟨f1, f2, f3, f4, f5, f6, f7⟩ := nar_facts (r := hi - lo + 1) (a := C.getD s.toNat 0) (b := C.getD (s.toNat + 1) 0) (t := totS C) (by omega) (by omega) a0 a1 a2 t1 t2
    have hL : narL lo hi (C.getD s.toNat 0) (totS C) = lo + (hi - lo + 1) * C.getD s.toNat 0 / totS C := rfl
    have hH : narH lo hi (C.getD (s.toNat + 1) 0) (totS C) = lo + (hi - lo + 1) * C.getD (s.toNat + 1) 0 / totS C - 1 := rfl
    have hroom : roomy 32 (narL lo hi (C.getD s.toNat 0) (totS C)) (narH lo hi (C.getD (s.toNat + 1) 0) (totS C)) := roomy_start (by rw [hL]; omega) (by rw [hL, hH]; omega) (by rw [hH]; omega)
    obtain ⟨b1, b2, b3, k, b4, b5⟩ := widS_ok hroom hW
    have g := narrow_worth (lo := lo) (hi := hi) hgw t1 hw.1.1 hw.1.2
    refine ⟨lo', hi', w', l', k + k', ?_, e2, by omega, ?_⟩
    · rw [putAll, if_neg (by simp [hz0]), hput]; exact e1
    · rw [List.length_cons]
      generalize hr : narH lo hi (C.getD (s.toNat + 1) 0) (totS C) - narL lo hi (C.getD s.toNat 0) (totS C) + 1 = r at g b5
      rw [b5] at e4
      have q2 : (2 : Int) ^ (k + k') = 2 ^ k * 2 ^ k' := Int.pow_add 2 k k'
      have q3 : (2 : Int) ^ sumN (n :: ns) = 2 ^ n * 2 ^ sumN ns := Int.pow_add 2 n (sumN ns)
      rw [q2, q3, Int.pow_succ, Int.pow_succ]
      have hA : (0 : Int) ≤ 2 ^ k * 2 ^ k' * 65535 ^ zs.length := by
        have x1 := Int.pow_pos (n := 2) (m := k) (by decide)
        have x2 := Int.pow_pos (n := 2) (m := k') (by decide)
        have x3 := Int.pow_pos (n := 65535) (m := zs.length) (by decide)
        exact Int.mul_nonneg (Int.mul_nonneg (by omega) (by omega)) (by omega)
      have s1 := Int.mul_le_mul_of_nonneg_right g hA
      have hB : (0 : Int) ≤ 2 ^ n * 65536 := by
        have x1 := Int.pow_pos (n := 2) (m := n) (by decide)
        omega
      have s2 := Int.mul_le_mul_of_nonneg_right e4 hB
      have u1 : (hi - lo + 1) * (2 ^ k * 2 ^ k' * (65535 ^ zs.length * 65535)) = (hi - lo + 1) * 65535 * (2 ^ k * 2 ^ k' * 65535 ^ zs.length) := by ac_rfl
      have u2 : r * (2 ^ n * 65536) * (2 ^ k * 2 ^ k' * 65535 ^ zs.length) = r * 2 ^ k * (2 ^ k' * 65535 ^ zs.length) * (2 ^ n * 65536) := by ac_rfl
      have u3 : (hi' - lo' + 1) * (2 ^ n * 2 ^ sumN ns * (65536 ^ zs.length * 65536)) = (hi' - lo' + 1) * (2 ^ sumN ns * 65536 ^ zs.length) * (2 ^ n * 65536) := by ac_rfl
      rw [u1, u3]
      rw [u2] at s1
      exact Int.le_trans s1 s2
theorem bernoulli : ∀ m : Nat, (65536 : Int) ^ m * (65536 - m) ≤ 65535 ^ m * 65536
  | 0 => by simp
  | m + 1 => by
    have ih := bernoulli m
    have hp := Int.pow_pos (n := 65536) (m := m) (by decide)
    have h1 := Int.mul_le_mul_of_nonneg_right ih (show (0 : Int) ≤ 65535 by decide)
    rw [Int.pow_succ, Int.pow_succ]
    have e1 : (65535 : Int) ^ m * 65535 * 65536 = 65535 ^ m * 65536 * 65535 := by ac_rfl
    rw [e1]
    refine Int.le_trans ?_ h1
    have e2 : (65536 : Int) ^ m * 65536 * (65536 - ((m + 1 : Nat) : Int)) = 65536 ^ m * (65536 * (65536 - ((m + 1 : Nat) : Int))) := Int.mul_assoc _ _ _
    have e3 : (65536 : Int) ^ m * (65536 - (m : Int)) * 65535 = 65536 ^ m * ((65536 - (m : Int)) * 65535) := Int.mul_assoc _ _ _
    rw [e2, e3]
    apply Int.mul_le_mul_of_nonneg_left _ (by omega)
    omega
/-- the doublings are no more than what was worth -/
theorem long_bound {R : Int} {S K m : Nat} (hR : R ≤ 4294967296) (hm : m ≤ 100) (h : 4294967296 * (2 ^ K * 65535 ^ m) ≤ R * (2 ^ S * 65536 ^ m)) : K ≤ S := by
  refine Nat.le_of_not_lt fun hlt => ?_
  obtain ⟨j, rfl⟩ : ∃ j, K = S + 1 + j := ⟨K - S - 1, by omega⟩
  have p1 := Int.pow_pos (n := 2) (m := S) (by decide)
  have p2 := Int.pow_pos (n := 2) (m := j) (by decide)
  have p3 := Int.pow_pos (n := 65535) (m := m) (by decide)
  have p4 := Int.pow_pos (n := 65536) (m := m) (by decide)
  have hb := bernoulli m
  have e1 : (2 : Int) ^ (S + 1 + j) = 2 ^ S * 2 * 2 ^ j := by rw [Int.pow_add, Int.pow_succ]
  rw [e1] at h
  have q1 : R * (2 ^ S * 65536 ^ m) ≤ 4294967296 * (2 ^ S * 65536 ^ m) := Int.mul_le_mul_of_nonneg_right hR (Int.mul_nonneg (by omega) (by omega))
  have q2 := Int.le_trans h q1
  have q3 : (2 : Int) ^ S * 2 * 2 ^ j * 65535 ^ m ≤ 2 ^ S * 65536 ^ m := by omega
  have e2 : (2 : Int) ^ S * 2 * 2 ^ j * 65535 ^ m = 2 * 2 ^ j * 65535 ^ m * 2 ^ S := by ac_rfl
  have e3 : (2 : Int) ^ S * 65536 ^ m = 65536 ^ m * 2 ^ S := Int.mul_comm _ _
  rw [e2, e3] at q3
  have q4 := Int.le_of_mul_le_mul_right q3 p1
  have q5 : (1 : Int) * (2 * 65535 ^ m) ≤ 2 ^ j * (2 * 65535 ^ m) := Int.mul_le_mul_of_nonneg_right (by omega) (by omega)
  have e4 : (2 : Int) * 2 ^ j * 65535 ^ m = 2 ^ j * (2 * 65535 ^ m) := by ac_rfl
  rw [e4] at q4
  have q6 : (65536 : Int) ^ m * 65436 ≤ 65536 ^ m * (65536 - m) := Int.mul_le_mul_of_nonneg_left (by omega) (by omega)
  omega

theorem shl_i64 {d : Int} {n : Nat} (h0 : 0 ≤ d) (h1 : d ≤ 16384) (hn : n ≤ 14) : shlI .i64 d (n : Int) = d * 2 ^ n := by
  have h : (2 : Nat) ^ n ≤ 2 ^ 14 := Nat.pow_le_pow_right (by omega) hn
  have e : (2 : Int) ^ n = ((2 ^ n : Nat) : Int) := by simp
  have hp := Nat.two_pow_pos n
  have h2 : d * 2 ^ n ≤ 16384 * 16384 := by
    rw [e]
    exact Int.mul_le_mul h1 (by omega) (by omega) (by omega)
  have h3 : 0 ≤ d * 2 ^ n := Int.mul_nonneg h0 (by rw [e]; omega)
  have hm : min (n : Int).toNat IntKind.i64.bits = n := by simp only [Int.toNat_natCast, IntKind.bits]; omega
  unfold shlI
  rw [hm, wrap_i64 (by omega) (by omega)]
theorem long_loop1 {F : List (List Int)} {u : Bool} {wt : Int} {i : Nat} {s : Int} {l : List Int} {len i2 : Int} {b : List Int × Int} (hi : i < F.length) (ho : okSpan (F.getD i []) s) :
    ∃ n : Nat, iter g_law04_CoderLong_r1 (F, u, wt, (i : Int), (F.getD i []).getD s.toNat 0, (F.getD i []).getD (s.toNat + 1) 0, 0, l, len, i2, b, ()) = some (F, u, wt, (n : Int), l, len, i2, b, ()) ∧ worthS s (F.getD i []) n := by
  obtain ⟨b1, b2⟩ := b
  generalize hC : F.getD i [] = C at *
  obtain ⟨_, t1, t2⟩ := totS_pos ho.1
  obtain ⟨a0, a1, a2⟩ := span_ok ho.1 ho.2.1 ho.2.2
  have hsm : small C := by have := ho.1.2.1; unfold small; omega
  have ht := freq_Total_eq hsm
  obtain ⟨r, h1, n, h2, h3⟩ := iter_ex (f := g_law04_CoderLong_r1) (fun x => (15 - x.2.2.2.2.2.2.1).toNat)
    (fun x => ∃ n : Nat, x = (F, u, wt, (i : Int), C.getD s.toNat 0, C.getD (s.toNat + 1) 0, (n : Int), l, len, i2, (b1, b2), ()) ∧ n ≤ 14)
    (fun r => ∃ n : Nat, r = (F, u, wt, (n : Int), l, len, i2, (b1, b2), ()) ∧ worthS s C n) (by
      rintro x ⟨n, rfl, h1⟩
      have hs := shl_i64 (d := C.getD (s.toNat + 1) 0 - C.getD s.toNat 0) (n := n) (by omega) (by omega) h1
      by_cases h2 : (C.getD (s.toNat + 1) 0 - C.getD s.toNat 0) * 2 ^ n < totS C
      · left
        have h14 : n < 14 := by
          rcases Nat.lt_or_ge n 14 with h | h
          · exact h
          · have : n = 14 := by omega
            subst this
            have : (2 : Int) ^ 14 = 16384 := by decide
            omega
        refine ⟨(F, u, wt, (i : Int), C.getD s.toNat 0, C.getD (s.toNat + 1) 0, ((n + 1 : Nat) : Int), l, len, i2, (b1, b2), ()), ?_, ⟨n + 1, rfl, by omega⟩, by simp only; omega⟩
        simp (disch := omega) only [g_law04_CoderLong_r1, dT, wT, wrap_u64, wrap_i64, Int.toNat_natCast, hC, ht, Option.bind_some, hs]
        rfl
      · right
        refine ⟨_, ?_, n, rfl, by omega, h1⟩
        simp (disch := omega) only [g_law04_CoderLong_r1, dT, dF, wT, wrap_u64, wrap_i64, Int.toNat_natCast, hC, ht, Option.bind_some, hs])
    (F, u, wt, (i : Int), C.getD s.toNat 0, C.getD (s.toNat + 1) 0, 0, l, len, i2, (b1, b2), ()) ⟨0, rfl, by omega⟩
  exact ⟨n, by rw [h1, h2], h3⟩
/-- every symbol was one of its table -/
theorem run_spans : ∀ (zs : List (Int × List Int)) {lo hi : Int} {w : Nat} {l : List Bool}, atWork lo hi w l → (∀ z ∈ zs, small z.2 ∧ z.1 < 2 ^ 63) → (putAll zs (encE lo hi w l)).2 = 0 → ∀ z ∈ zs, okSpan z.2 z.1
  | [], _, _, _, _, _, _, _ => fun z hz => nomatch hz
  | (s, C) :: zs, lo, hi, w, l, h, hz, hp => by
    rw [putAll] at hp
    have hzC : small C := (hz (s, C) List.mem_cons_self).1
    have hzs : s < 2 ^ 63 := (hz (s, C) List.mem_cons_self).2
    have hp : (if (PutF (encE lo hi w l) C s).2 ≠ 0 then (zEnc, (PutF (encE lo hi w l) C s).2) else putAll zs (PutF (encE lo hi w l) C s).1).2 = 0 := hp
    have hz0 : (PutF (encE lo hi w l) C s).2 = 0 := by
      by_cases h0 : (PutF (encE lo hi w l) C s).2 = 0
      · exact h0
      · rw [if_pos h0] at hp; exact absurd hp h0
    rw [if_neg (by simp [hz0])] at hp
    obtain ⟨hsp, lo1, hi1, w1, l1, hW, hat, hput⟩ := put_zero (C := C) (s := s) h hzC hzs hz0
    rw [hput] at hp
    intro z hmem
    rcases List.mem_cons.1 hmem with rfl | hmem
    · exact hsp
    · exact run_spans zs hat (fun z hz' => hz z (List.mem_cons_of_mem _ hz')) hp z hmem
theorem law_Long {l : List Int} {F : List (List Int)} (hl : small l) (hl2 : ∀ s ∈ l, s < 2 ^ 63) (hF : small F) (hC : ∀ C ∈ F, small C) : g_law04_CoderLong l F = some true := by
  have hf := few_eq (B := []) (N := 0) hF (by simp [small])
  by_cases h : (∀ C ∈ F, C.length ≤ 400) ∧ ([] : List Int).length ≤ 9000 ∧ F.length ≤ 100
  · rw [decide_eq_true h] at hf
    have hf : g_law04_few ([], 0) F = some true := hf
    have hF100 := h.2.2
    by_cases h2 : l.length > 100
    · simp (disch := omega) only [g_law04_CoderLong, live_eq, hf, Option.bind_some, Bool.not_true, cond_false, dT]
    · have p1 := (All_same hl hF hC hl2).1
      by_cases hz : (allF l F).2 = 0
      · -- the run
        have hz' := hz
        unfold allF at hz
        have hlen : l.length = F.length := by
          by_cases h0 : l.length = F.length
          · exact h0
          · rw [if_pos h0] at hz; cases hz
        rw [if_neg (by omega)] at hz
        have hb : eBegin = encE 0 4294967295 0 [] := rfl
        rw [hb] at hz
        have hp : (putAll (l.zip F) (encE 0 4294967295 0 [])).2 = 0 := by
          by_cases h0 : (putAll (l.zip F) (encE 0 4294967295 0 [])).2 = 0
          · exact h0
          · rw [if_pos h0] at hz; exact absurd hz h0
        have hmem : ∀ z ∈ l.zip F, small z.2 ∧ z.1 < 2 ^ 63 := fun z hz => ⟨hC _ (List.of_mem_zip hz).2, hl2 _ (List.of_mem_zip hz).1⟩
        have hspans := run_spans (l.zip F) atWork_begin hmem hp
        have hspan : ∀ i, i < l.length → okSpan (F.getD i []) (l.getD i 0) := fun i hi => by
          have : (l.getD i 0, F.getD i []) ∈ l.zip F := by
            have := zip_drop hlen hi
            exact List.mem_of_mem_drop (i := i) (by rw [this]; exact List.mem_cons_self)
          exact hspans _ this
        obtain ⟨B, hB, hBl, hBlen⟩ : ∃ (B : List Bool), allF l F = ((pk B, (B.length : Int)), 0) ∧ B.length ≤ 65536 ∧ ∀ ns, worthL (l.zip F) ns → B.length ≤ sumN ns + 2 := by
          unfold allF
          rw [if_neg (by omega), hb, if_neg (by simp [hp])]
          obtain ⟨lo', hi', w', l', e1, e2, _, _⟩ := run_back (l.zip F) atWork_begin hmem hp
          rw [if_neg (by simp [hp]), e1] at hz
          rw [e1]
          dsimp only at hz ⊢
          have he := EndF_ok e2.lo0 e2.hi1 e2.good e2.wait e2.len
          unfold encE at hz ⊢
          rw [he] at hz ⊢
          unfold outS at hz ⊢
          by_cases hlong : l'.length + (w' + 1) + 1 > 65536
          · rw [if_pos hlong] at hz; cases hz
          · rw [if_neg hlong]
            have hol := outL_len l' (decide (1073741824 ≤ lo')) (w' + 1)
            refine ⟨outL l' (decide (1073741824 ≤ lo')) (w' + 1), by rw [hol], by omega, fun ns hns => ?_⟩
            obtain ⟨lo2, hi2, w2, l2, k, q1, q2, q3, q4⟩ := run_long (l.zip F) ns atWork_begin hmem hp hns
            have q1 : (encE lo' hi' w' l', (0 : Int)) = (encE lo2 hi2 w2 l2, 0) := by rw [← e1, ← q1]
            have q5 : lo' = lo2 := congrArg (fun z => z.1.1) q1
            have q6 : hi' = hi2 := congrArg (fun z => z.1.2.1) q1
            have q7 : (w' : Int) = (w2 : Int) := congrArg (fun z => z.1.2.2.1) q1
            have q8 : ((l'.length : Nat) : Int) = ((l2.length : Nat) : Int) := congrArg (fun z => z.1.2.2.2.2) q1
            have q2a := q2.lo0
            have q2b := q2.hi1
            have hm : (l.zip F).length ≤ 100 := by rw [List.length_zip]; omega
            have hk := long_bound (R := hi2 - lo2 + 1) (by omega) hm (by
              have : (4294967295 - 0 + 1 : Int) = 4294967296 := by decide
              rw [this] at q4; exact q4)
            simp only [List.length_nil] at q3
            omega
        rw [hB] at p1
        have loop : ∃ ns, iter g_law04_CoderLong_r2 (F, true, 2, l, (l.length : Int), 0, (pk B, (B.length : Int)), ()) = some (.inl (true, 2 + ((sumN ns + l.length : Nat) : Int), (pk B, (B.length : Int)), ())) ∧ worthL (l.zip F) ns := by
          obtain ⟨r, h1, ns, h2, h3⟩ := iter_ex (f := g_law04_CoderLong_r2) (fun x => ((l.length : Int) - x.2.2.2.2.2.1).toNat)
            (fun x => ∃ (i : Nat) (ns : List Nat), x = (F, true, 2 + ((sumN ns + i : Nat) : Int), l, (l.length : Int), (i : Int), (pk B, (B.length : Int)), ()) ∧ i ≤ l.length ∧ worthL ((l.zip F).take i) ns ∧ sumN ns ≤ 14 * i)
            (fun r => ∃ ns, r = (.inl (true, 2 + ((sumN ns + l.length : Nat) : Int), (pk B, (B.length : Int)), ()) : (Bool × Int × (List Int × Int) × Unit) ⊕ (Bool × Unit)) ∧ worthL (l.zip F) ns) (by
              rintro x ⟨i, ns, rfl, h1, h2, h3⟩
              by_cases h4 : i < l.length
              · left
                have ho := hspan i h4
                obtain ⟨n, hn, hw⟩ := long_loop1 (F := F) (u := true) (wt := 2 + ((sumN ns + i : Nat) : Int)) (i := i) (s := l.getD i 0) (l := l) (len := (l.length : Int)) (i2 := (i : Int)) (b := (pk B, (B.length : Int))) (by omega) ho
                have hsp := freq_Span_eq (s := l.getD i 0) (hC _ (mem_get (i := i) (by omega))) (hl2 _ (mem_getI h4))
                unfold spanS at hsp
                rw [if_pos (show okF (F.getD i []) ∧ 0 ≤ l.getD i 0 ∧ l.getD i 0 + 2 ≤ (F.getD i []).length from ho)] at hsp
                have hn14 := hw.2
                refine ⟨(F, true, 2 + ((sumN (ns ++ [n]) + (i + 1) : Nat) : Int), l, (l.length : Int), ((i + 1 : Nat) : Int), (pk B, (B.length : Int)), ()), ?_, ⟨i + 1, ns ++ [n], rfl, h4, ?_, by rw [sumN_snoc]; omega⟩, by simp only; omega⟩
                · simp (disch := omega) only [g_law04_CoderLong_r2, dT, wT, Int.toNat_natCast, hsp, Option.bind_some, nF, hn, wrap_i64]
                  rw [show 2 + ((sumN ns + i : Nat) : Int) + ((n : Int) + 1) = 2 + ((sumN (ns ++ [n]) + (i + 1) : Nat) : Int) from by rw [sumN_snoc]; omega]
                  rfl
                · have : (l.zip F).take (i + 1) = (l.zip F).take i ++ [(l.getD i 0, F.getD i [])] := by
                    have hd := zip_drop hlen h4
                    have h5 := List.take_append_drop i (l.zip F)
                    rw [hd] at h5
                    have h6 : (l.zip F).take (i + 1) = ((l.zip F).take i ++ (l.getD i 0, F.getD i []) :: (l.zip F).drop (i + 1)).take (i + 1) := by rw [h5]
                    have h7 : ((l.zip F).take i).length = i := by rw [List.length_take, List.length_zip]; omega
                    rw [h6, List.take_append, h7, List.take_of_length_le (by omega), show i + 1 - i = 1 from by omega]
                    rfl
                  rw [this]
                  exact worthL_snoc h2 hw
              · right
                have hi : i = l.length := by omega
                subst hi
                rw [List.take_of_length_le (by rw [List.length_zip]; omega)] at h2
                refine ⟨_, ?_, ns, rfl, h2⟩
                simp (disch := omega) only [g_law04_CoderLong_r2, dF]) (F, true, 2, l, (l.length : Int), 0, (pk B, (B.length : Int)), ()) ⟨0, [], by simp [sumN], Nat.zero_le _, trivial, by simp [sumN]⟩
          exact ⟨ns, by rw [h1, h2], h3⟩
        obtain ⟨ns, l1, l2⟩ := loop
        have hbound := hBlen ns l2
        have hdec : decide ((B.length : Int) ≤ 2 + ((sumN ns + l.length : Nat) : Int)) = true := decide_eq_true (by omega)
        simp (disch := omega) only [g_law04_CoderLong, live_eq, hf, Option.bind_some, Bool.not_true, cond_false, dF, p1, nF, l1, cond_true, hdec]
      · generalize allF l F = y at p1 hz
        obtain ⟨⟨y1, y2⟩, y3⟩ := y
        have hz : y3 ≠ 0 := hz
        simp (disch := omega) only [g_law04_CoderLong, live_eq, hf, Option.bind_some, Bool.not_true, cond_false, dF, p1, nT]
  · rw [decide_eq_false h] at hf
    have hf : g_law04_few ([], 0) F = some false := hf
    simp only [g_law04_CoderLong, live_eq, hf, Option.bind_some, Bool.not_false, cond_true]
theorem pure_Long (x : denL [(false, .sl (.int .i64)), (false, .sl (.sl (.int .i64)))]) (h : wfL _ x) : g_law04_CoderLong x.1 x.2 = some true :=
  law_Long (wf_ints h.1).1 (fun s hs => ((wf_ints h.1).2 s hs).2) (wf_tabs h.2).1 (wf_tabs h.2).2
end Go.Sq
