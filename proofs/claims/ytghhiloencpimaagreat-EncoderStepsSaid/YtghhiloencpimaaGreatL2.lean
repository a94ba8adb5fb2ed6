import Derived.Test.YtghhiloencpimaaGreatL1
import Derived.KernelRfl
import Derived.Test.YtghhiloencpimaaGreatX4
set_option linter.unusedSimpArgs false
set_option linter.unusedVariables false
set_option linter.unusedSectionVars false
namespace Go.Sq
open Go.Rx
def bI (l : List Bool) (i : Nat) : Int := (((l.getD i false).toNat : Nat) : Int)
theorem n9B (l : List Bool) (i : Nat) : 0 ≤ bI l i ∧ bI l i ≤ 1 := by unfold bI; have := c3C (l.getD i false); omega
def l2A : Nat → Int → Int → Int → Nat → List Bool → Int × Int × Int × Nat
 | 0, lo, hi, c, p, _ => (lo, hi, c, p)
 | n + 1, lo, hi, c, p, l =>
  if hi < 2147483648 then l2A n (2 * lo) (2 * hi + 1) (2 * c + bI l p) (p + 1) l
  else if lo ≥ 2147483648 then l2A n (2 * (lo - 2147483648)) (2 * (hi - 2147483648) + 1) (2 * (c - 2147483648) + bI l p) (p + 1) l
  else if lo ≥ 1073741824 ∧ hi < 3221225472 then l2A n (2 * (lo - 1073741824)) (2 * (hi - 1073741824) + 1) (2 * (c - 1073741824) + bI l p) (p + 1) l
  else (lo, hi, c, p)
theorem r5C {x y : Int} (h0 : 0 ≤ x) (h1 : x < 4611686018427387904) (hy : y = 0 ∨ y = 1) : d4A .or .u64 (2 * x) y = 2 * x + y := by
 rcases hy with rfl | rfl
 ·obtain ⟨n, rfl⟩ : ∃ n : Nat, x = n := ⟨x.toNat, by omega⟩
  have := l2E (a := 2 * n) (b := 0) (by omega) (by omega)
  rw [Nat.or_zero] at this
  rw [show 2 * (n : Int) = ((2 * n : Nat) : Int) from by omega]
  exact this
 ·exact or1 h0 h1
theorem p1E {l : List Bool} {i : Nat} (hl : l.length ≤ 65536) (hi2 : i < 2 ^ 60) : r4B (pk l, (l.length : Int)) (i : Int) = some (bI l i) := x6F hl hi2
theorem p2E {l : List Bool} {i : Nat} (hl : l.length ≤ 65536) (hi2 : i < 2 ^ 60) : s3B (pk l, (l.length : Int)) (i : Int) = some (bI l i) := by
 have hc := t4B (N := l.length) (m9A l) (r8A hl)
 rw [j4B hl] at hc
 by_cases h : i < l.length
 ·have hpl := m8A l
  have hb := m5E (B := pk l) (N := l.length) (m9A l) (i := i) (by omega) hi2
  rw [l6E] at hb
  have hb : z3B (pk l, (l.length : Int)) (i : Int) = some (bI l i) := hb
  have hr := n9B l i
  have hor : d4A .or .u64 (2 * 0) (bI l i) = 2 * 0 + bI l i := r5C (by omega) (by omega) (by omega)
  have h1 : a1A c4D ((i : Int), 0, 1, 0, (pk l, (l.length : Int)), ()) = some (bI l i, ()) := by
   rw [z2A (y := ((i : Int), bI l i, 1, 1, (pk l, (l.length : Int)), ()))]
   ·apply w3A
    simp (disch := omega) only [c4D, dF]
   ·have h2 := e6B (x := 0) (by omega) (by omega)
    simp (disch := omega) only [c4D, dT, a3A, Int.add_zero, hb, h2, Option.bind_some]
    rw [hor]; simp
  simp (disch := omega) only [s3B, m0C, hc, nF, dF, Option.bind_some, cond_false, a3A, h1]
 ·have e : bI l i = 0 := by unfold bI; rw [r1D (by omega)]; rfl
  rw [e]
  by_cases h2 : i > l.length
  ·simp (disch := omega) only [s3B, m0C, hc, nF, nT, dF, dT, Option.bind_some, cond_false, cond_true]
  ·simp (disch := omega) only [s3B, m0C, hc, nF, nT, dF, dT, Option.bind_some, cond_false, cond_true, a3A]
abbrev e3A := Int × Int × Int × (List Int × Int) × Int
theorem a5G {n : Nat} {lo hi c : Int} {p : Nat} {l : List Bool} {s : Int} {d z : e3A} (hr : l1A n lo hi) (hc : lo ≤ c ∧ c ≤ hi) (hl : l.length ≤ 65536) (hn : n ≤ 32) (hp : p ≤ 65600) (hd : d.2.2.2.1 = (pk l, (l.length : Int))) :
  a1A s7B (c, (p : Int), s, d, z, (lo, hi), ()) =
   some ((l2A (n + 1) lo hi c p l).2.2.1, (((l2A (n + 1) lo hi c p l).2.2.2 : Nat) : Int), s, d, z, ((l2A (n + 1) lo hi c p l).1, (l2A (n + 1) lo hi c p l).2.1), ()) := by
 obtain ⟨d1, d2, d3, ⟨d4, d5⟩, d6⟩ := d
 obtain ⟨z1, z2, z3, ⟨z4, z5⟩, z6⟩ := z
 have hd : (d4, d5) = (pk l, (l.length : Int)) := hd
 let W := l2A (n + 1) lo hi c p l
 have loop : ∃ r, a1A s7B (c, (p : Int), s, (d1, d2, d3, (d4, d5), d6), (z1, z2, z3, (z4, z5), z6), (lo, hi), ()) = some r ∧
   r = (W.2.2.1, ((W.2.2.2 : Nat) : Int), s, (d1, d2, d3, (d4, d5), d6), (z1, z2, z3, (z4, z5), z6), (W.1, W.2.1), ()) := by
  refine l0A (fun x => (8589934592 - (x.2.2.2.2.2.1.2 - x.2.2.2.2.2.1.1)).toNat)
   (fun x => ∃ (n : Nat) (lo hi c : Int) (p : Nat), x = (c, (p : Int), s, (d1, d2, d3, (d4, d5), d6), (z1, z2, z3, (z4, z5), z6), (lo, hi), ()) ∧ l1A n lo hi ∧ (lo ≤ c ∧ c ≤ hi) ∧ p + n ≤ 65632 ∧ l2A (n + 1) lo hi c p l = W)
   (fun r => r = (W.2.2.1, ((W.2.2.2 : Nat) : Int), s, (d1, d2, d3, (d4, d5), d6), (z1, z2, z3, (z4, z5), z6), (W.1, W.2.1), ())) ?_ _ ⟨n, lo, hi, c, p, rfl, hr, hc, by omega, rfl⟩
  rintro x ⟨n, lo, hi, c, p, rfl, hr, hc, hp, hW⟩
  have hm := r8D (lo := lo) (hi := hi)
  obtain ⟨r1, r2, r3, r4⟩ := hr
  have hr : l1A n lo hi := ⟨r1, r2, r3, r4⟩
  have hbit := p1E (l := l) (i := p) hl (by omega)
  rw [← hd] at hbit
  have hbr := n9B l p
  rw [l2A] at hW
  by_cases h1 : hi < 2147483648
  ·rw [if_pos h1] at hm hW
   obtain ⟨k, rfl⟩ : ∃ k, n = k + 1 := by
    cases n with
    | zero => have := t3A hr; omega
    | succ k => exact ⟨k, rfl⟩
   left
   have h9 := r5C (x := c) (y := bI l p) (by omega) (by omega) (by omega)
   refine ⟨(2 * c + bI l p, ((p + 1 : Nat) : Int), s, (d1, d2, d3, (d4, d5), d6), (z1, z2, z3, (z4, z5), z6), (2 * lo, 2 * hi + 1), ()), ?_, ⟨k, _, _, _, _, rfl, n7A hr (by omega) (by omega) (by omega), by omega, by omega, hW⟩, by simp; omega⟩
   simp (disch := omega) only [s7B, hm, eF, Option.bind_some, hbit, Int.sub_zero, a3A, b5A, e6B, or1, h9]
   rfl
  rw [if_neg h1] at hm hW
  by_cases h2 : lo ≥ 2147483648
  ·rw [if_pos h2] at hm hW
   obtain ⟨k, rfl⟩ : ∃ k, n = k + 1 := by
    cases n with
    | zero => have := t3A hr; omega
    | succ k => exact ⟨k, rfl⟩
   left
   have h9 := r5C (x := c - 2147483648) (y := bI l p) (by omega) (by omega) (by omega)
   refine ⟨(2 * (c - 2147483648) + bI l p, ((p + 1 : Nat) : Int), s, (d1, d2, d3, (d4, d5), d6), (z1, z2, z3, (z4, z5), z6), (2 * (lo - 2147483648), 2 * (hi - 2147483648) + 1), ()), ?_, ⟨k, _, _, _, _, rfl, n7A hr (by omega) (by omega) (by omega), by omega, by omega, hW⟩, by simp; omega⟩
   simp (disch := omega) only [s7B, hm, eF, Option.bind_some, hbit, a3A, b5A, e6B, or1, h9]
   rfl
  rw [if_neg h2] at hm hW
  by_cases h3 : lo ≥ 1073741824 ∧ hi < 3221225472
  ·rw [if_pos h3] at hm hW
   obtain ⟨k, rfl⟩ : ∃ k, n = k + 1 := by
    cases n with
    | zero => have := t3A hr; omega
    | succ k => exact ⟨k, rfl⟩
   left
   have h9 := r5C (x := c - 1073741824) (y := bI l p) (by omega) (by omega) (by omega)
   refine ⟨(2 * (c - 1073741824) + bI l p, ((p + 1 : Nat) : Int), s, (d1, d2, d3, (d4, d5), d6), (z1, z2, z3, (z4, z5), z6), (2 * (lo - 1073741824), 2 * (hi - 1073741824) + 1), ()), ?_, ⟨k, _, _, _, _, rfl, n7A hr (by omega) (by omega) (by omega), by omega, by omega, hW⟩, by simp; omega⟩
   simp (disch := omega) only [s7B, hm, eF, Option.bind_some, hbit, a3A, b5A, e6B, or1, h9]
   rfl
  ·rw [if_neg h3] at hm hW
   right
   refine ⟨_, ?_, rfl⟩
   rw [← hW]
   simp (disch := omega) only [s7B, hm, eT, Option.bind_some]
 obtain ⟨r, h1, h2⟩ := loop
 rw [h1, h2]
theorem a6G {n : Nat} {lo hi c : Int} {p : Nat} {l : List Bool} {s : Int} {d z : e3A} (hr : l1A n lo hi) (hc : lo ≤ c ∧ c ≤ hi) (hl : l.length ≤ 65536) (hn : n ≤ 32) (hp : p ≤ 65600) (hd : d.2.2.2.1 = (pk l, (l.length : Int))) :
  a1A n0B (lo, hi, c, s, (p : Int), d, z, ()) =
   some (s, 0, (IntKind.u32.wrap (l2A (n + 1) lo hi c p l).1, (IntKind.u32.wrap (l2A (n + 1) lo hi c p l).2.1, (IntKind.u32.wrap (l2A (n + 1) lo hi c p l).2.2.1, ((pk l, (l.length : Int)), (((l2A (n + 1) lo hi c p l).2.2.2 : Nat) : Int))))), ()) := by
 obtain ⟨d1, d2, d3, ⟨d4, d5⟩, d6⟩ := d
 obtain ⟨z1, z2, z3, ⟨z4, z5⟩, z6⟩ := z
 have hd : (d4, d5) = (pk l, (l.length : Int)) := hd
 have hcp := s2D hl
 rw [← hd] at hcp
 let W := l2A (n + 1) lo hi c p l
 have loop : ∃ r, a1A n0B (lo, hi, c, s, (p : Int), (d1, d2, d3, (d4, d5), d6), (z1, z2, z3, (z4, z5), z6), ()) = some r ∧
   r = (s, 0, (IntKind.u32.wrap W.1, (IntKind.u32.wrap W.2.1, (IntKind.u32.wrap W.2.2.1, ((d4, d5), ((W.2.2.2 : Nat) : Int))))), ()) := by
  refine l0A (fun x => (8589934592 - (x.2.1 - x.1)).toNat)
   (fun x => ∃ (n : Nat) (lo hi c : Int) (p : Nat), x = (lo, hi, c, s, (p : Int), (d1, d2, d3, (d4, d5), d6), (z1, z2, z3, (z4, z5), z6), ()) ∧ l1A n lo hi ∧ (lo ≤ c ∧ c ≤ hi) ∧ p + n ≤ 65632 ∧ l2A (n + 1) lo hi c p l = W)
   (fun r => r = (s, 0, (IntKind.u32.wrap W.1, (IntKind.u32.wrap W.2.1, (IntKind.u32.wrap W.2.2.1, ((d4, d5), ((W.2.2.2 : Nat) : Int))))), ())) ?_ _ ⟨n, lo, hi, c, p, rfl, hr, hc, by omega, rfl⟩
  rintro x ⟨n, lo, hi, c, p, rfl, hr, hc, hp, hW⟩
  obtain ⟨r1, r2, r3, r4⟩ := hr
  have hr : l1A n lo hi := ⟨r1, r2, r3, r4⟩
  have hbit := p2E (l := l) (i := p) hl (by omega)
  rw [← hd] at hbit
  have hbr := n9B l p
  rw [l2A] at hW
  by_cases h1 : hi < 2147483648
  ·rw [if_pos h1] at hW
   obtain ⟨k, rfl⟩ : ∃ k, n = k + 1 := by
    cases n with
    | zero => have := t3A hr; omega
    | succ k => exact ⟨k, rfl⟩
   left
   refine ⟨(2 * lo, 2 * hi + 1, 2 * c + bI l p, s, ((p + 1 : Nat) : Int), (d1, d2, d3, (d4, d5), d6), (z1, z2, z3, (z4, z5), z6), ()), ?_, ⟨k, _, _, _, _, rfl, n7A hr (by omega) (by omega) (by omega), by omega, by omega, hW⟩, by simp; omega⟩
   simp (disch := omega) only [n0B, dT, Option.bind_some, hbit, Int.sub_zero, a3A, b5A]
   rfl
  rw [if_neg h1] at hW
  by_cases h2 : lo ≥ 2147483648
  ·rw [if_pos h2] at hW
   obtain ⟨k, rfl⟩ : ∃ k, n = k + 1 := by
    cases n with
    | zero => have := t3A hr; omega
    | succ k => exact ⟨k, rfl⟩
   left
   refine ⟨(2 * (lo - 2147483648), 2 * (hi - 2147483648) + 1, 2 * (c - 2147483648) + bI l p, s, ((p + 1 : Nat) : Int), (d1, d2, d3, (d4, d5), d6), (z1, z2, z3, (z4, z5), z6), ()), ?_, ⟨k, _, _, _, _, rfl, n7A hr (by omega) (by omega) (by omega), by omega, by omega, hW⟩, by simp; omega⟩
   simp (disch := omega) only [n0B, dT, dF, Option.bind_some, hbit, a3A, b5A]
   rfl
  rw [if_neg h2] at hW
  by_cases h3 : lo ≥ 1073741824 ∧ hi < 3221225472
  ·rw [if_pos h3] at hW
   obtain ⟨k, rfl⟩ : ∃ k, n = k + 1 := by
    cases n with
    | zero => have := t3A hr; omega
    | succ k => exact ⟨k, rfl⟩
   left
   refine ⟨(2 * (lo - 1073741824), 2 * (hi - 1073741824) + 1, 2 * (c - 1073741824) + bI l p, s, ((p + 1 : Nat) : Int), (d1, d2, d3, (d4, d5), d6), (z1, z2, z3, (z4, z5), z6), ()), ?_, ⟨k, _, _, _, _, rfl, n7A hr (by omega) (by omega) (by omega), by omega, by omega, hW⟩, by simp; omega⟩
   simp (disch := omega) only [n0B, dT, dF, Option.bind_some, hbit, a3A, b5A]
   rfl
  ·rw [if_neg h3] at hW
   right
   refine ⟨_, ?_, rfl⟩
   rw [← hW]
   by_cases h5 : lo ≥ 1073741824
   ·simp (disch := omega) only [n0B, dT, dF, Option.bind_some, hcp]
   ·simp (disch := omega) only [n0B, dF, Option.bind_some, hcp, cond_false]
 obtain ⟨r, h1, h2⟩ := loop
 rw [h1, h2, hd]
end Go.Sq
namespace Go.Sq
open Go.Rx
def j0A (l : List Bool) : Nat → Int
 | 0 => 0
 | n + 1 => 2 * j0A l n + bI l n
theorem p3E (l : List Bool) : ∀ n, 0 ≤ j0A l n ∧ j0A l n < 2 ^ n
 | 0 => by simp [j0A]
 | n + 1 => by
  have := p3E l n
  have := n9B l n
  simp only [j0A, Int.pow_succ]
  omega
theorem r6C (l : List Bool) {n : Nat} (h : n ≤ 32) : 0 ≤ j0A l n ∧ j0A l n < 4294967296 := by
 have h1 := p3E l n
 have h2 : (2 : Int) ^ n ≤ 2 ^ 32 := by
  have : (2 : Nat) ^ n ≤ 2 ^ 32 := Nat.pow_le_pow_right (by omega) h
  exact_mod_cast this
 have h3 : (2 : Int) ^ 32 = 4294967296 := by decide
 omega
def p1A : e3A := (0, (0, (0, (([], 0), 0))))
theorem s3D {l : List Bool} (hl : l.length ≤ 65536) : h9B (pk l, (l.length : Int)) = some ((0, (4294967295, (j0A l 32, ((pk l, (l.length : Int)), 32)))), 0) := by
 have hc := e3B (N := l.length) (m9A l) (r8A hl)
 rw [j4B hl] at hc
 have loop : ∃ r, a1A c2D (0, 0, (pk l, (l.length : Int)), (0, (0, (0, (([], 0), 0)))), ()) = some r ∧ r = (j0A l 32, (pk l, (l.length : Int)), (0, (0, (0, (([], 0), 0)))), ()) := by
  refine l0A (fun x => (32 - x.2.1).toNat) (fun x => ∃ i : Nat, x = (j0A l i, (i : Int), (pk l, (l.length : Int)), (0, (0, (0, (([], 0), 0)))), ()) ∧ i ≤ 32)
   (fun r => r = (j0A l 32, (pk l, (l.length : Int)), (0, (0, (0, (([], 0), 0)))), ())) ?_ _ ⟨0, rfl, by omega⟩
  rintro x ⟨i, rfl, h1⟩
  by_cases h2 : i < 32
  ·left
   have hb := p1E (l := l) (i := i) hl (by omega)
   have hr := n9B l i
   have hcr := r6C l (n := i) (by omega)
   have h9 := r5C (x := j0A l i) (y := bI l i) (by omega) (by omega) (by omega)
   refine ⟨(j0A l (i + 1), ((i + 1 : Nat) : Int), (pk l, (l.length : Int)), (0, (0, (0, (([], 0), 0)))), ()), ?_, ⟨i + 1, rfl, h2⟩, by simp only; omega⟩
   simp (disch := omega) only [c2D, dT, hb, Option.bind_some, e6B, h9, a3A]
   rfl
  ·right
   have : i = 32 := by omega
   subst this
   refine ⟨_, ?_, rfl⟩
   simp (disch := omega) only [c2D, dF]
 obtain ⟨r, h1, rfl⟩ := loop
 have hcr := r6C l (n := 32) (by omega)
 simp (disch := omega) only [h9B, hc, nF, Option.bind_some, h1, s1D hl, t1B]
theorem a7G {l : List Bool} (hl : l.length ≤ 65536) : s4B (pk l, (l.length : Int)) = some ((0, (4294967295, (j0A l 32, ((pk l, (l.length : Int)), 32)))), 0) := by
 have hc := t4B (N := l.length) (m9A l) (r8A hl)
 rw [j4B hl] at hc
 have loop : ∃ r, a1A c5D (0, 0, (pk l, (l.length : Int)), (0, (0, (0, (([], 0), 0)))), ()) = some r ∧ r = (j0A l 32, (pk l, (l.length : Int)), (0, (0, (0, (([], 0), 0)))), ()) := by
  refine l0A (fun x => (32 - x.2.1).toNat) (fun x => ∃ i : Nat, x = (j0A l i, (i : Int), (pk l, (l.length : Int)), (0, (0, (0, (([], 0), 0)))), ()) ∧ i ≤ 32)
   (fun r => r = (j0A l 32, (pk l, (l.length : Int)), (0, (0, (0, (([], 0), 0)))), ())) ?_ _ ⟨0, rfl, by omega⟩
  rintro x ⟨i, rfl, h1⟩
  by_cases h2 : i < 32
  ·left
   have hb := p2E (l := l) (i := i) hl (by omega)
   have hr := n9B l i
   have hcr := r6C l (n := i) (by omega)
   refine ⟨(j0A l (i + 1), ((i + 1 : Nat) : Int), (pk l, (l.length : Int)), (0, (0, (0, (([], 0), 0)))), ()), ?_, ⟨i + 1, rfl, h2⟩, by simp only; omega⟩
   simp (disch := omega) only [c5D, dT, hb, Option.bind_some, b5A, a3A]
   rfl
  ·right
   have : i = 32 := by omega
   subst this
   refine ⟨_, ?_, rfl⟩
   simp (disch := omega) only [c5D, dF]
 obtain ⟨r, h1, rfl⟩ := loop
 have hcr := r6C l (n := 32) (by omega)
 simp (disch := omega) only [s4B, hc, nF, Option.bind_some, h1, s2D hl, t1B]
theorem a8G {B : List Int} {N : Int} (hB : bytes B) (hs : b3A B) : ∃ r, h9B (B, N) = some r ∧ s4B (B, N) = some r ∧ ((r = (p1A, 1) ∧ ¬ okB B N) ∨
  ∃ l : List Bool, l.length ≤ 65536 ∧ B = pk l ∧ N = l.length ∧ r = ((0, (4294967295, (j0A l 32, ((pk l, (l.length : Int)), 32)))), 0)) := by
 by_cases h : okB B N
 ·obtain ⟨l, rfl, rfl, hl⟩ := (j3B hB).1 h
  exact ⟨_, s3D hl, a7G hl, .inr ⟨l, hl, rfl, rfl, rfl⟩⟩
 ·have h1 := e3B (N := N) hB hs
  have h2 := t4B (N := N) hB hs
  unfold ck at h1 h2
  rw [if_neg h] at h1 h2
  refine ⟨(p1A, 1), ?_, ?_, .inl ⟨rfl, h⟩⟩
  ·simp (disch := omega) only [h9B, h1, nT, Option.bind_some]; rfl
  ·simp (disch := omega) only [s4B, h2, nT, Option.bind_some]; rfl
def okD (d : e3A) : Prop := d5A d.1 d.2.1 ∧ d.1 ≤ d.2.2.1 ∧ d.2.2.1 ≤ d.2.1 ∧ okB d.2.2.2.1.1 d.2.2.2.1.2 ∧ 32 ≤ d.2.2.2.2 ∧ d.2.2.2.2 ≤ 65600
def wfD (d : e3A) : Prop := (0 ≤ d.1 ∧ d.1 < 4294967296) ∧ (0 ≤ d.2.1 ∧ d.2.1 < 4294967296) ∧ (0 ≤ d.2.2.1 ∧ d.2.2.1 < 4294967296) ∧ bytes d.2.2.2.1.1 ∧ b3A d.2.2.2.1.1
theorem s4D {d : e3A} (h : wfD d) (ho : okD d) : b1B d = some true := by
 obtain ⟨lo, hi, c, ⟨B, N⟩, p⟩ := d
 obtain ⟨h1, h2, h3, h4, h5⟩ := h
 have h1 : 0 ≤ lo ∧ lo < 4294967296 := h1
 have h2 : 0 ≤ hi ∧ hi < 4294967296 := h2
 have h4 : bytes B := h4
 have h5 : b3A B := h5
 obtain ⟨o1, o2, o3, o4, o5, o6⟩ := ho
 have o1 : d5A lo hi := o1
 have o2 : lo ≤ c := o2
 have o3 : c ≤ hi := o3
 have o4 : okB B N := o4
 have o5 : 32 ≤ p := o5
 have o6 : p ≤ 65600 := o6
 have hw := r9D (lo := lo) (hi := hi) (by omega)
 rw [decide_eq_true o1] at hw
 have hc := t4B (N := N) h4 h5
 unfold ck at hc
 rw [if_pos o4] at hc
 have e1 := b5A (n := lo) (by omega) (by omega)
 have e2 := b5A (n := hi) (by omega) (by omega)
 simp (disch := omega) only [b1B, e1, e2, hw, hc, Option.bind_some, dT, cond_true, eT]
 rw [decide_eq_true (by omega)]
theorem a9G {d : e3A} (h : wfD d) (ho : ¬ okD d) : b1B d = some false := by
 obtain ⟨lo, hi, c, ⟨B, N⟩, p⟩ := d
 obtain ⟨h1, h2, h3, h4, h5⟩ := h
 have h1 : 0 ≤ lo ∧ lo < 4294967296 := h1
 have h2 : 0 ≤ hi ∧ hi < 4294967296 := h2
 have h4 : bytes B := h4
 have h5 : b3A B := h5
 have hw := r9D (lo := lo) (hi := hi) (by omega)
 have hc := t4B (N := N) h4 h5
 have e1 := b5A (n := lo) (by omega) (by omega)
 have e2 := b5A (n := hi) (by omega) (by omega)
 by_cases o1 : d5A lo hi
 ·rw [decide_eq_true o1] at hw
  by_cases o2 : lo ≤ c
  ·by_cases o3 : c ≤ hi
   ·unfold ck at hc
    by_cases o4 : okB B N
    ·rw [if_pos o4] at hc
     by_cases o5 : 32 ≤ p
     ·simp (disch := omega) only [b1B, e1, e2, hw, hc, Option.bind_some, dT, cond_true, eT]
      rw [decide_eq_false (fun o6 => ho ⟨o1, o2, o3, o4, o5, o6⟩)]
     ·simp (disch := omega) only [b1B, e1, e2, hw, hc, Option.bind_some, dT, dF, cond_true, eT]
    ·rw [if_neg o4] at hc
     simp (disch := omega) only [b1B, e1, e2, hw, hc, Option.bind_some, dT, cond_true, eF]
   ·simp (disch := omega) only [b1B, e1, e2, hw, Option.bind_some, dT, dF, cond_true]
  ·simp (disch := omega) only [b1B, e1, e2, hw, Option.bind_some, dF, cond_true]
 ·rw [decide_eq_false o1] at hw
  simp (disch := omega) only [b1B, e1, e2, hw, Option.bind_some, cond_false]
end Go.Sq
namespace Go.Sq
open Go.Rx
def l3A (lo hi c t : Int) : Int := ((c - lo + 1) * t - 1) / (hi - lo + 1)
theorem d0D {lo hi c t : Int} (h1 : lo ≤ c) (h2 : c ≤ hi) (hr : hi - lo + 1 ≤ 4294967296) (ht : 1 ≤ t) (ht2 : t ≤ 16384) :
  0 ≤ (c - lo + 1) * t - 1 ∧ (c - lo + 1) * t ≤ 70368744177664 ∧ 0 ≤ l3A lo hi c t ∧ l3A lo hi c t < t ∧ l3A lo hi c t * (hi - lo + 1) ≤ (c - lo + 1) * t - 1 ∧ (c - lo + 1) * t ≤ (l3A lo hi c t + 1) * (hi - lo + 1) := by
 have e1 : 1 * 1 ≤ (c - lo + 1) * t := Int.mul_le_mul (by omega) ht (by omega) (by omega)
 have e2 : (c - lo + 1) * t ≤ 4294967296 * 16384 := Int.mul_le_mul (by omega) ht2 (by omega) (by omega)
 have e3 : (c - lo + 1) * t ≤ (hi - lo + 1) * t := Int.mul_le_mul_of_nonneg_right (by omega) (by omega)
 have e4 : 0 ≤ l3A lo hi c t := Int.ediv_nonneg (by omega) (by omega)
 have e5 : l3A lo hi c t < t := by
  unfold l3A
  apply Int.ediv_lt_of_lt_mul (by omega)
  rw [Int.mul_comm t]; omega
 have e6 : l3A lo hi c t * (hi - lo + 1) ≤ (c - lo + 1) * t - 1 := Int.ediv_mul_le _ (by omega)
 have e7 : (c - lo + 1) * t - 1 < (l3A lo hi c t + 1) * (hi - lo + 1) := Int.lt_ediv_add_one_mul_self _ (by omega)
 exact ⟨by omega, by omega, e4, e5, e6, by omega⟩
theorem p4E {lo hi c t a b : Int} (h1 : lo ≤ c) (h2 : c ≤ hi) (hr : hi - lo + 1 ≤ 4294967296) (ht : 1 ≤ t) (ht2 : t ≤ 16384) (ha : a ≤ l3A lo hi c t) (hb : l3A lo hi c t < b) :
  i4A lo hi a t ≤ c ∧ c ≤ i5A lo hi b t := by
 obtain ⟨f1, f2, f3, f4, f5, f6⟩ := d0D h1 h2 hr ht ht2
 have g1 : a * (hi - lo + 1) ≤ l3A lo hi c t * (hi - lo + 1) := Int.mul_le_mul_of_nonneg_right ha (by omega)
 have g2 : (l3A lo hi c t + 1) * (hi - lo + 1) ≤ b * (hi - lo + 1) := Int.mul_le_mul_of_nonneg_right hb (by omega)
 have g3 : (hi - lo + 1) * a / t < c - lo + 1 := by
  apply Int.ediv_lt_of_lt_mul (by omega)
  rw [Int.mul_comm _ a]; omega
 have g4 : c - lo + 1 ≤ (hi - lo + 1) * b / t := by
  apply Int.le_ediv_of_mul_le (by omega)
  rw [Int.mul_comm _ b]; omega
 unfold i4A i5A
 omega
noncomputable def j6B (lo hi c : Int) (p : Nat) (l : List Bool) (C : List Int) (s : Nat) : e3A × Int × Int :=
  ((IntKind.u32.wrap (l2A 33 (i4A lo hi (C.getD s 0) (c2A C)) (i5A lo hi (C.getD (s + 1) 0) (c2A C)) c p l).1,
    (IntKind.u32.wrap (l2A 33 (i4A lo hi (C.getD s 0) (c2A C)) (i5A lo hi (C.getD (s + 1) 0) (c2A C)) c p l).2.1,
     (IntKind.u32.wrap (l2A 33 (i4A lo hi (C.getD s 0) (c2A C)) (i5A lo hi (C.getD (s + 1) 0) (c2A C)) c p l).2.2.1,
      ((pk l, (l.length : Int)), (((l2A 33 (i4A lo hi (C.getD s 0) (c2A C)) (i5A lo hi (C.getD (s + 1) 0) (c2A C)) c p l).2.2.2 : Nat) : Int))))), ((s : Int), 0))
theorem p5E {lo hi c : Int} {p : Nat} {l : List Bool} {C : List Int} {s : Nat} (hlo : 0 ≤ lo) (hhi : hi < 4294967296) (hg : d5A lo hi) (hc1 : lo ≤ c) (hc2 : c ≤ hi) (hl : l.length ≤ 65536)
  (hp1 : 32 ≤ p) (hp2 : p ≤ l.length + 32) (hF : okF C) (hs : e5B C (l3A lo hi c (c2A C)) s) :
  n6A (lo, (hi, (c, ((pk l, (l.length : Int)), (p : Int))))) C = some (j6B lo hi c p l C s) := by
 have hF2 := hF.2.1
 have hsm : b3A C := by unfold b3A; omega
 have hgl := hg.1
 have e1 := b5A (n := lo) (by omega) (by omega)
 have e2 := b5A (n := hi) (by omega) (by omega)
 have e3 := b5A (n := c) (by omega) (by omega)
 have hgd := t6B (lo := lo) (hi := hi)
 rw [decide_eq_true hg] at hgd
 have hc := e3B (N := l.length) (m9A l) (r8A hl)
 rw [j4B hl] at hc
 have hfc := c0C hsm
 rw [e4B hF] at hfc
 have ht := n4E hsm
 obtain ⟨_, ht1, ht2⟩ := r9A hF
 have hfind := y9F hF hs
 have hs1 := hs.1
 have a0 := t2A hF (i := 0) (j := s) (by omega) (by omega)
 rw [hF.2.2.1] at a0
 have a1 := hF.2.2.2.2 s hs1
 have a2 := t2A hF (i := s + 1) (j := C.length - 1) (by omega) (by omega)
 rw [← (r9A hF).1] at a2
 have hgw := t7B hg
 have hw := p4E (a := C.getD s 0) (b := C.getD (s + 1) 0) hc1 hc2 (by omega) ht1 ht2 hs.2.1 hs.2.2
 obtain ⟨q1, q2, q3, q4, _, _⟩ := d0D hc1 hc2 (by omega) ht1 ht2
 have e4 : ((s : Int) + 1).toNat = s + 1 := by omega
 unfold j6B
 generalize hga : C.getD s 0 = a at *
 generalize hgb : C.getD (s + 1) 0 = b at *
 generalize c2A C = t at *
 obtain ⟨f1, f2, f3, f4, f5, f6, f7⟩ := n7B (r := hi - lo + 1) (a := a) (b := b) (t := t) (by omega) (by omega) a0 a1 a2 ht1 ht2
 have d0 : ((c - lo + 1) * t - 1).tdiv (hi - lo + 1) = l3A lo hi c t := Int.tdiv_eq_ediv_of_nonneg q1
 have d1 : ((hi - lo + 1) * a).tdiv t = (hi - lo + 1) * a / t := Int.tdiv_eq_ediv_of_nonneg f1
 have d2 : ((hi - lo + 1) * b).tdiv t = (hi - lo + 1) * b / t := Int.tdiv_eq_ediv_of_nonneg f3
 have hL : i4A lo hi a t = lo + (hi - lo + 1) * a / t := rfl
 have hH : i5A lo hi b t = lo + (hi - lo + 1) * b / t - 1 := rfl
 rw [hL, hH] at hw ⊢
 generalize l3A lo hi c t = x at *
 generalize (hi - lo + 1) * a / t = qa at *
 generalize (hi - lo + 1) * b / t = qb at *
 have hit := fun (d z : e3A) (hd : d.2.2.2.1 = (pk l, (l.length : Int))) => a5G (n := 32) (lo := lo + qa) (hi := lo + qb - 1) (c := c) (p := p) (l := l) (s := (s : Int)) (d := d) (z := z) (n6B (by omega) (by omega) (by omega)) hw hl (by omega) (by omega) hd
 have hit := hit (lo, (hi, (c, ((pk l, (l.length : Int)), (p : Int))))) (0, (0, (0, (([], 0), 0)))) rfl
 simp (disch := omega) only [n6A, e1, e2, e3, hgd, hc, hfc, ht, Bool.not_true, cond_false, dF, nF, nT, Option.bind_some, a3A, b5A, d0, d1, d2, hfind, wT, Int.toNat_natCast, e4, hga, hgb, hit, s1D hl]
theorem b0G {lo hi c : Int} {p : Nat} {l : List Bool} {C : List Int} {s : Nat} (hlo : 0 ≤ lo) (hhi : hi < 4294967296) (hg : d5A lo hi) (hc1 : lo ≤ c) (hc2 : c ≤ hi) (hl : l.length ≤ 65536)
  (hp1 : 32 ≤ p) (hp2 : p ≤ l.length + 32) (hF : okF C) (hs : e5B C (l3A lo hi c (c2A C)) s) :
  u1A (lo, (hi, (c, ((pk l, (l.length : Int)), (p : Int))))) C = some (j6B lo hi c p l C s) := by
 have hF2 := hF.2.1
 have hsm : b3A C := by unfold b3A; omega
 have hgl := hg.1
 have e1 := b5A (n := lo) (by omega) (by omega)
 have e2 := b5A (n := hi) (by omega) (by omega)
 have e3 := b5A (n := c) (by omega) (by omega)
 have hce := s4D (d := (lo, (hi, (c, ((pk l, (l.length : Int)), (p : Int)))))) ⟨by simp only; omega, by simp only; omega, by simp only; omega, m9A l, r8A hl⟩
  ⟨hg, hc1, hc2, (j3B (m9A l)).2 ⟨l, rfl, rfl, hl⟩, by simp only; omega, by simp only; omega⟩
 have hfc := c1C hsm
 rw [e4B hF] at hfc
 have ht := r6D hsm
 obtain ⟨_, ht1, ht2⟩ := r9A hF
 have hfind := y7F hF hs
 have hsp := r5D (s := (s : Int)) hsm (by have := hs.1; omega)
 unfold j5B at hsp
 rw [if_pos ⟨hF, by omega, by have := hs.1; omega⟩, Int.toNat_natCast] at hsp
 have hs1 := hs.1
 have a0 := t2A hF (i := 0) (j := s) (by omega) (by omega)
 rw [hF.2.2.1] at a0
 have a1 := hF.2.2.2.2 s hs1
 have a2 := t2A hF (i := s + 1) (j := C.length - 1) (by omega) (by omega)
 rw [← (r9A hF).1] at a2
 have hgw := t7B hg
 have hw := p4E (a := C.getD s 0) (b := C.getD (s + 1) 0) hc1 hc2 (by omega) ht1 ht2 hs.2.1 hs.2.2
 obtain ⟨q1, q2, q3, q4, _, _⟩ := d0D hc1 hc2 (by omega) ht1 ht2
 have e4 : ((s : Int) + 1).toNat = s + 1 := by omega
 unfold j6B
 generalize hga : C.getD s 0 = a at *
 generalize hgb : C.getD (s + 1) 0 = b at *
 generalize c2A C = t at *
 obtain ⟨f1, f2, f3, f4, f5, f6, f7⟩ := n7B (r := hi - lo + 1) (a := a) (b := b) (t := t) (by omega) (by omega) a0 a1 a2 ht1 ht2
 have d0 : ((c - lo + 1) * t - 1).tdiv (hi - lo + 1) = l3A lo hi c t := Int.tdiv_eq_ediv_of_nonneg q1
 have d1 : ((hi - lo + 1) * a).tdiv t = (hi - lo + 1) * a / t := Int.tdiv_eq_ediv_of_nonneg f1
 have d2 : ((hi - lo + 1) * b).tdiv t = (hi - lo + 1) * b / t := Int.tdiv_eq_ediv_of_nonneg f3
 have hL : i4A lo hi a t = lo + (hi - lo + 1) * a / t := rfl
 have hH : i5A lo hi b t = lo + (hi - lo + 1) * b / t - 1 := rfl
 rw [hL, hH] at hw ⊢
 generalize l3A lo hi c t = x at *
 generalize (hi - lo + 1) * a / t = qa at *
 generalize (hi - lo + 1) * b / t = qb at *
 have hit := fun (d z : e3A) (hd : d.2.2.2.1 = (pk l, (l.length : Int))) => a6G (n := 32) (lo := lo + qa) (hi := lo + qb - 1) (c := c) (p := p) (l := l) (s := (s : Int)) (d := d) (z := z) (n6B (by omega) (by omega) (by omega)) hw hl (by omega) (by omega) hd
 have hit := hit (lo, (hi, (c, ((pk l, (l.length : Int)), (p : Int))))) (0, (0, (0, (([], 0), 0)))) rfl
 simp (disch := omega) only [u1A, l7C, e1, e2, e3, hce, hfc, ht, Bool.not_true, cond_false, dF, nF, nT, Option.bind_some, a3A, b5A, d0, d1, d2, hfind, hsp, hit]
theorem b1G {d : e3A} {C : List Int} (hd : wfD d) (hC : b3A C) (h : ¬ (okD d ∧ okF C)) : n6A d C = some (p1A, (0, 1)) := by
 obtain ⟨lo, hi, c, ⟨B, N⟩, p⟩ := d
 obtain ⟨h1, h2, h3, h4, h5⟩ := hd
 have h1 : 0 ≤ lo ∧ lo < 4294967296 := h1
 have h2 : 0 ≤ hi ∧ hi < 4294967296 := h2
 have h3 : 0 ≤ c ∧ c < 4294967296 := h3
 have h4 : bytes B := h4
 have h5 : b3A B := h5
 have e1 := b5A (n := lo) (by omega) (by omega)
 have e2 := b5A (n := hi) (by omega) (by omega)
 have e3 := b5A (n := c) (by omega) (by omega)
 have hgd := t6B (lo := lo) (hi := hi)
 have hc := e3B (N := N) h4 h5
 have hfc := c0C hC
 have hz : p1A = (0, (0, (0, (([], 0), 0)))) := rfl
 rw [hz]
 by_cases g : d5A lo hi
 ·rw [decide_eq_true g] at hgd
  by_cases g1 : lo ≤ c
  ·by_cases g2 : c ≤ hi
   ·unfold ck at hc
    by_cases g3 : okB B N
    ·rw [if_pos g3] at hc
     by_cases g4 : 32 ≤ p
     ·by_cases g5 : p ≤ 65600
      ·rw [c2C (fun hh => h ⟨⟨g, g1, g2, g3, g4, g5⟩, hh⟩)] at hfc
       simp (disch := omega) only [n6A, e1, e2, e3, hgd, hc, hfc, Bool.not_true, cond_false, dF, nF, nT, Option.bind_some]
      ·simp (disch := omega) only [n6A, e1, e2, e3, hgd, hc, Bool.not_true, cond_false, cond_true, dF, dT, nF, Option.bind_some]
     ·simp (disch := omega) only [n6A, e1, e2, e3, hgd, hc, Bool.not_true, cond_false, cond_true, dF, dT, nF, Option.bind_some]
    ·rw [if_neg g3] at hc
     simp (disch := omega) only [n6A, e1, e2, e3, hgd, hc, Bool.not_true, cond_false, cond_true, dF, nT, Option.bind_some]
   ·simp (disch := omega) only [n6A, e1, e2, e3, hgd, Bool.not_true, cond_false, cond_true, dF, dT, Option.bind_some]
  ·simp (disch := omega) only [n6A, e1, e2, e3, hgd, Bool.not_true, cond_false, cond_true, dT, Option.bind_some]
 ·rw [decide_eq_false g] at hgd
  simp (disch := omega) only [n6A, e1, e2, e3, hgd, Bool.not_false, cond_true, Option.bind_some]
theorem b2G {d : e3A} {C : List Int} (hd : wfD d) (hC : b3A C) (h : ¬ (okD d ∧ okF C)) : u1A d C = some (p1A, (0, 1)) := by
 have hfc := c1C hC
 have hz : p1A = (0, (0, (0, (([], 0), 0)))) := rfl
 rw [hz]
 by_cases g : okD d
 ·have hce := s4D hd g
  rw [c2C (fun hh => h ⟨g, hh⟩)] at hfc
  simp (disch := omega) only [u1A, hce, hfc, Bool.not_true, cond_false, nT, Option.bind_some]
 ·have hce := a9G hd g
  simp (disch := omega) only [u1A, hce, Bool.not_false, cond_true, Option.bind_some]
theorem b3G {lo hi c : Int} {p : Nat} {l : List Bool} {C : List Int} (hlo : 0 ≤ lo) (hhi : hi < 4294967296) (hg : d5A lo hi) (hc1 : lo ≤ c) (hc2 : c ≤ hi) (hl : l.length ≤ 65536)
  (hp1 : 32 ≤ p) (hp2 : l.length + 32 < p) (hp3 : p ≤ 65600) (hF : okF C) : n6A (lo, (hi, (c, ((pk l, (l.length : Int)), (p : Int))))) C = some (p1A, (0, 20)) := by
 have hF2 := hF.2.1
 have hsm : b3A C := by unfold b3A; omega
 have e1 := b5A (n := lo) (by omega) (by omega)
 have e2 := b5A (n := hi) (by omega) (by omega)
 have e3 := b5A (n := c) (by omega) (by omega)
 have hgd := t6B (lo := lo) (hi := hi)
 rw [decide_eq_true hg] at hgd
 have hc := e3B (N := l.length) (m9A l) (r8A hl)
 rw [j4B hl] at hc
 have hfc := c0C hsm
 rw [e4B hF] at hfc
 have hz : p1A = (0, (0, (0, (([], 0), 0)))) := rfl
 rw [hz]
 simp (disch := omega) only [n6A, e1, e2, e3, hgd, hc, hfc, Bool.not_true, cond_false, dF, dT, nF, Option.bind_some, bne_self_eq_false, a3A]
theorem b4G {lo hi c : Int} {p : Nat} {l : List Bool} {C : List Int} (hlo : 0 ≤ lo) (hhi : hi < 4294967296) (hg : d5A lo hi) (hc1 : lo ≤ c) (hc2 : c ≤ hi) (hl : l.length ≤ 65536)
  (hp1 : 32 ≤ p) (hp2 : l.length + 32 < p) (hp3 : p ≤ 65600) (hF : okF C) : u1A (lo, (hi, (c, ((pk l, (l.length : Int)), (p : Int))))) C = some (p1A, (0, 20)) := by
 have hF2 := hF.2.1
 have hsm : b3A C := by unfold b3A; omega
 have hce := s4D (d := (lo, (hi, (c, ((pk l, (l.length : Int)), (p : Int)))))) ⟨by simp only; omega, by simp only; omega, by simp only; omega, m9A l, r8A hl⟩
  ⟨hg, hc1, hc2, (j3B (m9A l)).2 ⟨l, rfl, rfl, hl⟩, by simp only; omega, by simp only; omega⟩
 have hfc := c1C hsm
 rw [e4B hF] at hfc
 have hz : p1A = (0, (0, (0, (([], 0), 0)))) := rfl
 rw [hz]
 simp (disch := omega) only [u1A, hce, hfc, Bool.not_true, cond_false, dT, nF, Option.bind_some, bne_self_eq_false, a3A]
theorem b5G {d : e3A} (h : wfD d) (ho : okD d) : ∃ (lo hi c : Int) (p : Nat) (l : List Bool), d = (lo, (hi, (c, ((pk l, (l.length : Int)), (p : Int))))) ∧ 0 ≤ lo ∧ hi < 4294967296 ∧ d5A lo hi ∧ lo ≤ c ∧ c ≤ hi ∧ l.length ≤ 65536 ∧ 32 ≤ p ∧ p ≤ 65600 := by
 obtain ⟨lo, hi, c, ⟨B, N⟩, p⟩ := d
 obtain ⟨h1, h2, h3, h4, h5⟩ := h
 obtain ⟨o1, o2, o3, o4, o5, o6⟩ := ho
 have o5 : 32 ≤ p := o5
 have o6 : p ≤ 65600 := o6
 have h1 : 0 ≤ lo ∧ lo < 4294967296 := h1
 have h2 : 0 ≤ hi ∧ hi < 4294967296 := h2
 obtain ⟨l, hB, hN, hl⟩ := (j3B h4).1 o4
 have hB : B = pk l := hB
 have hN : N = l.length := hN
 subst hB; subst hN
 obtain ⟨n, rfl⟩ : ∃ n : Nat, p = n := ⟨p.toNat, by omega⟩
 exact ⟨lo, hi, c, n, l, rfl, h1.1, h2.2, o1, o2, o3, hl, by omega, by omega⟩
theorem p6E {d : e3A} {C : List Int} (hd : wfD d) (hC : b3A C) : ∃ r, n6A d C = some r ∧ u1A d C = some r ∧
  ((r = (p1A, (0, 1)) ∧ ¬ (okD d ∧ okF C)) ∨ ∃ (lo hi c : Int) (p : Nat) (l : List Bool), d = (lo, (hi, (c, ((pk l, (l.length : Int)), (p : Int))))) ∧ okD d ∧ okF C ∧ l.length ≤ 65536 ∧ 0 ≤ lo ∧ hi < 4294967296 ∧ d5A lo hi ∧ lo ≤ c ∧ c ≤ hi ∧ 32 ≤ p ∧
   ((r = (p1A, (0, 20)) ∧ l.length + 32 < p) ∨ ∃ s, p ≤ l.length + 32 ∧ e5B C (l3A lo hi c (c2A C)) s ∧ r = j6B lo hi c p l C s)) := by
 by_cases h : okD d ∧ okF C
 ·obtain ⟨ho, hF⟩ := h
  obtain ⟨lo, hi, c, p, l, rfl, a1, a2, a3, a4, a5, a6, a7, a8⟩ := b5G hd ho
  by_cases hp : l.length + 32 < p
  ·exact ⟨_, b3G a1 a2 a3 a4 a5 a6 a7 hp a8 hF, b4G a1 a2 a3 a4 a5 a6 a7 hp a8 hF, .inr ⟨lo, hi, c, p, l, rfl, ho, hF, a6, a1, a2, a3, a4, a5, a7, .inl ⟨rfl, hp⟩⟩⟩
  ·have hgl := a3.1
   obtain ⟨_, t1, t2⟩ := r9A hF
   obtain ⟨_, _, f3, f4, _, _⟩ := d0D a4 a5 (by omega) t1 t2
   obtain ⟨s, hs⟩ := y6F hF f3 f4
   exact ⟨_, p5E a1 a2 a3 a4 a5 a6 a7 (by omega) hF hs, b0G a1 a2 a3 a4 a5 a6 a7 (by omega) hF hs, .inr ⟨lo, hi, c, p, l, rfl, ho, hF, a6, a1, a2, a3, a4, a5, a7, .inr ⟨s, by omega, hs, rfl⟩⟩⟩
 ·exact ⟨_, b1G hd hC h, b2G hd hC h, .inl ⟨rfl, h⟩⟩
end Go.Sq
namespace Go.Sq
open Go.Rx
theorem r7C (x : Int) : 0 ≤ IntKind.u32.wrap x ∧ IntKind.u32.wrap x < 4294967296 := by
 simp only [IntKind.wrap, IntKind.bits, IntKind.signed]; simp; omega
def j7B : i3A := (0, (0, (0, ([], 0))))
theorem s5D : wfE j7B := ⟨by simp [j7B], by simp [j7B], fun x hx => (nomatch hx), by simp [j7B, b3A]⟩
theorem p7E {lo hi : Int} {w : Int} {l : List Bool} (h1 : 0 ≤ lo ∧ lo < 4294967296) (h2 : 0 ≤ hi ∧ hi < 4294967296) (hl : l.length ≤ 65536) : wfE (lo, (hi, (w, (pk l, (l.length : Int))))) := ⟨h1, h2, m9A l, r8A hl⟩
theorem b6G {n : Nat} {lo hi : Int} {w : Nat} {l : List Bool} (hl : l.length ≤ 65536) : wfE (t4A (j3A n lo hi w l)).2.1 := by
 cases h : j3A n lo hi w l with
 | none => exact s5D
 | some r =>
  obtain ⟨lo', hi', w', l'⟩ := r
  have := c5C hl h
  unfold t4A
  dsimp only
  split
  ·exact s5D
  ·exact p7E (r7C _) (r7C _) this.1
noncomputable def k0A (e : i3A) (C : List Int) (s : Int) : i3A × Int := (s9A e C s).getD (j7B, 1)
theorem p8E {e : i3A} {C : List Int} {s : Int} (he : wfE e) (hC : b3A C) (hs : s < 2 ^ 63) : s9A e C s = some (k0A e C s) ∧ i4B e C s = some (k0A e C s) ∧ wfE (k0A e C s).1 := by
 obtain ⟨r, h1, h2, h3⟩ := z8F he hC hs
 have : k0A e C s = r := by unfold k0A; rw [h1]; rfl
 rw [this]
 refine ⟨h1, h2, ?_⟩
 rcases h3 with ⟨rfl, _⟩ | ⟨lo, hi, w, l, _, _, _, _, hl, rfl⟩
 ·exact s5D
 ·exact b6G hl
noncomputable def o0B (e : i3A) : (List Int × Int) × Int := (t0A e).getD (([], 0), 1)
theorem p9E {e : i3A} (he : wfE e) : t0A e = some (o0B e) ∧ i5B e = some (o0B e) := by
 obtain ⟨r, h1, h2, _⟩ := a4G he
 have : o0B e = r := by unfold o0B; rw [h1]; rfl
 rw [this]; exact ⟨h1, h2⟩
noncomputable def i6A : List (Int × List Int) → i3A → i3A × Int
 | [], e => (e, 0)
 | x :: r, e => if (k0A e x.2 x.1).2 ≠ 0 then (j7B, (k0A e x.2 x.1).2) else i6A r (k0A e x.2 x.1).1
def h1A : i3A := (0, (4294967295, (0, ([], 0))))
theorem q0E : wfE h1A := ⟨by simp [h1A], by simp [h1A], fun x hx => (nomatch hx), by simp [h1A, b3A]⟩
noncomputable def z4A (l : List Int) (F : List (List Int)) : (List Int × Int) × Int :=
 if l.length ≠ F.length then (([], 0), 1) else if (i6A (l.zip F) h1A).2 ≠ 0 then (([], 0), (i6A (l.zip F) h1A).2) else o0B (i6A (l.zip F) h1A).1
theorem q1E {l : List Int} {F : List (List Int)} (h : l.length = F.length) {i : Nat} (hi : i < l.length) : (l.zip F).drop i = (l.getD i 0, F.getD i []) :: (l.zip F).drop (i + 1) := by
 have hz : i < (l.zip F).length := by rw [List.length_zip]; omega
 rw [List.drop_eq_getElem_cons hz]
 congr 1
 rw [List.getElem_zip, List.getD_eq_getElem?_getD, List.getElem?_eq_getElem hi, List.getD_eq_getElem?_getD, List.getElem?_eq_getElem (by omega)]
 rfl
theorem q2E {F : List (List Int)} {i : Nat} (h : i < F.length) : F.getD i [] ∈ F := by
 rw [List.getD_eq_getElem?_getD, List.getElem?_eq_getElem h]; exact List.getElem_mem h
theorem q3E {l : List Int} {i : Nat} (h : i < l.length) : l.getD i 0 ∈ l := by
 rw [List.getD_eq_getElem?_getD, List.getElem?_eq_getElem h]; exact List.getElem_mem h
def d1D (W : i3A × Int) (r : ((List Int × Int) × i3A × Unit) ⊕ (Int × (List Int × Int) × Unit)) : Prop :=
 (∃ e, r = .inl (([], 0), e, ()) ∧ W = (e, 0) ∧ wfE e) ∨ (∃ k, r = .inr (k, ([], 0), ()) ∧ W = (j7B, k) ∧ k ≠ 0)
theorem b7G {l : List Int} {F : List (List Int)} (h : l.length = F.length) (hl : b3A l) (hF : ∀ C ∈ F, b3A C) (hr : ∀ s ∈ l, s < 2 ^ 63) {e : i3A} (he : wfE e) :
  ∃ r, a1A o3C (F, l, (l.length : Int), 0, ([], 0), e, ()) = some r ∧ d1D (i6A (l.zip F) e) r := by
 unfold b3A at hl
 refine l0A (fun x => ((l.length : Int) - x.2.2.2.1).toNat) (fun x => ∃ (i : Nat) (e' : i3A), x = (F, l, (l.length : Int), (i : Int), ([], 0), e', ()) ∧ i ≤ l.length ∧ wfE e' ∧ i6A ((l.zip F).drop i) e' = i6A (l.zip F) e)
  (d1D (i6A (l.zip F) e)) ?_ _ ⟨0, e, rfl, Nat.zero_le _, he, rfl⟩
 rintro x ⟨i, ⟨a1, a2, a3, a4, a5⟩, rfl, h1, h2, h3⟩
 by_cases h4 : i < l.length
 ·have hp := p8E h2 (hF _ (q2E (i := i) (by omega))) (hr _ (q3E h4))
  obtain ⟨p1, _, p3⟩ := hp
  rw [q1E h h4, i6A] at h3
  generalize hy : k0A (a1, a2, a3, a4, a5) (F.getD i []) (l.getD i 0) = y at p1 p3 h3
  obtain ⟨⟨y1, y2, y3, y4, y5⟩, k⟩ := y
  by_cases h5 : k ≠ 0
  ·right
   refine ⟨_, ?_, .inr ⟨k, rfl, by rw [← h3]; exact if_pos h5, h5⟩⟩
   simp (disch := omega) only [o3C, dT, wT, Int.toNat_natCast, p1, Option.bind_some, nT]
  ·have hk : k = 0 := Decidable.not_not.1 h5
   subst hk
   left
   refine ⟨(F, l, (l.length : Int), ((i + 1 : Nat) : Int), ([], 0), (y1, y2, y3, y4, y5), ()), ?_, ⟨i + 1, _, rfl, h4, p3, h3⟩, by simp only; omega⟩
   simp (disch := omega) only [o3C, dT, wT, Int.toNat_natCast, p1, Option.bind_some, nF, a3A]
   rfl
 ·right
  have hi : i = l.length := by omega
  rw [List.drop_eq_nil_of_le (by rw [List.length_zip]; omega), i6A] at h3
  refine ⟨_, ?_, .inl ⟨_, rfl, h3.symm, h2⟩⟩
  simp (disch := omega) only [o3C, dF]
theorem b8G {l : List Int} {F : List (List Int)} (h : l.length = F.length) (hl : b3A l) (hF : ∀ C ∈ F, b3A C) (hr : ∀ s ∈ l, s < 2 ^ 63) {e : i3A} (he : wfE e) :
  ∃ r, a1A r0C (F, l, (l.length : Int), 0, ([], 0), e, ()) = some r ∧ d1D (i6A (l.zip F) e) r := by
 unfold b3A at hl
 refine l0A (fun x => ((l.length : Int) - x.2.2.2.1).toNat) (fun x => ∃ (i : Nat) (e' : i3A), x = (F, l, (l.length : Int), (i : Int), ([], 0), e', ()) ∧ i ≤ l.length ∧ wfE e' ∧ i6A ((l.zip F).drop i) e' = i6A (l.zip F) e)
  (d1D (i6A (l.zip F) e)) ?_ _ ⟨0, e, rfl, Nat.zero_le _, he, rfl⟩
 rintro x ⟨i, ⟨a1, a2, a3, a4, a5⟩, rfl, h1, h2, h3⟩
 by_cases h4 : i < l.length
 ·have hp := p8E h2 (hF _ (q2E (i := i) (by omega))) (hr _ (q3E h4))
  obtain ⟨_, p1, p3⟩ := hp
  rw [q1E h h4, i6A] at h3
  generalize hy : k0A (a1, a2, a3, a4, a5) (F.getD i []) (l.getD i 0) = y at p1 p3 h3
  obtain ⟨⟨y1, y2, y3, y4, y5⟩, k⟩ := y
  by_cases h5 : k ≠ 0
  ·right
   refine ⟨_, ?_, .inr ⟨k, rfl, by rw [← h3]; exact if_pos h5, h5⟩⟩
   simp (disch := omega) only [r0C, dT, wT, Int.toNat_natCast, p1, Option.bind_some, nT]
  ·have hk : k = 0 := Decidable.not_not.1 h5
   subst hk
   left
   refine ⟨(F, l, (l.length : Int), ((i + 1 : Nat) : Int), ([], 0), (y1, y2, y3, y4, y5), ()), ?_, ⟨i + 1, _, rfl, h4, p3, h3⟩, by simp only; omega⟩
   simp (disch := omega) only [r0C, dT, wT, Int.toNat_natCast, p1, Option.bind_some, nF, a3A]
   rfl
 ·right
  have hi : i = l.length := by omega
  rw [List.drop_eq_nil_of_le (by rw [List.length_zip]; omega), i6A] at h3
  refine ⟨_, ?_, .inl ⟨_, rfl, h3.symm, h2⟩⟩
  simp (disch := omega) only [r0C, dF]
theorem b9G {l : List Int} {F : List (List Int)} (hl : b3A l) (hl2 : b3A F) (hF : ∀ C ∈ F, b3A C) (hr : ∀ s ∈ l, s < 2 ^ 63) : r3B l F = some (z4A l F) ∧ s2B l F = some (z4A l F) := by
 unfold z4A
 unfold b3A at hl hl2
 by_cases h : l.length = F.length
 ·rw [if_neg (by omega)]
  obtain ⟨r, h1, h2⟩ := b7G h hl hF hr q0E
  obtain ⟨r', h1', h2'⟩ := b8G h hl hF hr q0E
  have b1 : p2D = some h1A := rfl
  have b2 : p8D = some h1A := rfl
  constructor
  ·rcases h2 with ⟨⟨e1, e2, e3, e4, e5⟩, rfl, hW, he⟩ | ⟨k, rfl, hW, hk⟩
   ·rw [hW, if_neg (by simp)]
    have := (p9E he).1
    simp (disch := omega) only [r3B, nF, b1, Option.bind_some]
    rw [show (h1A.1, h1A.2.1, h1A.2.2.1, h1A.2.2.2.1, h1A.2.2.2.2) = h1A from rfl, h1]
    simp only [Option.bind_some, this]
   ·rw [hW, if_pos hk]
    simp (disch := omega) only [r3B, nF, b1, Option.bind_some]
    rw [show (h1A.1, h1A.2.1, h1A.2.2.1, h1A.2.2.2.1, h1A.2.2.2.2) = h1A from rfl, h1]
    simp only [Option.bind_some]
  ·rcases h2' with ⟨⟨e1, e2, e3, e4, e5⟩, rfl, hW, he⟩ | ⟨k, rfl, hW, hk⟩
   ·rw [hW, if_neg (by simp)]
    have := (p9E he).2
    simp (disch := omega) only [s2B, nF, b2, Option.bind_some]
    rw [show (h1A.1, h1A.2.1, h1A.2.2.1, h1A.2.2.2.1, h1A.2.2.2.2) = h1A from rfl, h1']
    simp only [Option.bind_some, this]
   ·rw [hW, if_pos hk]
    simp (disch := omega) only [s2B, nF, b2, Option.bind_some]
    rw [show (h1A.1, h1A.2.1, h1A.2.2.1, h1A.2.2.2.1, h1A.2.2.2.2) = h1A from rfl, h1']
    simp only [Option.bind_some]
 ·rw [if_pos h]
  simp (disch := omega) only [r3B, s2B, nT, and_self]
end Go.Sq
namespace Go.Sq
open Go.Rx
theorem s6D : wfD p1A := ⟨by simp [p1A], by simp [p1A], by simp [p1A], fun x hx => (nomatch hx), by simp [p1A, b3A]⟩
theorem c0G {lo hi c : Int} {p : Nat} {l : List Bool} {C : List Int} {s : Nat} (hl : l.length ≤ 65536) : wfD (j6B lo hi c p l C s).1 := ⟨r7C _, r7C _, r7C _, m9A l, r8A hl⟩
noncomputable def c7A (d : e3A) (C : List Int) : e3A × Int × Int := (n6A d C).getD (p1A, (0, 1))
theorem c1G {d : e3A} {C : List Int} (hd : wfD d) (hC : b3A C) : n6A d C = some (c7A d C) ∧ u1A d C = some (c7A d C) ∧ wfD (c7A d C).1 := by
 obtain ⟨r, h1, h2, h3⟩ := p6E hd hC
 have : c7A d C = r := by unfold c7A; rw [h1]; rfl
 rw [this]
 refine ⟨h1, h2, ?_⟩
 rcases h3 with ⟨rfl, _⟩ | ⟨lo, hi, c, p, l, _, _, _, hl, _, _, _, _, _, _, ⟨rfl, _⟩ | ⟨s, _, _, rfl⟩⟩
 ·exact s6D
 ·exact s6D
 ·exact c0G hl
noncomputable def q3A (b : List Int × Int) : e3A × Int := (h9B b).getD (p1A, 1)
theorem d2D {B : List Int} {N : Int} (hB : bytes B) (hs : b3A B) : h9B (B, N) = some (q3A (B, N)) ∧ s4B (B, N) = some (q3A (B, N)) ∧ wfD (q3A (B, N)).1 := by
 obtain ⟨r, h1, h2, h3⟩ := a8G (N := N) hB hs
 have : q3A (B, N) = r := by unfold q3A; rw [h1]; rfl
 rw [this]
 refine ⟨h1, h2, ?_⟩
 rcases h3 with ⟨rfl, _⟩ | ⟨l, hl, _, _, rfl⟩
 ·exact s6D
 ·exact ⟨by simp, by simp, r6C l (by omega), m9A l, r8A hl⟩
noncomputable def j8B : List (List Int) → e3A → List Int → List Int × Int
 | [], _, acc => (acc, 0)
 | C :: r, d, acc => if (c7A d C).2.2 ≠ 0 then ([], (c7A d C).2.2) else j8B r (c7A d C).1 (acc ++ [(c7A d C).2.1])
end Go.Sq
namespace Go.Sq
open Go.Rx
theorem q4E {lo hi : Int} {w : Nat} {l : List Bool} {C : List Int} {s : Int} (hlo : 0 ≤ lo) (hhi : hi < 4294967296) (hg : d5A lo hi) (hw : w ≤ 65536) (hl : l.length ≤ 65536) (hs : r0A C s) :
  k0A (lo, (hi, ((w : Int), (pk l, (l.length : Int))))) C s = e7B lo hi w l C s := by
 unfold k0A; rw [o8E hlo hhi hg hw hl hs]; rfl
theorem q5E {lo hi t lo' hi' : Int} {w w' : Nat} {l l' : List Bool} {C : List Int} {s : Int} (ht : c2A C = t) (hW : j3A 33 (i4A lo hi (C.getD s.toNat 0) t) (i5A lo hi (C.getD (s.toNat + 1) 0) t) w l = some (lo', hi', w', l'))
  (hw : w' ≤ 65536) (h1 : 0 ≤ lo' ∧ lo' < 4294967296) (h2 : 0 ≤ hi' ∧ hi' < 4294967296) : e7B lo hi w l C s = ((lo', (hi', ((w' : Int), (pk l', (l'.length : Int))))), 0) := by
 unfold e7B
 rw [ht, hW]
 unfold t4A n8B
 dsimp only
 rw [if_neg (by omega), t1B h1.1 h1.2, t1B h2.1 h2.2]
theorem c2G {lo hi c : Int} {p : Nat} {l : List Bool} {C : List Int} {s : Nat} (hlo : 0 ≤ lo) (hhi : hi < 4294967296) (hg : d5A lo hi) (hc1 : lo ≤ c) (hc2 : c ≤ hi) (hl : l.length ≤ 65536)
  (hp1 : 32 ≤ p) (hp2 : p ≤ l.length + 32) (hF : okF C) (hs : e5B C (l3A lo hi c (c2A C)) s) : c7A (lo, (hi, (c, ((pk l, (l.length : Int)), (p : Int))))) C = j6B lo hi c p l C s := by
 unfold c7A; rw [p5E hlo hhi hg hc1 hc2 hl hp1 hp2 hF hs]; rfl
theorem c3G {lo hi c t lo' hi' c' : Int} {p p' : Nat} {l : List Bool} {C : List Int} {s : Nat} (ht : c2A C = t) (hW : l2A 33 (i4A lo hi (C.getD s 0) t) (i5A lo hi (C.getD (s + 1) 0) t) c p l = (lo', hi', c', p'))
  (h1 : 0 ≤ lo' ∧ lo' < 4294967296) (h2 : 0 ≤ hi' ∧ hi' < 4294967296) (h3 : 0 ≤ c' ∧ c' < 4294967296) : j6B lo hi c p l C s = ((lo', (hi', (c', ((pk l, (l.length : Int)), (p' : Int))))), ((s : Int), 0)) := by
 unfold j6B
 rw [ht, hW]
 dsimp only
 rw [t1B h1.1 h1.2, t1B h2.1 h2.2, t1B h3.1 h3.2]
theorem c4G {lo hi : Int} {w : Nat} {l : List Bool} (hlo : 0 ≤ lo) (hhi : hi < 4294967296) (hg : d5A lo hi) (hw : w ≤ 65536) (hl : l.length ≤ 65536) :
  o0B (lo, (hi, ((w : Int), (pk l, (l.length : Int))))) = z3A l (decide (1073741824 ≤ lo)) (w + 1) := by
 unfold o0B; rw [p0E hlo hhi hg hw hl]; rfl
end Go.Sq
namespace Go.Sq
open Go.Rx
end Go.Sq
namespace Go.Sq
open Go.Rx
end Go.Sq
namespace Go.Sq
open Go.Rx
theorem q6E {k n : Int} (hn : 0 < n) : -n < k.tmod n ∧ k.tmod n < n := by
 constructor
 ·by_cases h : 0 ≤ k
  ·have := Int.tmod_nonneg n h; omega
  ·have h1 : k.tmod n = -((-k).tmod n) := by rw [← Int.neg_tmod, Int.neg_neg]
   have h2 := Int.tmod_lt_of_pos (-k) hn
   omega
 ·exact Int.tmod_lt_of_pos k hn
end Go.Sq
namespace Go.Sq
open Go.Rx
def o1A : List Int := (List.range 257).map fun (j : Nat) => (j : Int)
theorem q7E (n i : Nat) (h : i < n) : ((List.range n).map fun (j : Nat) => (j : Int)).getD i 0 = (i : Int) := by
 simp [List.getD_eq_getElem?_getD, h]
theorem t8B : o1A.length = 257 := by simp [o1A]
theorem r8C {i : Nat} (h : i < 257) : o1A.getD i 0 = (i : Int) := q7E 257 i h
theorem q8E : okF o1A := by
 refine ⟨by rw [t8B]; omega, by rw [t8B]; omega, r8C (by omega), ?_, fun i hi => ?_⟩
 ·rw [t8B, r8C (by omega)]; omega
 ·rw [t8B] at hi
  rw [r8C (by omega), r8C (by omega)]; omega
theorem c5G : y8C [1] 256 = some (List.replicate 256 1) := by
 have step : ∀ a b : List Int, ∀ n m : Int, n7C (a, n, ()) = some (.inl (b, m, ())) → a1A n7C (a, n, ()) = a1A n7C (b, m, ()) := fun a b n m h => z2A h
 have h0 : y8C [1] 256 = (a1A n7C (1 :: List.replicate 255 0, 1, ())).bind fun j4 => some j4.1 := by kernel_rfl
 rw [h0]
 rw [step _ (List.replicate 2 1 ++ List.replicate 254 0) _ 2 (by kernel_rfl), step _ (List.replicate 4 1 ++ List.replicate 252 0) _ 4 (by kernel_rfl), step _ (List.replicate 8 1 ++ List.replicate 248 0) _ 8 (by kernel_rfl),
  step _ (List.replicate 16 1 ++ List.replicate 240 0) _ 16 (by kernel_rfl), step _ (List.replicate 32 1 ++ List.replicate 224 0) _ 32 (by kernel_rfl), step _ (List.replicate 64 1 ++ List.replicate 192 0) _ 64 (by kernel_rfl),
  step _ (List.replicate 128 1 ++ List.replicate 128 0) _ 128 (by kernel_rfl), step _ (List.replicate 256 1) _ 256 (by kernel_rfl)]
 rw [w3A (r := (List.replicate 256 1, ())) (by kernel_rfl)]
 rfl
theorem c6G (n : Nat) : ((List.range (n + 1)).map fun (j : Nat) => (j : Int)) ++ [((n + 1 : Nat) : Int)] = (List.range (n + 2)).map fun (j : Nat) => (j : Int) := by
 rw [List.range_succ (n := n + 1)]; simp
theorem c7G {ones : List Int} (hl : ones.length = 256) (ho : ∀ i, i < 256 → ones.getD i 0 = 1) : c9B ones = some (o1A, 0) := by
 have loop : a1A d8B (ones, ones, (ones.length : Int), 0, [], [0], ()) = some (.inl (ones, [], o1A, ())) := by
  obtain ⟨r, h1, h2⟩ := l0A (f := d8B) (fun x => (256 - x.2.2.2.1).toNat) (fun x => ∃ i : Nat, x = (ones, ones, (ones.length : Int), (i : Int), [], ((List.range (i + 1)).map fun (j : Nat) => (j : Int)), ()) ∧ i ≤ 256)
   (fun r => r = .inl (ones, [], o1A, ())) (by
    rintro x ⟨i, rfl, h1⟩
    by_cases h2 : i < 256
    ·left
     have hg := ho i h2
     have hlen : ((List.range (i + 1)).map fun (j : Nat) => (j : Int)).length = i + 1 := by simp
     have hlast := r4C (C := (List.range (i + 1)).map fun (j : Nat) => (j : Int)) (by omega) (by omega)
     rw [hlen, Nat.add_sub_cancel, q7E _ _ (by omega)] at hlast
     have hroom : f2A 8 ((List.range (i + 2)).map fun (j : Nat) => (j : Int)).length = true := n1B.2 (by simp; omega)
     refine ⟨_, ?_, ⟨i + 1, rfl, h2⟩, by simp only; omega⟩
     have hs := c6G i
     have e : ((i + 1 : Nat) : Int) = (i : Int) + 1 := by omega
     rw [e] at hs
     simp (disch := omega) only [d8B, dT, dF, wT, Int.toNat_natCast, hg, hlast, Option.bind_some, a3A, hs, hroom, cond_true]
     rw [e]
    ·right
     have : i = 256 := by omega
     subst this
     refine ⟨_, ?_, rfl⟩
     simp (disch := omega) only [d8B, dF]
     rfl) _ ⟨0, rfl, by omega⟩
  have h1' : a1A d8B (ones, ones, (ones.length : Int), 0, [], [0], ()) = some r := h1
  rw [h1', h2]
 have hroom : (decide ((0 : Int) ≤ 1) && decide (1 ≤ (256 : Int) + 1) && f2A 8 ((256 : Int) + 1).toNat) = true := by decide
 have e : (ones.length : Int) = 256 := by omega
 rw [e] at loop
 have hrep : List.replicate 1 (0 : Int) = [0] := rfl
 have e2 : ((256 : Int) == 0) = false := by decide
 simp (disch := omega) only [c9B, dF, e, a3A, hrep, loop, Option.bind_some, eF]
 exact cT hroom
theorem c8G : c9B (List.replicate 256 1) = some (o1A, 0) := c7G List.length_replicate fun i hi => by
 rw [List.getD_eq_getElem?_getD, List.getElem?_replicate, if_pos hi]; rfl
theorem c9G : y9C 256 = some (o1A, 0) := by
 simp (disch := omega) only [y9C, dF, Option.bind_some, c5G, c8G, decide_false, cond_false]
def t9B (l : List Int) : List Bool := l.flatMap fun x => bn x.toNat 8
theorem d0G (l : List Int) : (t9B l).length = 8 * l.length := by
 induction l with
 | nil => rfl
 | cons x l ih =>
  show (bn x.toNat 8 ++ t9B l).length = _
  rw [List.length_append, w2A, ih, List.length_cons]; omega
theorem d1G {x M : List Bool} (hx : x.length = 8) : pk (x ++ M) = ((byt x 0 : Nat) : Int) :: pk M := by
 symm
 apply c8D
 ·rw [List.length_cons, m8A, List.length_append, hx]; omega
 ·intro k hk
  cases k with
  | zero =>
   rw [List.getD_cons_zero]
   congr 1
   exact (m0E (by omega)).symm
  | succ k =>
   rw [List.getD_cons_succ, n4B]
   congr 1
   apply Nat.eq_of_testBit_eq
   intro i
   rw [b2B, b2B, t2B, hx]
   by_cases hi : i < 8
   ·rw [if_neg (by omega), show 8 * (k + 1) + (7 - i) - 8 = 8 * k + (7 - i) from by omega]
   ·simp [hi]
theorem d2G {b : Nat} (hb : b < 256) : byt (bn b 8) 0 = b := by
 apply Nat.eq_of_testBit_eq
 intro i
 rw [b2B, t3B]
 by_cases hi : i < 8
 ·have : 8 * 0 + (7 - i) < 8 := by omega
  simp only [hi, this, decide_true, Bool.true_and]
  congr 1; omega
 ·rw [Nat.testBit_lt_two_pow (Nat.lt_of_lt_of_le hb (show 2 ^ 8 ≤ 2 ^ i from Nat.pow_le_pow_right (by omega) (by omega)))]
  simp [hi]
theorem q9E : ∀ (l : List Int) (M : List Bool), bytes l → pk (t9B l ++ M) = l ++ pk M
 | [], M, _ => rfl
 | x :: l, M, hb => by
  have hx := hb x List.mem_cons_self
  obtain ⟨b, rfl⟩ : ∃ b : Nat, x = b := ⟨x.toNat, by omega⟩
  show pk ((bn ((b : Int).toNat) 8 ++ t9B l) ++ M) = _
  rw [Int.toNat_natCast, List.append_assoc, d1G (w2A _ _), d2G (by omega), q9E l M (fun y hy => hb y (List.mem_cons_of_mem _ hy))]
  rfl
end Go.Sq
namespace Go.Sq
open Go.Rx
def e4A : List Bool → Nat
 | [] => 0
 | b :: l => b.toNat * 2 ^ l.length + e4A l
theorem s7D : ∀ (l m : List Bool), e4A (l ++ m) = e4A l * 2 ^ m.length + e4A m
 | [], m => by simp [e4A]
 | b :: l, m => by
  simp only [List.cons_append, e4A, List.length_append, s7D l m, Nat.pow_add, Nat.add_mul, Nat.mul_assoc]
  omega
end Go.Sq
namespace Go.Sq
open Go.Rx
def base (l : List Bool) (w : Nat) : Int := (e4A l : Int) * (4294967296 * 2 ^ w) + 2147483648 * (2 ^ w - 1)
theorem r0E (b : Bool) : ∀ k, e4A (List.replicate k b) = b.toNat * (2 ^ k - 1)
 | 0 => by simp [e4A]
 | k + 1 => by
  have := Nat.two_pow_pos k
  rw [List.replicate_succ, e4A, r0E b k, List.length_replicate, Nat.pow_succ]
  cases b
  ·simp
  ·simp; omega
theorem s8D (l : List Bool) (b : Bool) (w : Nat) : e4A (g0A l b w) = e4A l * 2 ^ w * 2 + (b.toNat * 2 ^ w + (!b).toNat * (2 ^ w - 1)) := by
 unfold g0A
 rw [s7D, e4A, r0E, List.length_cons, List.length_replicate, Nat.pow_succ, Nat.mul_assoc]
theorem d3G (l : List Bool) (w : Nat) : base (g0A l false w) 0 = 2 * base l w := by
 unfold base
 rw [s8D]
 have hp : (1 : Int) ≤ 2 ^ w := by have := Int.pow_pos (n := 2) (m := w) (by decide); omega
 have hc : ((2 ^ w : Nat) : Int) = (2 : Int) ^ w := by simp
 have h1 : (((e4A l * 2 ^ w * 2 + (false.toNat * 2 ^ w + (!false).toNat * (2 ^ w - 1)) : Nat)) : Int) = (e4A l : Int) * 2 ^ w * 2 + (2 ^ w - 1) := by
  have : e4A l * 2 ^ w * 2 + (false.toNat * 2 ^ w + (!false).toNat * (2 ^ w - 1)) = e4A l * 2 ^ w * 2 + (2 ^ w - 1) := by simp
  rw [this]
  have hp' := Nat.two_pow_pos w
  rw [Int.natCast_add, Int.natCast_mul, Int.natCast_mul, hc]
  omega
 rw [h1]
 have h2 : (e4A l : Int) * (4294967296 * 2 ^ w) = 4294967296 * ((e4A l : Int) * 2 ^ w) := by rw [Int.mul_left_comm]
 rw [h2]
 simp
 omega
theorem d4G (l : List Bool) (w : Nat) : base (g0A l true w) 0 = 2 * base l w + 4294967296 := by
 unfold base
 rw [s8D]
 have hc : ((2 ^ w : Nat) : Int) = (2 : Int) ^ w := by simp
 have h1 : (((e4A l * 2 ^ w * 2 + (true.toNat * 2 ^ w + (!true).toNat * (2 ^ w - 1)) : Nat)) : Int) = (e4A l : Int) * 2 ^ w * 2 + 2 ^ w := by
  have : e4A l * 2 ^ w * 2 + (true.toNat * 2 ^ w + (!true).toNat * (2 ^ w - 1)) = e4A l * 2 ^ w * 2 + 2 ^ w := by simp
  rw [this, Int.natCast_add, Int.natCast_mul, Int.natCast_mul, hc]
  omega
 rw [h1]
 have h2 : (e4A l : Int) * (4294967296 * 2 ^ w) = 4294967296 * ((e4A l : Int) * 2 ^ w) := by rw [Int.mul_left_comm]
 rw [h2]
 simp
 omega
theorem d5G (l : List Bool) (w : Nat) : base l (w + 1) = 2 * base l w + 2147483648 := by
 unfold base
 have h2 : ∀ x : Int, (e4A l : Int) * (4294967296 * x) = 4294967296 * ((e4A l : Int) * x) := fun x => Int.mul_left_comm _ _ _
 have h3 : (e4A l : Int) * (2 ^ w * 2) = (e4A l : Int) * 2 ^ w * 2 := (Int.mul_assoc _ _ _).symm
 rw [h2, h2, Int.pow_succ, h3]
 omega
def r1A (B : List Bool) (w : Nat) (l : List Bool) : Int := j0A B (l.length + w + 32) - base l w
def u0B (B : List Bool) (lo hi : Int) (w : Nat) (l : List Bool) : Prop := lo ≤ r1A B w l ∧ r1A B w l ≤ hi
theorem d6G (B : List Bool) (w : Nat) (l : List Bool) : r1A B 0 (g0A l false w) = 2 * r1A B w l + bI B (l.length + w + 32) := by
 unfold r1A
 rw [d3G, o0A, show l.length + w + 1 + 0 + 32 = (l.length + w + 32) + 1 from by omega, j0A]; omega
theorem d7G (B : List Bool) (w : Nat) (l : List Bool) : r1A B 0 (g0A l true w) = 2 * (r1A B w l - 2147483648) + bI B (l.length + w + 32) := by
 unfold r1A
 rw [d4G, o0A, show l.length + w + 1 + 0 + 32 = (l.length + w + 32) + 1 from by omega, j0A]; omega
theorem d8G (B : List Bool) (w : Nat) (l : List Bool) : r1A B (w + 1) l = 2 * (r1A B w l - 1073741824) + bI B (l.length + w + 32) := by
 unfold r1A
 rw [d5G, show l.length + (w + 1) + 32 = (l.length + w + 32) + 1 from by omega, j0A]; omega
theorem d3D : ∀ {n : Nat} {lo hi : Int} {w : Nat} {l : List Bool} {lo' hi' : Int} {w' : Nat} {l' : List Bool}, l1A n lo hi → j3A (n + 1) lo hi w l = some (lo', hi', w', l') →
  d5A lo' hi' ∧ 0 ≤ lo' ∧ hi' < 4294967296 ∧ ∃ k, l'.length + w' = l.length + w + k ∧ hi' - lo' + 1 = (hi - lo + 1) * 2 ^ k := by
 intro n
 induction n with
 | zero =>
  intro lo hi w l lo' hi' w' l' hr h
  have := t3A hr
  rw [j3A, if_neg (by omega), if_neg (by omega), if_neg (by omega)] at h
  cases h
  exact ⟨by unfold d5A; omega, by omega, by omega, 0, rfl, by simp⟩
 | succ n ih =>
  intro lo hi w l lo' hi' w' l' hr h
  obtain ⟨r1, r2, r3, r4⟩ := hr
  have hr : l1A (n + 1) lo hi := ⟨r1, r2, r3, r4⟩
  have dbl : ∀ (a k : Int) (m : Nat), a = 2 * k → a * 2 ^ m = k * 2 ^ (m + 1) := fun a k m e => by rw [e, Int.pow_succ, Int.mul_comm 2 k, Int.mul_assoc, Int.mul_comm 2]
  rw [j3A] at h
  by_cases c1 : hi < 2147483648
  ·rw [if_pos c1] at h
   split at h
   ·cases h
   ·obtain ⟨a1, a2, a3, k, a4, a5⟩ := ih (n7A hr (by omega) (by omega) (by omega)) h
    rw [o0A] at a4
    exact ⟨a1, a2, a3, k + 1, by omega, by rw [a5]; exact dbl _ _ _ (by omega)⟩
  rw [if_neg c1] at h
  by_cases c2 : lo ≥ 2147483648
  ·rw [if_pos c2] at h
   split at h
   ·cases h
   ·obtain ⟨a1, a2, a3, k, a4, a5⟩ := ih (n7A hr (by omega) (by omega) (by omega)) h
    rw [o0A] at a4
    exact ⟨a1, a2, a3, k + 1, by omega, by rw [a5]; exact dbl _ _ _ (by omega)⟩
  rw [if_neg c2] at h
  by_cases c3 : lo ≥ 1073741824 ∧ hi < 3221225472
  ·rw [if_pos c3] at h
   obtain ⟨a1, a2, a3, k, a4, a5⟩ := ih (n7A hr (by omega) (by omega) (by omega)) h
   exact ⟨a1, a2, a3, k + 1, by omega, by rw [a5]; exact dbl _ _ _ (by omega)⟩
  ·rw [if_neg c3] at h
   cases h
   exact ⟨by unfold d5A; omega, r1, r3, 0, rfl, by simp⟩
theorem d9G {B : List Bool} : ∀ {n : Nat} {lo hi : Int} {w : Nat} {l : List Bool} {lo' hi' : Int} {w' : Nat} {l' : List Bool}, l1A n lo hi → j3A (n + 1) lo hi w l = some (lo', hi', w', l') → u0B B lo' hi' w' l' →
  u0B B lo hi w l ∧ l2A (n + 1) lo hi (r1A B w l) (l.length + w + 32) B = (lo', hi', r1A B w' l', l'.length + w' + 32) := by
 intro n
 induction n with
 | zero =>
  intro lo hi w l lo' hi' w' l' hr h hin
  have := t3A hr
  rw [j3A, if_neg (by omega), if_neg (by omega), if_neg (by omega)] at h
  cases h
  refine ⟨hin, ?_⟩
  rw [l2A, if_neg (by omega), if_neg (by omega), if_neg (by omega)]
 | succ n ih =>
  intro lo hi w l lo' hi' w' l' hr h hin
  obtain ⟨r1, r2, r3, r4⟩ := hr
  have hr : l1A (n + 1) lo hi := ⟨r1, r2, r3, r4⟩
  have hb := n9B B (l.length + w + 32)
  rw [j3A] at h
  rw [l2A]
  by_cases c1 : hi < 2147483648
  ·rw [if_pos c1] at h ⊢
   split at h
   ·cases h
   ·obtain ⟨⟨a1, a2⟩, a3⟩ := ih (n7A hr (by omega) (by omega) (by omega)) h hin
    rw [d6G] at a1 a2 a3
    rw [o0A, show l.length + w + 1 + 0 + 32 = l.length + w + 32 + 1 from by omega] at a3
    exact ⟨⟨by omega, by omega⟩, a3⟩
  rw [if_neg c1] at h ⊢
  by_cases c2 : lo ≥ 2147483648
  ·rw [if_pos c2] at h ⊢
   split at h
   ·cases h
   ·obtain ⟨⟨a1, a2⟩, a3⟩ := ih (n7A hr (by omega) (by omega) (by omega)) h hin
    rw [d7G] at a1 a2 a3
    rw [o0A, show l.length + w + 1 + 0 + 32 = l.length + w + 32 + 1 from by omega] at a3
    exact ⟨⟨by omega, by omega⟩, a3⟩
  rw [if_neg c2] at h ⊢
  by_cases c3 : lo ≥ 1073741824 ∧ hi < 3221225472
  ·rw [if_pos c3] at h ⊢
   obtain ⟨⟨a1, a2⟩, a3⟩ := ih (n7A hr (by omega) (by omega) (by omega)) h hin
   rw [d8G] at a1 a2 a3
   rw [show l.length + (w + 1) + 32 = l.length + w + 32 + 1 from by omega] at a3
   exact ⟨⟨by omega, by omega⟩, a3⟩
  ·rw [if_neg c3] at h ⊢
   cases h
   exact ⟨hin, rfl⟩
theorem e0G {lo hi c t a b : Int} (hR : 0 < hi - lo + 1) (ht : 1 ≤ t) (h1 : i4A lo hi a t ≤ c) (h2 : c ≤ i5A lo hi b t) : a ≤ l3A lo hi c t ∧ l3A lo hi c t < b := by
 unfold i4A at h1
 unfold i5A at h2
 have g1 : (hi - lo + 1) * a < (c - lo + 1) * t := by
  have := Int.lt_ediv_add_one_mul_self ((hi - lo + 1) * a) (show 0 < t by omega)
  have h3 : ((hi - lo + 1) * a / t + 1) * t ≤ (c - lo + 1) * t := Int.mul_le_mul_of_nonneg_right (by omega) (by omega)
  omega
 have g2 : (c - lo + 1) * t ≤ (hi - lo + 1) * b := by
  have h3 := Int.ediv_mul_le ((hi - lo + 1) * b) (show t ≠ 0 by omega)
  have h4 : (c - lo + 1) * t ≤ (hi - lo + 1) * b / t * t := Int.mul_le_mul_of_nonneg_right (by omega) (by omega)
  omega
 unfold l3A
 constructor
 ·apply Int.le_ediv_of_mul_le hR
  rw [Int.mul_comm a]; omega
 ·apply Int.ediv_lt_of_lt_mul hR
  rw [Int.mul_comm b]; omega
theorem e1G (L T : List Bool) : ∀ k, ∃ r : Int, j0A (L ++ T) (L.length + k) = (e4A L : Int) * 2 ^ k + r ∧ 0 ≤ r ∧ r < 2 ^ k := by
 have h0 : j0A (L ++ T) L.length = e4A L := by
  have key : ∀ (M N : List Bool), j0A (M ++ N) M.length = e4A M := by
   intro M
   generalize hn : M.length = n
   induction n generalizing M with
   | zero =>
    intro N
    have : M = [] := List.length_eq_zero_iff.1 hn
    subst this; rfl
   | succ n ih =>
    intro N
    have hne : M ≠ [] := by rintro rfl; simp at hn
    obtain ⟨M', b, rfl⟩ : ∃ M' b, M = M' ++ [b] := ⟨M.dropLast, M.getLast hne, (List.dropLast_concat_getLast hne).symm⟩
    have hl : M'.length = n := by simp at hn; omega
    have := ih M' hl ([b] ++ N)
    rw [← List.append_assoc] at this
    rw [j0A, this, s7D]
    have hb : bI (M' ++ [b] ++ N) n = (b.toNat : Int) := by
     unfold bI
     rw [List.append_assoc, t2B, if_neg (by omega), hl, Nat.sub_self]; rfl
    rw [hb]
    simp [e4A]
    omega
  exact key L T
 intro k
 induction k with
 | zero => exact ⟨0, by rw [Nat.add_zero, h0]; simp, by decide, by decide⟩
 | succ k ih =>
  obtain ⟨r, h1, h2, h3⟩ := ih
  have hb := n9B (L ++ T) (L.length + k)
  refine ⟨2 * r + bI (L ++ T) (L.length + k), ?_, by omega, by rw [Int.pow_succ]; omega⟩
  rw [← Nat.add_assoc, j0A, h1, Int.pow_succ, ← Int.mul_assoc]
  omega
theorem e2G {lo hi : Int} {w : Nat} {l T : List Bool} (h0 : 0 ≤ lo) (hh : hi < 4294967296) (hg : d5A lo hi) : u0B (g0A l (decide (1073741824 ≤ lo)) (w + 1) ++ T) lo hi w l := by
 unfold u0B r1A
 have hlen := o0A l (decide (1073741824 ≤ lo)) (w + 1)
 obtain ⟨r, h1, h2, h3⟩ := e1G (g0A l (decide (1073741824 ≤ lo)) (w + 1)) T 30
 rw [hlen, show l.length + (w + 1) + 1 + 30 = l.length + w + 32 from by omega] at h1
 rw [h1, s8D]
 have hc : ((2 ^ w : Nat) : Int) = (2 : Int) ^ w := by simp
 have hp : (1 : Int) ≤ 2 ^ w := by have := Int.pow_pos (n := 2) (m := w) (by decide); omega
 have hp' := Nat.two_pow_pos w
 unfold base
 have e2 : (e4A l : Int) * (4294967296 * 2 ^ w) = 4294967296 * ((e4A l : Int) * 2 ^ w) := Int.mul_left_comm _ _ _
 rw [e2]
 have e30 : (2 : Int) ^ 30 = 1073741824 := by decide
 rw [e30] at h3 ⊢
 obtain ⟨g1, g2, g3, g4⟩ := hg
 have hx : ((e4A l * 2 ^ (w + 1) : Nat) : Int) = (e4A l : Int) * 2 ^ w * 2 := by
  rw [Nat.pow_succ, ← Nat.mul_assoc, Int.natCast_mul, Int.natCast_mul, hc]; rfl
 by_cases hq : 1073741824 ≤ lo
 ·rw [decide_eq_true hq]
  have e1 : ((e4A l * 2 ^ (w + 1) * 2 + (true.toNat * 2 ^ (w + 1) + (!true).toNat * (2 ^ (w + 1) - 1)) : Nat) : Int) = (e4A l : Int) * 2 ^ w * 2 * 2 + 2 ^ w * 2 := by
   have : e4A l * 2 ^ (w + 1) * 2 + (true.toNat * 2 ^ (w + 1) + (!true).toNat * (2 ^ (w + 1) - 1)) = e4A l * 2 ^ (w + 1) * 2 + 2 ^ w * 2 := by simp [Nat.pow_succ]
   rw [this, Int.natCast_add, Int.natCast_mul, hx, Int.natCast_mul, hc]; rfl
  rw [e1]
  generalize (e4A l : Int) * 2 ^ w = X at *
  generalize (2 : Int) ^ w = Y at *
  omega
 ·rw [decide_eq_false hq]
  have e1 : ((e4A l * 2 ^ (w + 1) * 2 + (false.toNat * 2 ^ (w + 1) + (!false).toNat * (2 ^ (w + 1) - 1)) : Nat) : Int) = (e4A l : Int) * 2 ^ w * 2 * 2 + (2 ^ w * 2 - 1) := by
   have : e4A l * 2 ^ (w + 1) * 2 + (false.toNat * 2 ^ (w + 1) + (!false).toNat * (2 ^ (w + 1) - 1)) = e4A l * 2 ^ (w + 1) * 2 + (2 ^ w * 2 - 1) := by simp [Nat.pow_succ]
   rw [this, Int.natCast_add, Int.natCast_mul, hx]
   omega
  rw [e1]
  generalize (e4A l : Int) * 2 ^ w = X at *
  generalize (2 : Int) ^ w = Y at *
  omega
end Go.Sq
namespace Go.Sq
open Go.Rx
def g1A (lo hi : Int) (w : Nat) (l : List Bool) : i3A := (lo, (hi, ((w : Int), (pk l, (l.length : Int)))))
def u1B (B : List Bool) (lo hi : Int) (w : Nat) (l : List Bool) : e3A := (lo, (hi, (r1A B w l, ((pk B, (B.length : Int)), ((l.length + w + 32 : Nat) : Int)))))
structure j9B (lo hi : Int) (w : Nat) (l : List Bool) : Prop where
 lo0 : 0 ≤ lo
 hi1 : hi < 4294967296
 good : d5A lo hi
 wait : w ≤ 65536
 len : l.length ≤ 65536
theorem s9D {lo hi : Int} {w : Nat} {l : List Bool} (h : j9B lo hi w l) {C : List Int} {s : Int} (hC : b3A C) (hs : s < 2 ^ 63) (hz : (k0A (g1A lo hi w l) C s).2 = 0) :
  r0A C s ∧ ∃ (lo' hi' : Int) (w' : Nat) (l' : List Bool), j3A 33 (i4A lo hi (C.getD s.toNat 0) (c2A C)) (i5A lo hi (C.getD (s.toNat + 1) 0) (c2A C)) w l = some (lo', hi', w', l') ∧ j9B lo' hi' w' l' ∧ k0A (g1A lo hi w l) C s = (g1A lo' hi' w' l', 0) := by
 have hgl := h.good.1
 have h1 := h.lo0
 have h2 := h.hi1
 have hwf : wfE (g1A lo hi w l) := p7E ⟨h1, by omega⟩ ⟨by omega, h2⟩ h.len
 by_cases ho : r0A C s
 ·refine ⟨ho, ?_⟩
  have hp := q4E h1 h2 h.good h.wait h.len ho
  unfold g1A at hz ⊢
  rw [hp] at hz ⊢
  obtain ⟨_, t1, t2⟩ := r9A ho.1
  obtain ⟨a0, a1, a2⟩ := c4C ho.1 ho.2.1 ho.2.2
  have hgw := t7B h.good
  obtain ⟨f1, f2, f3, f4, f5, f6, f7⟩ := n7B (r := hi - lo + 1) (a := C.getD s.toNat 0) (b := C.getD (s.toNat + 1) 0) (t := c2A C) (by omega) (by omega) a0 a1 a2 t1 t2
  have hL : i4A lo hi (C.getD s.toNat 0) (c2A C) = lo + (hi - lo + 1) * C.getD s.toNat 0 / c2A C := rfl
  have hH : i5A lo hi (C.getD (s.toNat + 1) 0) (c2A C) = lo + (hi - lo + 1) * C.getD (s.toNat + 1) 0 / c2A C - 1 := rfl
  have hroom : l1A 32 (i4A lo hi (C.getD s.toNat 0) (c2A C)) (i5A lo hi (C.getD (s.toNat + 1) 0) (c2A C)) := n6B (by rw [hL]; omega) (by rw [hL, hH]; omega) (by rw [hH]; omega)
  cases hW : j3A 33 (i4A lo hi (C.getD s.toNat 0) (c2A C)) (i5A lo hi (C.getD (s.toNat + 1) 0) (c2A C)) w l with
  | none =>
   unfold e7B at hz
   rw [hW] at hz
   simp [t4A, n8B] at hz
  | some r =>
   obtain ⟨lo', hi', w', l'⟩ := r
   have hw' : w' ≤ 65536 := by
    rcases Nat.lt_or_ge 65536 w' with h5 | h5
    ·unfold e7B at hz
     rw [hW] at hz
     simp [t4A, n8B, h5] at hz
    ·exact h5
   obtain ⟨b1, b2, b3, _⟩ := d3D hroom hW
   have b4 := (c5C h.len hW).1
   have b5 := b1.1
   exact ⟨lo', hi', w', l', rfl, ⟨b2, b3, b1, hw', b4⟩, q5E rfl hW hw' ⟨b2, by omega⟩ ⟨by omega, b3⟩⟩
 ·exfalso
  rw [(show k0A (g1A lo hi w l) C s = ((0, (0, (0, ([], 0)))), 1) by unfold k0A; rw [o9E hwf hC hs (fun hh => ho hh.2)]; rfl)] at hz
  cases hz
theorem r1E : ∀ (zs : List (Int × List Int)) {lo hi : Int} {w : Nat} {l : List Bool}, j9B lo hi w l → (∀ z ∈ zs, b3A z.2 ∧ z.1 < 2 ^ 63) → (i6A zs (g1A lo hi w l)).2 = 0 →
  ∃ (lo' hi' : Int) (w' : Nat) (l' : List Bool), i6A zs (g1A lo hi w l) = (g1A lo' hi' w' l', 0) ∧ j9B lo' hi' w' l' ∧ l.length + w ≤ l'.length + w' ∧
   ∀ B : List Bool, B.length ≤ 65536 → l'.length + w' ≤ B.length → u0B B lo' hi' w' l' → u0B B lo hi w l ∧ ∀ acc, j8B (zs.map (·.2)) (u1B B lo hi w l) acc = (acc ++ zs.map (·.1), 0)
 | [], lo, hi, w, l, h, _, _ => ⟨lo, hi, w, l, rfl, h, Nat.le_refl _, fun B _ _ hin => ⟨hin, fun acc => by simp [j8B]⟩⟩
 | (s, C) :: zs, lo, hi, w, l, h, hz, hp => by
  rw [i6A] at hp
  have hzC : b3A C := (hz (s, C) List.mem_cons_self).1
  have hzs : s < 2 ^ 63 := (hz (s, C) List.mem_cons_self).2
  have hp : (if (k0A (g1A lo hi w l) C s).2 ≠ 0 then (j7B, (k0A (g1A lo hi w l) C s).2) else i6A zs (k0A (g1A lo hi w l) C s).1).2 = 0 := hp
  have hz0 : (k0A (g1A lo hi w l) C s).2 = 0 := by
   by_cases h0 : (k0A (g1A lo hi w l) C s).2 = 0
   ·exact h0
   ·rw [if_pos h0] at hp; exact absurd hp h0
  rw [if_neg (by simp [hz0])] at hp
  obtain ⟨hsp, lo1, hi1, w1, l1, hW, hat, hput⟩ := s9D (C := C) (s := s) h hzC hzs hz0
  rw [hput] at hp
  obtain ⟨lo', hi', w', l', e1, e2, e3, e4⟩ := r1E zs hat (fun z hz' => hz z (List.mem_cons_of_mem _ hz')) hp
  have h1 := h.lo0
  have h2 := h.hi1
  have hgl := h.good.1
  obtain ⟨_, t1, t2⟩ := r9A hsp.1
  obtain ⟨a0, a1, a2⟩ := c4C hsp.1 hsp.2.1 hsp.2.2
  have hgw := t7B h.good
  obtain ⟨f1, f2, f3, f4, f5, f6, f7⟩ := n7B (r := hi - lo + 1) (a := C.getD s.toNat 0) (b := C.getD (s.toNat + 1) 0) (t := c2A C) (by omega) (by omega) a0 a1 a2 t1 t2
  have hL : i4A lo hi (C.getD s.toNat 0) (c2A C) = lo + (hi - lo + 1) * C.getD s.toNat 0 / c2A C := rfl
  have hH : i5A lo hi (C.getD (s.toNat + 1) 0) (c2A C) = lo + (hi - lo + 1) * C.getD (s.toNat + 1) 0 / c2A C - 1 := rfl
  have hroom : l1A 32 (i4A lo hi (C.getD s.toNat 0) (c2A C)) (i5A lo hi (C.getD (s.toNat + 1) 0) (c2A C)) := n6B (by rw [hL]; omega) (by rw [hL, hH]; omega) (by rw [hH]; omega)
  obtain ⟨b1, b2, b3, k, b4, _⟩ := d3D hroom hW
  refine ⟨lo', hi', w', l', ?_, e2, by omega, fun B hB hlen hin => ?_⟩
  ·rw [i6A, if_neg (by simp [hz0]), hput]; exact e1
  ·obtain ⟨g1, g2⟩ := e4 B hB hlen hin
   obtain ⟨⟨q1, q2⟩, q3⟩ := d9G hroom hW g1
   have hs1 := hsp.2.1
   have hs2 := hsp.2.2
   have hsym : e5B C (l3A lo hi (r1A B w l) (c2A C)) s.toNat := by
    obtain ⟨x1, x2⟩ := e0G (by omega) t1 q1 q2
    exact ⟨by omega, x1, x2⟩
   have hin2 : u0B B lo hi w l := ⟨by rw [hL] at q1; omega, by rw [hH] at q2; omega⟩
   refine ⟨hin2, fun acc => ?_⟩
   have hnext : c7A (u1B B lo hi w l) C = (u1B B lo1 hi1 w1 l1, (((s.toNat : Nat) : Int), 0)) := by
    unfold u1B
    rw [c2G h1 h2 h.good hin2.1 hin2.2 hB (by omega) (by omega) hsp.1 hsym]
    have b5 := b1.1
    have g3 := g1.1
    have g4 := g1.2
    exact c3G rfl q3 ⟨b2, by omega⟩ ⟨by omega, b3⟩ ⟨by omega, by omega⟩
   rw [List.map_cons, j8B, hnext]
   simp only [ne_eq, not_true_eq_false, if_false]
   rw [g2]
   have : ((s.toNat : Nat) : Int) = s := by omega
   rw [this]
   simp
theorem t0D : j9B 0 4294967295 0 [] := ⟨by decide, by decide, by decide, by decide, by decide⟩
end Go.Sq
namespace Go.Sq
open Go.Rx
def u2B (s : Int) (C : List Int) (n : Nat) : Prop := c2A C ≤ (C.getD (s.toNat + 1) 0 - C.getD s.toNat 0) * 2 ^ n ∧ n ≤ 14
def b3B : List (Int × List Int) → List Nat → Prop
 | [], [] => True
 | (s, C) :: zs, n :: ns => u2B s C n ∧ b3B zs ns
 | _, _ => False
def o2A : List Nat → Nat
 | [] => 0
 | n :: ns => n + o2A ns
theorem t1D : ∀ (ns : List Nat) (n : Nat), o2A (ns ++ [n]) = o2A ns + n
 | [], n => by simp [o2A]
 | m :: ns, n => by simp only [List.cons_append, o2A, t1D ns n]; omega
theorem t2D : ∀ {zs : List (Int × List Int)} {ns : List Nat} {s : Int} {C : List Int} {n : Nat}, b3B zs ns → u2B s C n → b3B (zs ++ [(s, C)]) (ns ++ [n])
 | [], [], s, C, n, _, h => ⟨h, trivial⟩
 | (s', C') :: zs, n' :: ns, s, C, n, h, h' => ⟨h.1, t2D h.2 h'⟩
 | [], _ :: _, _, _, _, h, _ => h.elim
 | _ :: _, [], _, _, _, h, _ => h.elim
theorem e3G {lo hi a b t : Int} {n : Nat} (hR : 1073741824 ≤ hi - lo + 1) (ht : 1 ≤ t) (hw : t ≤ (b - a) * 2 ^ n) (hn : n ≤ 14) :
  (hi - lo + 1) * 65535 ≤ (i5A lo hi b t - i4A lo hi a t + 1) * (2 ^ n * 65536) := by
 have hp : (1 : Int) ≤ 2 ^ n := by have := Int.pow_pos (n := 2) (m := n) (by decide); omega
 have hp2 : (2 : Int) ^ n ≤ 16384 := by
  have h : (2 : Nat) ^ n ≤ 2 ^ 14 := Nat.pow_le_pow_right (by omega) hn
  have e : (2 : Int) ^ n = ((2 ^ n : Nat) : Int) := by simp
  rw [e]; omega
 generalize hRR : hi - lo + 1 = R at *
 have e : i5A lo hi b t - i4A lo hi a t + 1 = R * b / t - R * a / t := by unfold i5A i4A; rw [hRR]; omega
 rw [e]
 generalize (2 : Int) ^ n = P at *
 have g1 := Int.lt_ediv_add_one_mul_self (R * b) (show 0 < t by omega)
 have g2 := Int.ediv_mul_le (R * a) (show t ≠ 0 by omega)
 generalize R * b / t = x at *
 generalize R * a / t = y at *
 have g3 : R * (b - a) - t ≤ (x - y) * t := by
  rw [Int.sub_mul, Int.mul_sub]
  rw [Int.add_mul] at g1
  omega
 have g4 : (R * (b - a) - t) * P ≤ (x - y) * t * P := Int.mul_le_mul_of_nonneg_right g3 (by omega)
 have g5 : R * t ≤ R * ((b - a) * P) := Int.mul_le_mul_of_nonneg_left hw (by omega)
 have g6 : (R - P) * t ≤ (x - y) * P * t := by
  have e1 : (x - y) * t * P = (x - y) * P * t := by ac_rfl
  have e2 : (R * (b - a) - t) * P = R * ((b - a) * P) - P * t := by rw [Int.sub_mul, Int.mul_assoc, Int.mul_comm t P]
  rw [e1, e2] at g4
  rw [Int.sub_mul]; omega
 have g7 : R - P ≤ (x - y) * P := Int.le_of_mul_le_mul_right g6 (by omega)
 have e3 : (x - y) * (P * 65536) = (x - y) * P * 65536 := by ac_rfl
 rw [e3]
 omega
theorem r2E : ∀ (zs : List (Int × List Int)) (ns : List Nat) {lo hi : Int} {w : Nat} {l : List Bool}, j9B lo hi w l → (∀ z ∈ zs, b3A z.2 ∧ z.1 < 2 ^ 63) → (i6A zs (g1A lo hi w l)).2 = 0 → b3B zs ns →
  ∃ (lo' hi' : Int) (w' : Nat) (l' : List Bool) (k : Nat), i6A zs (g1A lo hi w l) = (g1A lo' hi' w' l', 0) ∧ j9B lo' hi' w' l' ∧ l'.length + w' = l.length + w + k ∧
   (hi - lo + 1) * (2 ^ k * 65535 ^ zs.length) ≤ (hi' - lo' + 1) * (2 ^ o2A ns * 65536 ^ zs.length)
 | [], [], lo, hi, w, l, h, _, _, _ => ⟨lo, hi, w, l, 0, rfl, h, rfl, by simp [o2A]⟩
 | [], _ :: _, _, _, _, _, _, _, _, h => h.elim
 | (_, _) :: _, [], _, _, _, _, _, _, _, h => h.elim
 | (s, C) :: zs, n :: ns, lo, hi, w, l, h, hz, hp, hw => by
  rw [i6A] at hp
  have hzC : b3A C := (hz (s, C) List.mem_cons_self).1
  have hzs : s < 2 ^ 63 := (hz (s, C) List.mem_cons_self).2
  have hp : (if (k0A (g1A lo hi w l) C s).2 ≠ 0 then (j7B, (k0A (g1A lo hi w l) C s).2) else i6A zs (k0A (g1A lo hi w l) C s).1).2 = 0 := hp
  have hz0 : (k0A (g1A lo hi w l) C s).2 = 0 := by
   by_cases h0 : (k0A (g1A lo hi w l) C s).2 = 0
   ·exact h0
   ·rw [if_pos h0] at hp; exact absurd hp h0
  rw [if_neg (by simp [hz0])] at hp
  obtain ⟨hsp, lo1, hi1, w1, l1, hW, hat, hput⟩ := s9D (C := C) (s := s) h hzC hzs hz0
  rw [hput] at hp
  obtain ⟨lo', hi', w', l', k', e1, e2, e3, e4⟩ := r2E zs ns hat (fun z hz' => hz z (List.mem_cons_of_mem _ hz')) hp hw.2
  have h1 := h.lo0
  have h2 := h.hi1
  have hgl := h.good.1
  obtain ⟨_, t1, t2⟩ := r9A hsp.1
  obtain ⟨a0, a1, a2⟩ := c4C hsp.1 hsp.2.1 hsp.2.2
  have hgw := t7B h.good
  obtain ⟨f1, f2, f3, f4, f5, f6, f7⟩ := n7B (r := hi - lo + 1) (a := C.getD s.toNat 0) (b := C.getD (s.toNat + 1) 0) (t := c2A C) (by omega) (by omega) a0 a1 a2 t1 t2
  have hL : i4A lo hi (C.getD s.toNat 0) (c2A C) = lo + (hi - lo + 1) * C.getD s.toNat 0 / c2A C := rfl
  have hH : i5A lo hi (C.getD (s.toNat + 1) 0) (c2A C) = lo + (hi - lo + 1) * C.getD (s.toNat + 1) 0 / c2A C - 1 := rfl
  have hroom : l1A 32 (i4A lo hi (C.getD s.toNat 0) (c2A C)) (i5A lo hi (C.getD (s.toNat + 1) 0) (c2A C)) := n6B (by rw [hL]; omega) (by rw [hL, hH]; omega) (by rw [hH]; omega)
  obtain ⟨b1, b2, b3, k, b4, b5⟩ := d3D hroom hW
  have g := e3G (lo := lo) (hi := hi) hgw t1 hw.1.1 hw.1.2
  refine ⟨lo', hi', w', l', k + k', ?_, e2, by omega, ?_⟩
  ·rw [i6A, if_neg (by simp [hz0]), hput]; exact e1
  ·rw [List.length_cons]
   generalize hr : i5A lo hi (C.getD (s.toNat + 1) 0) (c2A C) - i4A lo hi (C.getD s.toNat 0) (c2A C) + 1 = r at g b5
   rw [b5] at e4
   have q2 : (2 : Int) ^ (k + k') = 2 ^ k * 2 ^ k' := Int.pow_add 2 k k'
   have q3 : (2 : Int) ^ o2A (n :: ns) = 2 ^ n * 2 ^ o2A ns := Int.pow_add 2 n (o2A ns)
   rw [q2, q3, Int.pow_succ, Int.pow_succ]
   have hA : (0 : Int) ≤ 2 ^ k * 2 ^ k' * 65535 ^ zs.length := by
    have x1 := Int.pow_pos (n := 2) (m := k) (by decide)
    have x2 := Int.pow_pos (n := 2) (m := k') (by decide)
    have x3 := Int.pow_pos (n := 65535) (m := zs.length) (by decide)
    exact Int.mul_nonneg (Int.mul_nonneg (by omega) (by omega)) (by omega)
   have s1 := Int.mul_le_mul_of_nonneg_right g hA
   have hB : (0 : Int) ≤ 2 ^ n * 65536 := by
    have x1 := Int.pow_pos (n := 2) (m := n) (by decide)
    omega
   have s2 := Int.mul_le_mul_of_nonneg_right e4 hB
   have u1 : (hi - lo + 1) * (2 ^ k * 2 ^ k' * (65535 ^ zs.length * 65535)) = (hi - lo + 1) * 65535 * (2 ^ k * 2 ^ k' * 65535 ^ zs.length) := by ac_rfl
   have u2 : r * (2 ^ n * 65536) * (2 ^ k * 2 ^ k' * 65535 ^ zs.length) = r * 2 ^ k * (2 ^ k' * 65535 ^ zs.length) * (2 ^ n * 65536) := by ac_rfl
   have u3 : (hi' - lo' + 1) * (2 ^ n * 2 ^ o2A ns * (65536 ^ zs.length * 65536)) = (hi' - lo' + 1) * (2 ^ o2A ns * 65536 ^ zs.length) * (2 ^ n * 65536) := by ac_rfl
   rw [u1, u3]
   rw [u2] at s1
   exact Int.le_trans s1 s2
theorem r3E : ∀ m : Nat, (65536 : Int) ^ m * (65536 - m) ≤ 65535 ^ m * 65536
 | 0 => by simp
 | m + 1 => by
  have ih := r3E m
  have hp := Int.pow_pos (n := 65536) (m := m) (by decide)
  have h1 := Int.mul_le_mul_of_nonneg_right ih (show (0 : Int) ≤ 65535 by decide)
  rw [Int.pow_succ, Int.pow_succ]
  have e1 : (65535 : Int) ^ m * 65535 * 65536 = 65535 ^ m * 65536 * 65535 := by ac_rfl
  rw [e1]
  refine Int.le_trans ?_ h1
  have e2 : (65536 : Int) ^ m * 65536 * (65536 - ((m + 1 : Nat) : Int)) = 65536 ^ m * (65536 * (65536 - ((m + 1 : Nat) : Int))) := Int.mul_assoc _ _ _
  have e3 : (65536 : Int) ^ m * (65536 - (m : Int)) * 65535 = 65536 ^ m * ((65536 - (m : Int)) * 65535) := Int.mul_assoc _ _ _
  rw [e2, e3]
  apply Int.mul_le_mul_of_nonneg_left _ (by omega)
  omega
theorem e4G {R : Int} {S K m : Nat} (hR : R ≤ 4294967296) (hm : m ≤ 100) (h : 4294967296 * (2 ^ K * 65535 ^ m) ≤ R * (2 ^ S * 65536 ^ m)) : K ≤ S := by
 refine Nat.le_of_not_lt fun hlt => ?_
 obtain ⟨j, rfl⟩ : ∃ j, K = S + 1 + j := ⟨K - S - 1, by omega⟩
 have p1 := Int.pow_pos (n := 2) (m := S) (by decide)
 have p2 := Int.pow_pos (n := 2) (m := j) (by decide)
 have p3 := Int.pow_pos (n := 65535) (m := m) (by decide)
 have p4 := Int.pow_pos (n := 65536) (m := m) (by decide)
 have hb := r3E m
 have e1 : (2 : Int) ^ (S + 1 + j) = 2 ^ S * 2 * 2 ^ j := by rw [Int.pow_add, Int.pow_succ]
 rw [e1] at h
 have q1 : R * (2 ^ S * 65536 ^ m) ≤ 4294967296 * (2 ^ S * 65536 ^ m) := Int.mul_le_mul_of_nonneg_right hR (Int.mul_nonneg (by omega) (by omega))
 have q2 := Int.le_trans h q1
 have q3 : (2 : Int) ^ S * 2 * 2 ^ j * 65535 ^ m ≤ 2 ^ S * 65536 ^ m := by omega
 have e2 : (2 : Int) ^ S * 2 * 2 ^ j * 65535 ^ m = 2 * 2 ^ j * 65535 ^ m * 2 ^ S := by ac_rfl
 have e3 : (2 : Int) ^ S * 65536 ^ m = 65536 ^ m * 2 ^ S := Int.mul_comm _ _
 rw [e2, e3] at q3
 have q4 := Int.le_of_mul_le_mul_right q3 p1
 have q5 : (1 : Int) * (2 * 65535 ^ m) ≤ 2 ^ j * (2 * 65535 ^ m) := Int.mul_le_mul_of_nonneg_right (by omega) (by omega)
 have e4 : (2 : Int) * 2 ^ j * 65535 ^ m = 2 ^ j * (2 * 65535 ^ m) := by ac_rfl
 rw [e4] at q4
 have q6 : (65536 : Int) ^ m * 65436 ≤ 65536 ^ m * (65536 - m) := Int.mul_le_mul_of_nonneg_left (by omega) (by omega)
 omega
end Go.Sq
