import Derived.Test.YtghhiloencpimaaGreatL5
set_option linter.unusedSimpArgs false
set_option linter.unusedVariables false
set_option linter.unusedSectionVars false
namespace Go.Sq
open Go.Rx
def d6A (B : Int) : List Int → Int
 | [] => 0
 | x :: l => x + B * d6A B l
def wrd (B : Int) (l : List Int) : Prop := ∀ j, 0 ≤ l.getD j 0 ∧ l.getD j 0 < B
theorem o9G {B : Int} {x : Int} {l : List Int} (h : wrd B (x :: l)) : wrd B l := fun j => h (j + 1)
theorem y5D (B : Int) : ∀ (l : List Int) (j : Nat) (v : Int), j < l.length → d6A B (l.set j v) = d6A B l + (v - l.getD j 0) * B ^ j
 | [], _, _, h => absurd h (Nat.not_lt_zero _)
 | x :: l, 0, v, _ => by
  show v + B * d6A B l = x + B * d6A B l + (v - x) * B ^ 0
  rw [Int.pow_zero]; omega
 | x :: l, j + 1, v, h => by
  have ih := y5D B l j v (Nat.lt_of_succ_lt_succ h)
  show x + B * d6A B (l.set j v) = x + B * d6A B l + (v - l.getD j 0) * B ^ (j + 1)
  rw [ih, Int.mul_add, Int.pow_succ, ← Int.mul_assoc, ← Int.mul_assoc, Int.mul_comm B (v - l.getD j 0), Int.mul_assoc, Int.mul_assoc, Int.mul_comm B (B ^ j)]
  omega
theorem g9D (B : Int) : ∀ (l : List Int) (k : Nat), k < l.length → d6A B (l.take (k + 1)) = d6A B (l.take k) + l.getD k 0 * B ^ k
 | [], _, h => absurd h (Nat.not_lt_zero _)
 | x :: l, 0, _ => by
  show x + B * d6A B (l.take 0) = 0 + x * B ^ 0
  rw [List.take_zero, Int.pow_zero]; show x + B * 0 = _; omega
 | x :: l, k + 1, h => by
  have ih := g9D B l k (Nat.lt_of_succ_lt_succ h)
  show x + B * d6A B (l.take (k + 1)) = x + B * d6A B (l.take k) + l.getD k 0 * B ^ (k + 1)
  rw [ih, Int.mul_add, Int.pow_succ, ← Int.mul_assoc, Int.mul_comm B (l.getD k 0), Int.mul_assoc, Int.mul_comm B (B ^ k)]
  omega
theorem c0F (B : Int) : ∀ n, d6A B (List.replicate n 0) = 0
 | 0 => rfl
 | n + 1 => by
  show 0 + B * d6A B (List.replicate n 0) = 0
  rw [c0F B n]; omega
theorem c1F {B : Int} (hB : 0 < B) : ∀ (l : List Int), wrd B l → 0 ≤ d6A B l ∧ d6A B l < B ^ l.length
 | [], _ => ⟨Int.le_refl _, by show (0 : Int) < B ^ 0; rw [Int.pow_zero]; omega⟩
 | x :: l, h => by
  obtain ⟨h1, h2⟩ := c1F hB l (o9G h)
  have h0 := h 0
  have h0 : 0 ≤ x ∧ x < B := h0
  show 0 ≤ x + B * d6A B l ∧ x + B * d6A B l < B ^ (l.length + 1)
  rw [Int.pow_succ]
  have a1 : 0 ≤ B * d6A B l := Int.mul_nonneg (Int.le_of_lt hB) h1
  have a2 : B * (d6A B l + 1) ≤ B * B ^ l.length := Int.mul_le_mul_of_nonneg_left h2 (Int.le_of_lt hB)
  rw [Int.mul_add, Int.mul_comm B (B ^ l.length)] at a2
  omega
def c3A (B : Int) (x : List Int) (a : Int) (i : Nat) (out : List Int) : Nat → List Int × Int
 | 0 => (out, 0)
 | k + 1 => ((c3A B x a i out k).1.set (i + k) ((a * x.getD k 0 + (c3A B x a i out k).2 + (c3A B x a i out k).1.getD (i + k) 0) % B), (a * x.getD k 0 + (c3A B x a i out k).2 + (c3A B x a i out k).1.getD (i + k) 0) / B)
theorem y6D {B a b c d : Int} (ha : 0 ≤ a ∧ a < B) (hb : 0 ≤ b ∧ b < B) (hc : 0 ≤ c ∧ c < B) (hd : 0 ≤ d ∧ d < B) : 0 ≤ a * b ∧ 0 ≤ a * b + c + d ∧ a * b + c + d < B * B := by
 have h1 : 0 ≤ a * b := Int.mul_nonneg ha.1 hb.1
 have h2 : a * b ≤ (B - 1) * (B - 1) := Int.mul_le_mul (by omega) (by omega) hb.1 (by omega)
 have h3 : (B - 1) * (B - 1) = B * B - B - B + 1 := by
  rw [Int.sub_mul, Int.mul_sub]; omega
 omega
structure p0G (B : Int) (x : List Int) (a : Int) (i : Nat) (out : List Int) (k : Nat) : Prop where
 len : (c3A B x a i out k).1.length = out.length
 wr : wrd B (c3A B x a i out k).1
 ov : 0 ≤ (c3A B x a i out k).2 ∧ (c3A B x a i out k).2 < B
 val : d6A B (c3A B x a i out k).1 + (c3A B x a i out k).2 * B ^ (i + k) = d6A B out + a * d6A B (x.take k) * B ^ i
 rest : ∀ j, i + k ≤ j → (c3A B x a i out k).1.getD j 0 = out.getD j 0
theorem c2F {B : Int} {l : List Int} (h : wrd B l) {j : Nat} {v : Int} (hj : j < l.length) (hv : 0 ≤ v ∧ v < B) : wrd B (l.set j v) := fun k => by
 rw [p2A _ _ _ _ _ hj]
 split
 ·exact hv
 ·exact h k
theorem e4C {B : Int} (hB : 0 < B) {x : List Int} (hx : wrd B x) {a : Int} (ha : 0 ≤ a ∧ a < B) {i : Nat} {out : List Int} (ho : wrd B out) (hl : i + x.length ≤ out.length) : ∀ k, k ≤ x.length → p0G B x a i out k
 | 0, _ => ⟨rfl, ho, ⟨Int.le_refl _, hB⟩, by show d6A B out + 0 * _ = d6A B out + a * 0 * _; rw [Int.zero_mul, Int.mul_zero, Int.zero_mul], fun _ _ => rfl⟩
 | k + 1, hk => by
  obtain ⟨h1, h2, h3, h4, h5⟩ := e4C hB hx ha ho hl k (by omega)
  have hxk := hx k
  have hok := h2 (i + k)
  have r := y6D ha hxk h3 hok
  have hlt : i + k < (c3A B x a i out k).1.length := by omega
  have m1 := Int.emod_nonneg (a * x.getD k 0 + (c3A B x a i out k).2 + (c3A B x a i out k).1.getD (i + k) 0) (show B ≠ 0 by omega)
  have m2 := Int.emod_lt_of_pos (a * x.getD k 0 + (c3A B x a i out k).2 + (c3A B x a i out k).1.getD (i + k) 0) hB
  have m3 := Int.emod_add_mul_ediv (a * x.getD k 0 + (c3A B x a i out k).2 + (c3A B x a i out k).1.getD (i + k) 0) B
  have d1 := Int.ediv_nonneg r.2.1 (Int.le_of_lt hB)
  have d2 := Int.ediv_lt_of_lt_mul hB r.2.2
  refine ⟨by simp only [c3A, List.length_set, h1], c2F h2 hlt ⟨m1, m2⟩, ⟨d1, d2⟩, ?_, fun j hj => ?_⟩
  ·simp only [c3A]
   rw [y5D B _ _ _ hlt, g9D B x k (by omega)]
   generalize (c3A B x a i out k).1.getD (i + k) 0 = o at *
   generalize (c3A B x a i out k).2 = c at *
   generalize d6A B (c3A B x a i out k).1 = V at *
   generalize x.getD k 0 = y at *
   generalize d6A B (x.take k) = W at *
   generalize hq : (a * y + c + o) / B = q at *
   generalize hm : (a * y + c + o) % B = m at *
   have e1 : q * B ^ (i + (k + 1)) = B * q * B ^ (i + k) := by
    rw [show i + (k + 1) = (i + k) + 1 from rfl, Int.pow_succ, Int.mul_comm (B ^ (i + k)) B, ← Int.mul_assoc, Int.mul_comm q B]
   have e2 : a * (W + y * B ^ k) * B ^ i = a * W * B ^ i + a * y * B ^ (i + k) := by
    rw [Int.mul_add, Int.add_mul, ← Int.mul_assoc, Int.mul_assoc (a * y), ← Int.pow_add, Nat.add_comm k i]
   rw [e1, e2, Int.add_assoc, ← Int.add_mul, show m - o + B * q = a * y + c by omega, Int.add_mul]
   omega
  ·show ((c3A B x a i out k).1.set (i + k) _).getD j 0 = _
   rw [p2A _ _ _ _ _ hlt, if_neg (by omega)]
   exact h5 j (by omega)
def sqS (B : Int) (x : List Int) : Nat → List Int
 | 0 => List.replicate (2 * x.length) 0
 | i + 1 => (c3A B x (x.getD i 0) i (sqS B x i) x.length).1.set (i + x.length) ((c3A B x (x.getD i 0) i (sqS B x i) x.length).1.getD (i + x.length) 0 + (c3A B x (x.getD i 0) i (sqS B x i) x.length).2)
structure p1G (B : Int) (x : List Int) (i : Nat) : Prop where
 len : (sqS B x i).length = 2 * x.length
 wr : wrd B (sqS B x i)
 val : d6A B (sqS B x i) = d6A B (x.take i) * d6A B x
 rest : ∀ j, i + x.length ≤ j → (sqS B x i).getD j 0 = 0
theorem h0D {B : Int} (hB : 0 < B) {x : List Int} (hx : wrd B x) : ∀ i, i ≤ x.length → p1G B x i
 | 0, _ => ⟨List.length_replicate, fun j => by rw [show (sqS B x 0).getD j 0 = 0 from n3A _ _]; omega, by show d6A B (List.replicate _ 0) = 0 * _; rw [c0F, Int.zero_mul], fun j _ => n3A _ _⟩
 | i + 1, hi => by
  obtain ⟨h1, h2, h3, h4⟩ := h0D hB hx i (by omega)
  obtain ⟨r1, r2, r3, r4, r5⟩ := e4C hB hx (hx i) (i := i) h2 (by omega) x.length (Nat.le_refl _)
  have z : (c3A B x (x.getD i 0) i (sqS B x i) x.length).1.getD (i + x.length) 0 = 0 := (r5 _ (Nat.le_refl _)).trans (h4 _ (Nat.le_refl _))
  have hlt : i + x.length < (c3A B x (x.getD i 0) i (sqS B x i) x.length).1.length := by omega
  refine ⟨by simp only [sqS, List.length_set, r1, h1], c2F r2 hlt (by rw [z]; omega), ?_, fun j hj => ?_⟩
  ·simp only [sqS]
   rw [y5D B _ _ _ hlt, z, g9D B x i (by omega)]
   rw [List.take_length] at r4
   rw [Int.zero_add, Int.sub_zero, r4, h3, Int.add_mul, Int.mul_assoc (x.getD i 0), Int.mul_comm (d6A B x), ← Int.mul_assoc]
  ·simp only [sqS]
   rw [p2A _ _ _ _ _ hlt, if_neg (by omega), r5 j (by omega), h4 j (by omega)]
def sqL (B : Int) (x : List Int) : List Int := sqS B x x.length
theorem p2G {B : Int} (hB : 0 < B) {x : List Int} (hx : wrd B x) : (sqL B x).length = 2 * x.length ∧ wrd B (sqL B x) ∧ d6A B (sqL B x) = d6A B x * d6A B x := by
 obtain ⟨h1, h2, h3, h4⟩ := h0D hB hx x.length (Nat.le_refl _)
 rw [List.take_length] at h3
 exact ⟨h1, h2, h3⟩
theorem t1C {a : Int} (h : 0 ≤ a) (h' : a < 18446744073709551616) : d4A .and .u64 a 4294967295 = a % 4294967296 := by
 obtain ⟨n, rfl⟩ := Int.eq_ofNat_of_zero_le h
 have := r2C (a := n) (b := 4294967295) (by omega) (by omega)
 rw [show (4294967295 : Nat) = 2 ^ 32 - 1 from rfl, Nat.and_two_pow_sub_one_eq_mod] at this
 exact this
theorem v6B {a : Int} (h : 0 ≤ a) : c5A .u64 a 32 = a / 4294967296 := by
 have : c5A .u64 a 32 = a.fdiv 4294967296 := rfl
 rw [this, Int.fdiv_eq_ediv_of_nonneg _ (by omega)]
theorem h1D {a b A B : Int} (h : 0 ≤ a ∧ a ≤ A) (h' : 0 ≤ b ∧ b ≤ B) : 0 ≤ a * b ∧ a * b ≤ A * B :=
 ⟨Int.mul_nonneg h.1 h'.1, Int.mul_le_mul h.2 h'.2 h'.1 (by omega)⟩
theorem p3G {a b : Int} (ha : 0 ≤ a ∧ a < 18446744073709551616) (hb : 0 ≤ b ∧ b < 18446744073709551616) : ∃ hi lo, i0C a b = some (hi, lo) ∧ hi * 18446744073709551616 + lo = a * b ∧ (0 ≤ hi ∧ hi < 18446744073709551616) ∧ (0 ≤ lo ∧ lo < 18446744073709551616) := by
 have e1 := t1C ha.1 ha.2
 have e2 := t1C hb.1 hb.2
 have e3 := v6B ha.1
 have e4 := v6B hb.1
 obtain ⟨ah, hah⟩ : ∃ v, a / 4294967296 = v := ⟨_, rfl⟩
 obtain ⟨al, hal⟩ : ∃ v, a % 4294967296 = v := ⟨_, rfl⟩
 obtain ⟨bh, hbh⟩ : ∃ v, b / 4294967296 = v := ⟨_, rfl⟩
 obtain ⟨bl, hbl⟩ : ∃ v, b % 4294967296 = v := ⟨_, rfl⟩
 have ea : a = ah * 4294967296 + al := by omega
 have eb : b = bh * 4294967296 + bl := by omega
 have p := h1D (a := al) (b := bl) (A := 4294967295) (B := 4294967295) (by omega) (by omega)
 have q := h1D (a := ah) (b := bl) (A := 4294967295) (B := 4294967295) (by omega) (by omega)
 have r := h1D (a := al) (b := bh) (A := 4294967295) (B := 4294967295) (by omega) (by omega)
 have s := h1D (a := ah) (b := bh) (A := 4294967295) (B := 4294967295) (by omega) (by omega)
 have eab : a * b = ah * bh * 18446744073709551616 + (ah * bl + al * bh) * 4294967296 + al * bl := by
  have h1 : ah * 4294967296 * (bh * 4294967296) = ah * bh * 18446744073709551616 := by rw [Int.mul_assoc, Int.mul_left_comm 4294967296, ← Int.mul_assoc]; rfl
  have h2 : ah * 4294967296 * bl = ah * bl * 4294967296 := Int.mul_right_comm ..
  have h3 : al * (bh * 4294967296) = al * bh * 4294967296 := (Int.mul_assoc ..).symm
  rw [ea, eb, Int.add_mul, Int.mul_add, Int.mul_add, h1, h2, h3]
  omega
 rw [hal] at e1; rw [hbl] at e2; rw [hah] at e3; rw [hbh] at e4
 have w0 : IntKind.u64.wrap (al * bl) = al * bl := b5A (by omega) (by omega)
 have w1 : IntKind.u64.wrap (ah * bl) = ah * bl := b5A (by omega) (by omega)
 have w2 : IntKind.u64.wrap (al * bh) = al * bh := b5A (by omega) (by omega)
 have w3 : IntKind.u64.wrap (ah * bh) = ah * bh := b5A (by omega) (by omega)
 have s0 := v6B p.1
 have lo : IntKind.u64.wrap (a * b) = (a * b) % 18446744073709551616 := by
  simp only [IntKind.wrap, IntKind.bits, IntKind.signed]; simp
 obtain ⟨P, hP⟩ : ∃ v, al * bl = v := ⟨_, rfl⟩
 obtain ⟨Q, hQ⟩ : ∃ v, ah * bl = v := ⟨_, rfl⟩
 obtain ⟨R, hR⟩ : ∃ v, al * bh = v := ⟨_, rfl⟩
 obtain ⟨S, hS⟩ : ∃ v, ah * bh = v := ⟨_, rfl⟩
 rw [hP] at p w0 s0 eab; rw [hQ] at q w1 eab; rw [hR] at r w2 eab; rw [hS] at s w3 eab
 have t1 : IntKind.u64.wrap (Q + P / 4294967296) = Q + P / 4294967296 := b5A (by omega) (by omega)
 have t2 := v6B (a := Q + P / 4294967296) (by omega)
 have t3 := t1C (a := Q + P / 4294967296) (by omega) (by omega)
 have t4 : IntKind.u64.wrap ((Q + P / 4294967296) % 4294967296 + R) = (Q + P / 4294967296) % 4294967296 + R := b5A (by omega) (by omega)
 have t5 := v6B (a := (Q + P / 4294967296) % 4294967296 + R) (by omega)
 have t6 : IntKind.u64.wrap (S + (Q + P / 4294967296) / 4294967296) = S + (Q + P / 4294967296) / 4294967296 := b5A (by omega) (by omega)
 have t7 : IntKind.u64.wrap (S + (Q + P / 4294967296) / 4294967296 + ((Q + P / 4294967296) % 4294967296 + R) / 4294967296) = S + (Q + P / 4294967296) / 4294967296 + ((Q + P / 4294967296) % 4294967296 + R) / 4294967296 := b5A (by omega) (by omega)
 refine ⟨S + (Q + P / 4294967296) / 4294967296 + ((Q + P / 4294967296) % 4294967296 + R) / 4294967296, (a * b) % 18446744073709551616, ?_, ?_, ?_, ?_⟩
 ·simp only [i0C, e1, e2, e3, e4, hP, hQ, hR, hS, w0, w1, w2, w3, s0, t1, t2, t3, t4, t5, t6, t7, lo]
 ·rw [eab]; omega
 ·omega
 ·omega
end Go.Sq
namespace Go.Sq
open Go.Rx
theorem p4G {x out : List Int} {a : Int} {i : Nat} {X : List Int} {N I2 : Int} (hx : wrd 18446744073709551616 x) (ho : wrd 18446744073709551616 out) (ha : 0 ≤ a ∧ a < 18446744073709551616) (hl : i + x.length ≤ out.length) (h1 : out.length ≤ 1000) :
  a1A m9C (x, out, (i : Int), a, 0, X, N, I2, x, (x.length : Int), 0, ()) = some (x, (c3A 18446744073709551616 x a i out x.length).1, (i : Int), (c3A 18446744073709551616 x a i out x.length).2, X, N, I2, ()) :=
 b7A (f := m9C) (fun k : Nat => (x, (c3A 18446744073709551616 x a i out k).1, (i : Int), a, (c3A 18446744073709551616 x a i out k).2, X, N, I2, x, (x.length : Int), (k : Int), ())) x.length (fun k hk => by
  obtain ⟨r1, r2, r3, _, _⟩ := e4C (by omega) hx ha ho hl k (by omega)
  have hxk := hx k
  have hok := r2 (i + k)
  have ax := y6D ha hxk r3 hok
  obtain ⟨hi, lo, m1, m2, m3, m4⟩ := p3G ha hxk
  have ew : IntKind.i64.wrap ((i : Int) + (k : Int)) = ((i + k : Nat) : Int) := by rw [a3A (by omega) (by omega)]; omega
  have er : c3A 18446744073709551616 x a i out (k + 1) = ((c3A 18446744073709551616 x a i out k).1.set (i + k) ((a * x.getD k 0 + (c3A 18446744073709551616 x a i out k).2 + (c3A 18446744073709551616 x a i out k).1.getD (i + k) 0) % 18446744073709551616), (a * x.getD k 0 + (c3A 18446744073709551616 x a i out k).2 + (c3A 18446744073709551616 x a i out k).1.getD (i + k) 0) / 18446744073709551616) := rfl
  rw [er]
  have hlt : i + k < (c3A 18446744073709551616 x a i out k).1.length := by omega
  have ws : IntKind.i64.wrap ((k : Int) + 1) = ((k + 1 : Nat) : Int) := d2A (by omega)
  simp (disch := omega) only [m9C, dT, wT, Int.toNat_natCast, m1, Option.bind_some, ew, ws]
  generalize (c3A 18446744073709551616 x a i out k).1.getD (i + k) 0 = o at *
  generalize (c3A 18446744073709551616 x a i out k).2 = c at *
  generalize (c3A 18446744073709551616 x a i out k).1 = L at *
  generalize x.getD k 0 = y at *
  rw [← m2] at ax ⊢
  have n1 : (((lo.toNat + c.toNat) / 18446744073709551616 : Nat) : Int) = (lo + c) / 18446744073709551616 := by omega
  rw [n1]
  have n3 : (((o.toNat + (lo.toNat + c.toNat) % 18446744073709551616) % 18446744073709551616 : Nat) : Int) = (hi * 18446744073709551616 + lo + c + o) % 18446744073709551616 := by omega
  have n4 : (((o.toNat + (lo.toNat + c.toNat) % 18446744073709551616) / 18446744073709551616 : Nat) : Int) = (o + (lo + c) % 18446744073709551616) / 18446744073709551616 := by omega
  rw [n3, n4, b5A (n := hi + (lo + c) / 18446744073709551616) (by omega) (by omega), b5A (by omega) (by omega)]
  rw [show hi + (lo + c) / 18446744073709551616 + (o + (lo + c) % 18446744073709551616) / 18446744073709551616 = (hi * 18446744073709551616 + lo + c + o) / 18446744073709551616 by omega])
  (by simp (disch := omega) only [m9C, dF])
theorem p5G {x : List Int} (hx : wrd 18446744073709551616 x) (hl : x.length ≤ 100) : y1C x = some (sqL 18446744073709551616 x) := by
 have w2 : IntKind.i64.wrap (2 * (x.length : Int)) = ((2 * x.length : Nat) : Int) := by rw [a3A (by omega) (by omega)]; omega
 have loop := b7A (f := n0C) (fun i : Nat => (x, sqS 18446744073709551616 x i, x, (x.length : Int), (i : Int), ())) x.length (r := (sqS 18446744073709551616 x x.length, ())) (fun i hi => by
  obtain ⟨s1, s2, s3, s4⟩ := h0D (by omega) hx i (by omega)
  have rr := p4G (X := x) (N := (x.length : Int)) (I2 := (i : Int)) hx s2 (hx i) (i := i) (by omega) (by omega)
  obtain ⟨r1, r2, r3, r4, r5⟩ := e4C (by omega) hx (hx i) (i := i) s2 (by omega) x.length (Nat.le_refl _)
  have z : (c3A 18446744073709551616 x (x.getD i 0) i (sqS 18446744073709551616 x i) x.length).1.getD (i + x.length) 0 = 0 := (r5 _ (Nat.le_refl _)).trans (s4 _ (Nat.le_refl _))
  have ew : IntKind.i64.wrap ((i : Int) + (x.length : Int)) = ((i + x.length : Nat) : Int) := by rw [a3A (by omega) (by omega)]; omega
  have ws : IntKind.i64.wrap ((i : Int) + 1) = ((i + 1 : Nat) : Int) := d2A (by omega)
  have es : sqS 18446744073709551616 x (i + 1) = (c3A 18446744073709551616 x (x.getD i 0) i (sqS 18446744073709551616 x i) x.length).1.set (i + x.length) ((c3A 18446744073709551616 x (x.getD i 0) i (sqS 18446744073709551616 x i) x.length).1.getD (i + x.length) 0 + (c3A 18446744073709551616 x (x.getD i 0) i (sqS 18446744073709551616 x i) x.length).2) := rfl
  rw [es]
  simp (disch := omega) only [n0C, dT, wT, Int.toNat_natCast, rr, Option.bind_some, ew, ws, b5A])
  (by simp (disch := omega) only [n0C, dF])
 have rm : (decide ((0 : Int) ≤ ((2 * x.length : Nat) : Int)) && decide (((2 * x.length : Nat) : Int) ≤ ((2 * x.length : Nat) : Int)) && f2A 8 (2 * x.length)) = true := by
  rw [decide_eq_true (by omega), decide_eq_true (by omega), n1B.2 (by omega)]; rfl
 have loop : a1A n0C (x, List.replicate (2 * x.length) 0, x, (x.length : Int), 0, ()) = _ := loop
 unfold y1C
 simp only [w2, Int.toNat_natCast]
 rw [cT rm, loop]; rfl
theorem p6G {x out : List Int} {a : Int} {i : Nat} {X : List Int} {N I2 : Int} (hx : wrd 4294967296 x) (ho : wrd 4294967296 out) (ha : 0 ≤ a ∧ a < 4294967296) (hl : i + x.length ≤ out.length) (h1 : out.length ≤ 1000) :
  a1A p1C (x, out, (i : Int), a, 0, X, N, I2, x, (x.length : Int), 0, ()) = some (x, (c3A 4294967296 x a i out x.length).1, (i : Int), (c3A 4294967296 x a i out x.length).2, X, N, I2, ()) :=
 b7A (f := p1C) (fun k : Nat => (x, (c3A 4294967296 x a i out k).1, (i : Int), a, (c3A 4294967296 x a i out k).2, X, N, I2, x, (x.length : Int), (k : Int), ())) x.length (fun k hk => by
  obtain ⟨r1, r2, r3, _, _⟩ := e4C (by omega) hx ha ho hl k (by omega)
  have hxk := hx k
  have hok := r2 (i + k)
  have ax := y6D ha hxk r3 hok
  have ew : IntKind.i64.wrap ((i : Int) + (k : Int)) = ((i + k : Nat) : Int) := by rw [a3A (by omega) (by omega)]; omega
  have er : c3A 4294967296 x a i out (k + 1) = ((c3A 4294967296 x a i out k).1.set (i + k) ((a * x.getD k 0 + (c3A 4294967296 x a i out k).2 + (c3A 4294967296 x a i out k).1.getD (i + k) 0) % 4294967296), (a * x.getD k 0 + (c3A 4294967296 x a i out k).2 + (c3A 4294967296 x a i out k).1.getD (i + k) 0) / 4294967296) := rfl
  rw [er]
  have hlt : i + k < (c3A 4294967296 x a i out k).1.length := by omega
  have ws : IntKind.i64.wrap ((k : Int) + 1) = ((k + 1 : Nat) : Int) := d2A (by omega)
  simp (disch := omega) only [p1C, dT, wT, Int.toNat_natCast, ew, ws]
  generalize (c3A 4294967296 x a i out k).1.getD (i + k) 0 = o at *
  generalize (c3A 4294967296 x a i out k).2 = c at *
  generalize (c3A 4294967296 x a i out k).1 = L at *
  generalize a * x.getD k 0 = p at *
  rw [b5A (n := p) (by omega) (by omega), b5A (n := p + o) (by omega) (by omega), b5A (n := p + o + c) (by omega) (by omega), t1C (by omega) (by omega), v6B (by omega), show p + o + c = p + c + o by omega])
  (by simp (disch := omega) only [p1C, dF])
theorem p7G {x : List Int} (hx : wrd 4294967296 x) (hl : x.length ≤ 100) : y4A x = some (sqL 4294967296 x) := by
 have w2 : IntKind.i64.wrap (2 * (x.length : Int)) = ((2 * x.length : Nat) : Int) := by rw [a3A (by omega) (by omega)]; omega
 have loop := b7A (f := p2C) (fun i : Nat => (x, sqS 4294967296 x i, x, (x.length : Int), (i : Int), ())) x.length (r := (sqS 4294967296 x x.length, ())) (fun i hi => by
  obtain ⟨s1, s2, s3, s4⟩ := h0D (by omega) hx i (by omega)
  have rr := p6G (X := x) (N := (x.length : Int)) (I2 := (i : Int)) hx s2 (hx i) (i := i) (by omega) (by omega)
  obtain ⟨r1, r2, r3, r4, r5⟩ := e4C (by omega) hx (hx i) (i := i) s2 (by omega) x.length (Nat.le_refl _)
  have z : (c3A 4294967296 x (x.getD i 0) i (sqS 4294967296 x i) x.length).1.getD (i + x.length) 0 = 0 := (r5 _ (Nat.le_refl _)).trans (s4 _ (Nat.le_refl _))
  have ew : IntKind.i64.wrap ((i : Int) + (x.length : Int)) = ((i + x.length : Nat) : Int) := by rw [a3A (by omega) (by omega)]; omega
  have ws : IntKind.i64.wrap ((i : Int) + 1) = ((i + 1 : Nat) : Int) := d2A (by omega)
  have es : sqS 4294967296 x (i + 1) = (c3A 4294967296 x (x.getD i 0) i (sqS 4294967296 x i) x.length).1.set (i + x.length) ((c3A 4294967296 x (x.getD i 0) i (sqS 4294967296 x i) x.length).1.getD (i + x.length) 0 + (c3A 4294967296 x (x.getD i 0) i (sqS 4294967296 x i) x.length).2) := rfl
  rw [es]
  simp (disch := omega) only [p2C, dT, wT, Int.toNat_natCast, rr, Option.bind_some, ew, ws, b5A])
  (by simp (disch := omega) only [p2C, dF])
 have rm : (decide ((0 : Int) ≤ ((2 * x.length : Nat) : Int)) && decide (((2 * x.length : Nat) : Int) ≤ ((2 * x.length : Nat) : Int)) && f2A 8 (2 * x.length)) = true := by
  rw [decide_eq_true (by omega), decide_eq_true (by omega), n1B.2 (by omega)]; rfl
 have loop : a1A p2C (x, List.replicate (2 * x.length) 0, x, (x.length : Int), 0, ()) = _ := loop
 unfold y4A
 simp only [w2, Int.toNat_natCast]
 rw [cT rm, loop]; rfl
end Go.Sq
namespace Go.Sq
open Go.Rx
def o5A (n : Nat) : Nat := if n = 0 then 0 else Nat.log2 n + 1
theorem c3F {n k : Nat} (h : 2 ^ k ≤ n) (h' : n < 2 ^ (k + 1)) : Nat.log2 n = k := by
 have h0 : n ≠ 0 := by have := Nat.two_pow_pos k; omega
 have a := (Nat.le_log2 h0).2 h
 have b := (Nat.log2_lt h0).2 h'
 omega
theorem p8G {n : Nat} (h : n ≠ 0) : 2 ^ Nat.log2 n ≤ n ∧ n < 2 ^ (Nat.log2 n + 1) := ⟨(Nat.le_log2 h).1 (Nat.le_refl _), (Nat.log2_lt h).1 (Nat.lt_succ_self _)⟩
theorem c4F {m k r : Nat} (hm : m ≠ 0) (hr : r < 2 ^ k) : Nat.log2 (r + m * 2 ^ k) = Nat.log2 m + k := by
 obtain ⟨a, b⟩ := p8G hm
 refine c3F ?_ ?_
 ·rw [Nat.pow_add]
  exact Nat.le_trans (Nat.mul_le_mul_right _ a) (Nat.le_add_left _ _)
 ·rw [show Nat.log2 m + k + 1 = (Nat.log2 m + 1) + k by omega, Nat.pow_add]
  have : (m + 1) * 2 ^ k ≤ 2 ^ (Nat.log2 m + 1) * 2 ^ k := Nat.mul_le_mul_right _ b
  rw [Nat.add_mul] at this
  omega
theorem p9G {n k : Nat} (h : 2 ^ k ≤ n) : o5A n = o5A (n / 2 ^ k) + k := by
 have p := Nat.two_pow_pos k
 have h1 : n / 2 ^ k ≠ 0 := by
  have := Nat.div_pos h p
  omega
 have h0 : n ≠ 0 := by omega
 have e := c4F (k := k) h1 (Nat.mod_lt n p)
 rw [Nat.mul_comm, Nat.mod_add_div] at e
 unfold o5A
 rw [if_neg h0, if_neg h1, e]; omega
theorem c5F {n : Nat} (h : n < 18446744073709551616) : l5B (n : Int) = some (o5A n : Int) := by
 obtain ⟨k, e, l, _⟩ := n1E (x := n) (by omega)
 obtain ⟨l1, l2⟩ := l
 have : k = o5A n := by
  unfold o5A
  by_cases h0 : n = 0
  ·rw [if_pos h0]
   rcases l2 with h1 | h1
   ·exact h1
   ·exfalso; have := Nat.two_pow_pos (k - 1); omega
  ·rw [if_neg h0]
   rcases l2 with h1 | h1
   ·rw [h1] at l1; omega
   ·have k1 : 1 ≤ k := by
     by_cases hk : k = 0
     ·rw [hk] at l1; omega
     ·omega
    have := c3F (n := n) (k := k - 1) h1 (by rw [Nat.sub_add_cancel k1]; exact l1)
    omega
 rw [e, this]
theorem h2D (B : Int) : ∀ (l : List Int) (k : Nat), (∀ j, k ≤ j → l.getD j 0 = 0) → d6A B l = d6A B (l.take k)
 | [], k, _ => by rw [List.take_nil]
 | x :: l, 0, h => by
  have h0 : x = 0 := h 0 (Nat.zero_le _)
  have ih := h2D B l 0 (fun j _ => h (j + 1) (Nat.zero_le _))
  show x + B * d6A B l = d6A B ((x :: l).take 0)
  rw [ih, h0, List.take_zero, List.take_zero]; show 0 + B * 0 = 0; omega
 | x :: l, k + 1, h => by
  have ih := h2D B l k (fun j hj => h (j + 1) (by omega))
  show x + B * d6A B l = x + B * d6A B (l.take k)
  rw [ih]
theorem q0G {B : Int} (hB : 0 < B) {l : List Int} (h : wrd B l) (k : Nat) : wrd B (l.take k) := fun j => by
 by_cases hj : j < k
 ·rw [List.getD_eq_getElem?_getD, List.getElem?_take_of_lt hj, ← List.getD_eq_getElem?_getD]; exact h j
 ·rw [List.getD_eq_getElem?_getD, List.getElem?_eq_none (by rw [List.length_take]; omega)]
  exact ⟨Int.le_refl _, hB⟩
theorem c6F {w : Nat} {l : List Int} (h : wrd ((2 ^ w : Nat) : Int) l) {i : Nat} (hi : i < l.length) (hz : ∀ j, i + 1 ≤ j → l.getD j 0 = 0) (h0 : 0 < l.getD i 0) :
  Nat.log2 (d6A ((2 ^ w : Nat) : Int) l).toNat = Nat.log2 (l.getD i 0).toNat + w * i := by
 have pB : (0 : Int) < ((2 ^ w : Nat) : Int) := by have := Nat.two_pow_pos w; omega
 rw [h2D _ l (i + 1) hz, g9D _ _ _ hi]
 obtain ⟨r1, r2⟩ := c1F pB _ (q0G pB h i)
 rw [List.length_take, Nat.min_eq_left (by omega)] at r2
 obtain ⟨r, hr⟩ := Int.eq_ofNat_of_zero_le r1
 obtain ⟨m, hm⟩ := Int.eq_ofNat_of_zero_le (Int.le_of_lt h0)
 rw [hr] at r2 ⊢
 rw [hm] at h0 ⊢
 have ep : ((2 ^ w : Nat) : Int) ^ i = ((2 ^ (w * i) : Nat) : Int) := by rw [Nat.pow_mul]; exact (Int.natCast_pow _ _).symm
 rw [ep] at r2 ⊢
 have et : ((r : Int) + (m : Int) * ((2 ^ (w * i) : Nat) : Int)).toNat = r + m * 2 ^ (w * i) := by
  rw [← Int.natCast_mul, ← Int.natCast_add, Int.toNat_natCast]
 rw [et, Int.toNat_natCast, c4F (by omega) (by omega)]
end Go.Sq
namespace Go.Sq
open Go.Rx
def k1A (n : Nat) : Nat := if n = 0 then 0 else Nat.log2 (n ^ 8)
def sqN (B : Int) (x : List Int) : Nat → List Int
 | 0 => x
 | i + 1 => sqL B (sqN B x i)
theorem y7D {B : Int} (hB : 0 < B) {x : List Int} (hx : wrd B x) : ∀ i, (sqN B x i).length = 2 ^ i * x.length ∧ wrd B (sqN B x i) ∧ d6A B (sqN B x i) = d6A B x ^ 2 ^ i
 | 0 => ⟨(Nat.one_mul _).symm, hx, (Int.pow_one _).symm⟩
 | i + 1 => by
  obtain ⟨h1, h2, h3⟩ := y7D hB hx i
  obtain ⟨s1, s2, s3⟩ := p2G hB h2
  refine ⟨?_, s2, ?_⟩
  ·show (sqL B (sqN B x i)).length = _
   rw [s1, h1, Nat.pow_succ, ← Nat.mul_assoc, Nat.mul_comm 2]
  ·show d6A B (sqL B (sqN B x i)) = _
   rw [s3, h3, ← Int.pow_add, Nat.pow_succ, Nat.mul_two]
theorem y8D {B : Int} {l : List Int} (h : wrd B l) (hv : d6A B l ≠ 0) : ∀ k, (∀ j, k ≤ j → l.getD j 0 = 0) → ∃ t, t < k ∧ 0 < l.getD t 0 ∧ ∀ j, t + 1 ≤ j → l.getD j 0 = 0
 | 0, hz => by
  exfalso; apply hv
  rw [h2D B l 0 hz, List.take_zero]; rfl
 | k + 1, hz => by
  by_cases h0 : 0 < l.getD k 0
  ·exact ⟨k, Nat.lt_succ_self k, h0, hz⟩
  ·have h1 : l.getD k 0 = 0 := by have := (h k).1; omega
   obtain ⟨t, t1, t2, t3⟩ := y8D h hv k fun j hj => by
    by_cases e : j = k
    ·rw [e]; exact h1
    ·exact hz j (by omega)
   exact ⟨t, by omega, t2, t3⟩
theorem h3D {l : List Int} {j : Nat} (h : l.length ≤ j) : l.getD j 0 = 0 := by
 rw [List.getD_eq_getElem?_getD, List.getElem?_eq_none h]; rfl
theorem t2C {n : Nat} (h : n ≠ 0) : o5A n = Nat.log2 n + 1 := if_neg h
theorem y9D {n : Nat} (h : n < 18446744073709551616) (h0 : n ≠ 0) : Nat.log2 (n ^ 8) ≤ 511 := by
 have : n ^ 8 < (2 ^ 64) ^ 8 := Nat.pow_lt_pow_left (by omega) (by omega)
 rw [← Nat.pow_mul] at this
 have h1 : n ^ 8 ≠ 0 := by have := Nat.pow_pos (n := 8) (show 0 < n by omega); omega
 have := (Nat.log2_lt h1).2 this
 omega
theorem q1G {n : Nat} (h : n < 18446744073709551616) : k1A n ≤ 511 := by
 unfold k1A; split
 ·omega
 ·rename_i h0; exact y9D h h0
theorem q2G {X : List Int} {t i : Nat} (hX : wrd 18446744073709551616 X) (hi : i < X.length) (hl : X.length ≤ 100) (ht : t ≤ i) (h0 : 0 < X.getD t 0) (hz : ∀ j, t + 1 ≤ j → X.getD j 0 = 0) :
  a1A i8B (X, (i : Int), ()) = some (if t = 0 then .inl (X, ()) else .inr (((64 * t + o5A (X.getD t 0).toNat : Nat) : Int) - 1, ())) := by
 have go := u3B (f := i8B) (fun s : Nat => (X, ((i - s : Nat) : Int), ())) (i - t) (fun s hs => by
  have z := hz (i - s) (by omega)
  have ws : IntKind.i64.wrap (((i - s : Nat) : Int) - 1) = ((i - (s + 1) : Nat) : Int) := by rw [a3A (by omega) (by omega)]; omega
  simp (disch := omega) only [i8B, dT, wT, Int.toNat_natCast, dF, ws])
 have go : a1A i8B (X, (i : Int), ()) = a1A i8B (X, ((i - (i - t) : Nat) : Int), ()) := go
 rw [go, show i - (i - t) = t by omega]
 by_cases t0 : t = 0
 ·rw [if_pos t0]
  refine w3A ?_
  simp (disch := omega) only [i8B, dF]
 ·rw [if_neg t0]
  refine w3A ?_
  have r := hX t
  have ln := c5F (n := (X.getD t 0).toNat) (by omega)
  rw [Int.toNat_of_nonneg r.1] at ln
  have lb : o5A (X.getD t 0).toNat ≤ 64 := by
   have : (X.getD t 0).toNat ≠ 0 := by omega
   rw [t2C this]
   have := (Nat.log2_lt this).2 (show (X.getD t 0).toNat < 2 ^ 64 by omega)
   omega
  have w1 : IntKind.i64.wrap (64 * (t : Int)) = 64 * (t : Int) := a3A (by omega) (by omega)
  have w2 : IntKind.i64.wrap (64 * (t : Int) + (o5A (X.getD t 0).toNat : Int)) = 64 * (t : Int) + (o5A (X.getD t 0).toNat : Int) := a3A (by omega) (by omega)
  have w3 : IntKind.i64.wrap (64 * (t : Int) + (o5A (X.getD t 0).toNat : Int) - 1) = ((64 * t + o5A (X.getD t 0).toNat : Nat) : Int) - 1 := by rw [a3A (by omega) (by omega)]; omega
  simp (disch := omega) only [i8B, dT, wT, Int.toNat_natCast, ln, Option.bind_some, w1, w2, w3]
theorem q3G {n : Nat} (h : n < 18446744073709551616) : wrd 18446744073709551616 [(n : Int)] := fun j => by
 cases j with
 | zero => show 0 ≤ (n : Int) ∧ (n : Int) < 18446744073709551616; omega
 | succ j => rw [h3D (by simp)]; omega
theorem q4G {n : Nat} (h : n < 18446744073709551616) : i1C (n : Int) = some (k1A n : Int) := by
 by_cases h0 : n = 0
 ·subst h0; rfl
 ·have ow := q3G h
  have inv := y7D (by omega) ow
  have l1 := b7A (f := n1C) (fun i : Nat => (sqN 18446744073709551616 [(n : Int)] i, (i : Int), ())) 3 (r := (sqN 18446744073709551616 [(n : Int)] 3, ())) (fun i hi => by
   have li : (sqN 18446744073709551616 [(n : Int)] i).length ≤ 100 := by
    rw [(inv i).1]
    have : i = 0 ∨ i = 1 ∨ i = 2 := by omega
    rcases this with rfl | rfl | rfl <;> (show _ * 1 ≤ 100; decide)
   simp (disch := omega) only [n1C, dT, p5G (inv i).2.1 li, Option.bind_some, d2A]
   rfl) (by simp (disch := omega) only [n1C, dF])
  have l1 : a1A n1C ([(n : Int)], 0, ()) = _ := l1
  obtain ⟨x1, x2, x3⟩ := inv 3
  have ev : d6A 18446744073709551616 [(n : Int)] = (n : Int) := by show (n : Int) + 18446744073709551616 * 0 = n; omega
  rw [ev] at x3
  have x1 : (sqN 18446744073709551616 [(n : Int)] 3).length = 8 := x1
  have x3 : d6A 18446744073709551616 (sqN 18446744073709551616 [(n : Int)] 3) = ((n ^ 8 : Nat) : Int) := by rw [x3]; exact (Int.natCast_pow n 8).symm
  generalize sqN 18446744073709551616 [(n : Int)] 3 = X at *
  have hv : d6A 18446744073709551616 X ≠ 0 := by
   rw [x3]
   have := Nat.pow_pos (n := 8) (show 0 < n by omega)
   omega
  obtain ⟨t, t1, t2, t3⟩ := y8D x2 hv 8 fun j hj => h3D (by omega)
  have tl := c6F (w := 64) (l := X) x2 (i := t) (by omega) t3 t2
  have tl : Nat.log2 (d6A 18446744073709551616 X).toNat = _ := tl
  rw [x3, Int.toNat_natCast] at tl
  have wk := q2G (i := 7) x2 (by omega) (by omega) (by omega) t2 t3
  have wk : a1A i8B (X, 7, ()) = _ := wk
  have w7 : IntKind.i64.wrap ((X.length : Int) - 1) = 7 := by rw [x1]; rfl
  have tn : (X.getD t 0).toNat ≠ 0 := by omega
  have eS : k1A n = Nat.log2 (n ^ 8) := if_neg h0
  unfold i1C
  rw [eF (by omega), l1]
  simp only [Option.bind_some, w7, wk]
  by_cases t0 : t = 0
  ·subst t0
   rw [if_pos rfl]
   have r := x2 0
   have ln := c5F (n := (X.getD 0 0).toNat) (by omega)
   rw [Int.toNat_of_nonneg r.1] at ln
   have e8 := y9D h h0
   rw [t2C tn] at ln
   simp (disch := omega) only [wT, ln, Option.bind_some]
   rw [a3A (by omega) (by omega), eS, tl]
   congr 1; omega
  ·rw [if_neg t0, t2C tn, eS, tl]
   simp only
   congr 1; omega
theorem c7F : ∀ (m : Nat) (s : Int), m < 4294967296 → 0 ≤ s → s + o5A m ≤ 1000 → a1A p3C (s, (m : Int), ()) = some (s + (o5A m : Int), ())
 | 0, s, _, _, _ => by
  refine w3A ?_
  simp (disch := omega) only [p3C, dF]
  show some (Sum.inr (s, ())) = some (Sum.inr (s + 0, ()))
  rw [Int.add_zero]
 | m + 1, s, hm, hs, hb => by
  have e : o5A (m + 1) = o5A ((m + 1) / 2) + 1 := by
   by_cases m0 : m = 0
   ·subst m0; decide
   ·have := p9G (n := m + 1) (k := 1) (by omega)
    simpa using this
  have sh : c5A .u64 ((m + 1 : Nat) : Int) 1 = (((m + 1) / 2 : Nat) : Int) := by
   have := n2B (k := .u64) (a := m + 1) (n := 1) (by decide)
   rw [Nat.shiftRight_eq_div_pow] at this
   exact this
  have rd : p3C (s, ((m + 1 : Nat) : Int), ()) = some (.inl (s + 1, (((m + 1) / 2 : Nat) : Int), ())) := by
   simp (disch := omega) only [p3C, dT, sh, a3A]
  rw [z2A rd, c7F ((m + 1) / 2) (s + 1) (by omega) (by omega) (by omega), e]
  congr 2; omega
termination_by m => m
decreasing_by omega
theorem q5G {X : List Int} {t : Nat} (hX : wrd 4294967296 X) (ht : t < X.length) (hl : X.length ≤ 20) (h0 : 0 < X.getD t 0) (hz : ∀ j, t + 1 ≤ j → X.getD j 0 = 0) :
  k2C X = some (((32 * t + o5A (X.getD t 0).toNat : Nat) : Int)) := by
 obtain ⟨i, hi⟩ : ∃ i, X.length = i + 1 := ⟨X.length - 1, by omega⟩
 have go := u3B (f := s9B) (fun s : Nat => (X, ((i - s : Nat) : Int), ())) (i - t) (fun s hs => by
  have z := hz (i - s) (by omega)
  have ws : IntKind.i64.wrap (((i - s : Nat) : Int) - 1) = ((i - (s + 1) : Nat) : Int) := by rw [a3A (by omega) (by omega)]; omega
  simp (disch := omega) only [s9B, dT, wT, Int.toNat_natCast, dF, ws])
 have go : a1A s9B (X, (i : Int), ()) = a1A s9B (X, ((i - (i - t) : Nat) : Int), ()) := go
 have r := hX t
 have lb : o5A (X.getD t 0).toNat ≤ 32 := by
  have : (X.getD t 0).toNat ≠ 0 := by omega
  rw [t2C this]
  have := (Nat.log2_lt this).2 (show (X.getD t 0).toNat < 2 ^ 32 by omega)
  omega
 have bt := c7F (X.getD t 0).toNat (32 * (t : Int)) (by omega) (by omega) (by omega)
 rw [Int.toNat_of_nonneg r.1] at bt
 have w1 : IntKind.i64.wrap (32 * (t : Int)) = 32 * (t : Int) := a3A (by omega) (by omega)
 have rd : s9B (X, (t : Int), ()) = some (.inr (.inr (32 * (t : Int) + (o5A (X.getD t 0).toNat : Int), ()))) := by
  simp (disch := omega) only [s9B, dT, wT, Int.toNat_natCast, w1, bt, Option.bind_some]
 have wl : IntKind.i64.wrap ((X.length : Int) - 1) = (i : Int) := by rw [a3A (by omega) (by omega)]; omega
 unfold k2C
 rw [wl, go, show i - (i - t) = t by omega, w3A rd]
 simp only [Option.bind_some]
 congr 1
theorem q6G {n : Nat} (h : n < 18446744073709551616) : wrd 4294967296 [(n : Int) % 4294967296, (n : Int) / 4294967296] := fun j => by
 match j with
 | 0 => show 0 ≤ (n : Int) % 4294967296 ∧ (n : Int) % 4294967296 < 4294967296; omega
 | 1 => show 0 ≤ (n : Int) / 4294967296 ∧ (n : Int) / 4294967296 < 4294967296; omega
 | j + 2 => rw [h3D (by simp)]; omega
theorem q7G {n : Nat} (h : n < 18446744073709551616) (h0 : n ≠ 0) {x : List Int} (tw : wrd 4294967296 x) (l2 : x.length = 2) (ev : d6A 4294967296 x = (n : Int)) :
  ((y4A x).bind fun y1 => (y4A y1).bind fun y2 => (y4A y2).bind fun y3 => (k2C y3).bind fun y4 => some (IntKind.i64.wrap (y4 - 1))) = some (k1A n : Int) := by
 have inv := y7D (by omega) tw
 have q := fun i (hi : (sqN 4294967296 x i).length ≤ 100) => p7G (inv i).2.1 hi
 have q0 : y4A x = some (sqN 4294967296 x 1) := q 0 (by rw [(inv 0).1, l2]; decide)
 have q1 : y4A (sqN 4294967296 x 1) = some (sqN 4294967296 x 2) := q 1 (by rw [(inv 1).1, l2]; decide)
 have q2 : y4A (sqN 4294967296 x 2) = some (sqN 4294967296 x 3) := q 2 (by rw [(inv 2).1, l2]; decide)
 obtain ⟨x1, x2, x3⟩ := inv 3
 rw [ev] at x3
 rw [l2] at x1
 have x1 : (sqN 4294967296 x 3).length = 16 := x1
 have x3 : d6A 4294967296 (sqN 4294967296 x 3) = ((n ^ 8 : Nat) : Int) := by rw [x3]; exact (Int.natCast_pow n 8).symm
 simp only [q0, q1, q2, Option.bind_some]
 generalize sqN 4294967296 x 3 = X at *
 have hv : d6A 4294967296 X ≠ 0 := by
  rw [x3]
  have := Nat.pow_pos (n := 8) (show 0 < n by omega)
  omega
 obtain ⟨t, t1, t2, t3⟩ := y8D x2 hv 16 fun j hj => h3D (by omega)
 have tl := c6F (w := 32) (l := X) x2 (i := t) (by omega) t3 t2
 have tl : Nat.log2 (d6A 4294967296 X).toNat = _ := tl
 rw [x3, Int.toNat_natCast] at tl
 have lg := q5G x2 (by omega) (by omega) t2 t3
 have e8 := y9D h h0
 have eS : k1A n = Nat.log2 (n ^ 8) := if_neg h0
 rw [t2C (by omega)] at lg
 simp only [lg, Option.bind_some]
 rw [a3A (by omega) (by omega), eS, tl]
 congr 1; omega
theorem q8G {n : Nat} (h : n < 18446744073709551616) : k3C (n : Int) = some (k1A n : Int) := by
 by_cases h0 : n = 0
 ·subst h0; rfl
 ·unfold k3C
  rw [eF (by omega), t1C (by omega) (by omega), v6B (by omega)]
  refine q7G h h0 (q6G h) rfl ?_
  show (n : Int) % 4294967296 + 4294967296 * ((n : Int) / 4294967296 + 4294967296 * 0) = n
  omega
end Go.Sq
namespace Go.Sq
open Go.Rx
def sqs (x : List Int) (a : Nat) : Nat → Int
 | 0 => 0
 | n + 1 => sqs x a n + x.getD (a + n) 0 * x.getD (a + n) 0
theorem h4D {x : List Int} (hx : d0A 67108864 16 x) {i : Nat} (hi : i < 16) : 0 ≤ x.getD i 0 * x.getD i 0 ∧ x.getD i 0 * x.getD i 0 ≤ 4503599627370496 := by
 have := v4B (hx i hi) (hx i hi)
 have h2 : 0 ≤ x.getD i 0 * x.getD i 0 := by
  rcases Int.le_total 0 (x.getD i 0) with h | h
  ·exact Int.mul_nonneg h h
  ·exact Int.mul_nonneg_of_nonpos_of_nonpos h h
 omega
theorem t3C {x : List Int} (hx : d0A 67108864 16 x) {a : Nat} : ∀ n : Nat, a + n ≤ 16 → 0 ≤ sqs x a n ∧ sqs x a n ≤ 4503599627370496 * (n : Int)
 | 0, _ => by show 0 ≤ (0 : Int) ∧ (0 : Int) ≤ _; omega
 | n + 1, h => by
  have ih := t3C hx (a := a) n (by omega)
  have s := h4D hx (i := a + n) (by omega)
  show 0 ≤ sqs x a n + _ ∧ sqs x a n + _ ≤ _
  omega
theorem c8F {x : List Int} (hx : d0A 67108864 16 x) : ∀ n, n ≤ 16 → sqs x 0 n = 0 → ∀ i, i < n → x.getD i 0 = 0
 | 0, _, _, i, hi => absurd hi (Nat.not_lt_zero _)
 | n + 1, h, e, i, hi => by
  have r := t3C hx (a := 0) n (by omega)
  have s := h4D hx (i := 0 + n) (by omega)
  have e : sqs x 0 n + x.getD (0 + n) 0 * x.getD (0 + n) 0 = 0 := e
  by_cases hin : i = n
  ·subst hin
   rw [Nat.zero_add] at e s
   have : x.getD i 0 * x.getD i 0 = 0 := by omega
   rcases Int.mul_eq_zero.1 this with h1 | h1 <;> exact h1
  ·exact c8F hx n (by omega) (by omega) i (by omega)
theorem c9F {x : List Int} (hl : x.length = 16) (hx : d0A 67108864 16 x) : x7B x = some (sqs x 0 16) := by
 have l1 := b7A (f := m8C) (fun i : Nat => (sqs x 0 i, x, (i : Int), ())) 16 (r := (sqs x 0 16, ())) (fun i hi => by
  have r := t3C hx (a := 0) i (by omega)
  have s := h4D hx hi
  have e : sqs x 0 (i + 1) = sqs x 0 i + x.getD i 0 * x.getD i 0 := by rw [← Nat.zero_add i]; simp only [sqs, Nat.zero_add]
  have w1 : IntKind.i64.wrap (x.getD i 0 * x.getD i 0) = x.getD i 0 * x.getD i 0 := a3A (by omega) (by omega)
  have w2 : IntKind.u64.wrap (x.getD i 0 * x.getD i 0) = x.getD i 0 * x.getD i 0 := b5A (by omega) (by omega)
  have w3 : IntKind.u64.wrap (sqs x 0 i + x.getD i 0 * x.getD i 0) = sqs x 0 i + x.getD i 0 * x.getD i 0 := b5A (by omega) (by omega)
  simp (disch := omega) only [m8C, dT, wT, Int.toNat_natCast, w1, w2, w3, d2A, e]) (by simp (disch := omega) only [m8C, dF])
 have l1 : a1A m8C (0, x, 0, ()) = _ := l1
 unfold x7B
 simp only [v3B hl (by omega) (show (0 : Int) ≤ 67108864 by omega) (by omega), decide_eq_true hx, Option.bind_some, Bool.not_true, cond_false, l1]
def eN (b : Nat) : Nat := (c1A.getD b 0).toNat
theorem e5C : ∀ b, b < 6 → c1A.getD b 0 = (eN b : Int) ∧ c1A.getD (b + 1) 0 = (eN (b + 1) : Int) ∧ eN b ≤ eN (b + 1) ∧ eN (b + 1) ≤ 16 := by decide
def j6A (x : List Int) (b : Nat) : Int := sqs x (eN b) (eN (b + 1) - eN b)
theorem d0F {x : List Int} (hx : d0A 67108864 16 x) {b : Nat} (hb : b < 6) : 0 ≤ j6A x b ∧ j6A x b ≤ 72057594037927936 := by
 obtain ⟨_, _, h1, h2⟩ := e5C b hb
 have := t3C hx (a := eN b) (eN (b + 1) - eN b) (by omega)
 unfold j6A; omega
def o6A (x : List Int) (b : Nat) : Int := if 0 < j6A x b then e3C (((k1A (j6A x b).toNat / 2 : Nat) : Int) + 1) else 0
def m0A (x : List Int) : List Int := a5A (o6A x) 6
theorem u5A (x : List Int) : (m0A x).length = 6 := g6A _ _
theorem p4B (x : List Int) : lv (m0A x) := fun i hi => by
 rw [show (m0A x).getD i 0 = o6A x i from e0A _ _ _ _ hi]
 unfold o6A e3C; split
 ·split <;> omega
 ·omega
def f9B (x : List Int) (b : Nat) : List Int := m6A (List.replicate 16 0) 0 (((x.drop (eN b)).take (eN (b + 1) - eN b)).take 16)
theorem z0D {x : List Int} (hl : x.length = 16) {b : Nat} (hb : b < 6) : (f9B x b).length = 16 ∧ ∀ j, (f9B x b).getD j 0 = if j < eN (b + 1) - eN b then x.getD (eN b + j) 0 else 0 := by
 obtain ⟨_, _, h1, h2⟩ := e5C b hb
 have l0 : (((x.drop (eN b)).take (eN (b + 1) - eN b)).take 16).length = eN (b + 1) - eN b := by
  simp only [List.length_take, List.length_drop]; omega
 unfold f9B m6A
 rw [List.take_zero, List.nil_append, Nat.zero_add, l0]
 refine ⟨by rw [List.length_append, l0, List.length_drop, List.length_replicate]; omega, fun j => ?_⟩
 by_cases hj : j < eN (b + 1) - eN b
 ·rw [if_pos hj, List.getD_eq_getElem?_getD, List.getElem?_append_left (by rw [l0]; exact hj), List.getElem?_take_of_lt (by omega), List.getElem?_take_of_lt hj, List.getElem?_drop, List.getD_eq_getElem?_getD]
 ·rw [if_neg hj, List.getD_eq_getElem?_getD, List.getElem?_append_right (by rw [l0]; omega), ← List.getD_eq_getElem?_getD, List.drop_replicate, n3A]
theorem d1F {x : List Int} (hl : x.length = 16) {b : Nat} (hb : b < 6) : ∀ n, sqs (f9B x b) 0 n = sqs x (eN b) (if n ≤ eN (b + 1) - eN b then n else eN (b + 1) - eN b)
 | 0 => by rw [if_pos (Nat.zero_le _)]; rfl
 | n + 1 => by
  have ih := d1F hl hb n
  have g := (z0D hl hb).2 (0 + n)
  show sqs (f9B x b) 0 n + (f9B x b).getD (0 + n) 0 * (f9B x b).getD (0 + n) 0 = _
  rw [ih, g, Nat.zero_add]
  by_cases h : n < eN (b + 1) - eN b
  ·rw [if_pos h, if_pos (by omega), if_pos (by omega)]; rfl
  ·rw [if_neg h]
   by_cases h' : n ≤ eN (b + 1) - eN b
   ·rw [if_pos h', if_neg (by omega), show n = eN (b + 1) - eN b by omega]; omega
   ·rw [if_neg h', if_neg (by omega)]; omega
theorem q9G {x : List Int} (hl : x.length = 16) (hx : d0A 67108864 16 x) {b : Nat} (hb : b < 6) : d0A 67108864 16 (f9B x b) := fun j hj => by
 obtain ⟨_, _, h1, h2⟩ := e5C b hb
 rw [(z0D hl hb).2 j]
 split
 ·exact hx _ (by omega)
 ·omega
theorem r0G {x : List Int} (hl : x.length = 16) (hx : d0A 67108864 16 x) {b : Nat} (hb : b < 6) : x7B (f9B x b) = some (j6A x b) := by
 obtain ⟨_, _, h1, h2⟩ := e5C b hb
 rw [c9F (z0D hl hb).1 (q9G hl hx hb), d1F hl hb]
 unfold j6A
 by_cases h : 16 ≤ eN (b + 1) - eN b
 ·rw [if_pos h, show eN (b + 1) - eN b = 16 by omega]
 ·rw [if_neg h]
theorem d2F {v : Int} (h0 : 0 < v) (h1 : v ≤ 72057594037927936) : i1C v = some (k1A v.toNat : Int) ∧ k3C v = some (k1A v.toNat : Int) ∧ k1A v.toNat ≤ 511 := by
 obtain ⟨n, rfl⟩ := Int.eq_ofNat_of_zero_le (Int.le_of_lt h0)
 have hn : n < 18446744073709551616 := by omega
 exact ⟨q4G hn, q8G hn, q1G hn⟩
theorem d3F : l6B = some c1A := rfl
theorem d4F {x : List Int} (hl : x.length = 16) (hx : d0A 67108864 16 x) : i2C x = some (m0A x, 0) := by
 have l1 := b7A (f := z7B) (fun b : Nat => ((b : Int), x, a5A (mix (o6A x) (fun _ => 0) b) 6, c1A, ())) 6 (r := (a5A (mix (o6A x) (fun _ => 0) 6) 6, ())) (fun b hb => by
  obtain ⟨f1, f2, f3, f4⟩ := e5C b hb
  have en := r0G hl hx hb
  unfold f9B at en
  have ew : IntKind.i64.wrap ((b : Int) + 1) = ((b + 1 : Nat) : Int) := d2A (by omega)
  by_cases hp : 0 < j6A x b
  ·have lw := d2F hp (d0F hx hb).2
   have e : o6A x b = e3C (((k1A (j6A x b).toNat / 2 : Nat) : Int) + 1) := if_pos hp
   have st : (a5A (mix (o6A x) (fun _ => 0) b) 6).set b (e3C (((k1A (j6A x b).toNat / 2 : Nat) : Int) + 1)) = a5A (mix (o6A x) (fun _ => 0) (b + 1)) 6 := e ▸ k5B 0 hb
   have td : ((k1A (j6A x b).toNat : Int)).tdiv 2 = ((k1A (j6A x b).toNat / 2 : Nat) : Int) := c7C
   have w1 : IntKind.i64.wrap ((k1A (j6A x b).toNat / 2 : Nat) : Int) = ((k1A (j6A x b).toNat / 2 : Nat) : Int) := a3A (by omega) (by omega)
   have w2 : IntKind.i64.wrap (((k1A (j6A x b).toNat / 2 : Nat) : Int) + 1) = ((k1A (j6A x b).toNat / 2 : Nat) : Int) + 1 := a3A (by omega) (by omega)
   simp (disch := omega) only [z7B, dT, wT, ew, Int.toNat_natCast, f1, f2, gT, en, Option.bind_some, lw.1, td, w1, w2]
   rw [← st]; rfl
  ·have e : o6A x b = 0 := if_neg hp
   have st : a5A (mix (o6A x) (fun _ => 0) b) 6 = a5A (mix (o6A x) (fun _ => 0) (b + 1)) 6 := d9C e
   simp (disch := omega) only [z7B, dT, dF, wT, ew, Int.toNat_natCast, f1, f2, gT, en, Option.bind_some]
   rw [← st]) (by simp (disch := omega) only [z7B, dF])
 rw [k6B] at l1
 have l1 : a1A z7B (0, x, a5A (fun _ => 0) 6, c1A, ()) = _ := l1
 rw [← w8A 6] at l1
 unfold i2C
 by_cases hz : x = List.replicate 16 0
 ·rw [o3G hz]
  simp only [Bool.not_true, cond_false, Option.bind_some, d3F, l1]
  rfl
 ·have bz : (x == List.replicate 16 0) = false := beq_eq_false_iff_ne.2 hz
  have en : sqs x 0 16 ≠ 0 := fun e => hz (p3A 0 (by rw [hl, List.length_replicate]) fun i hi => by rw [n3A]; exact c8F hx 16 (Nat.le_refl _) e i (by omega))
  rw [bz]
  simp only [Bool.not_false, cond_true, cond_false, c9F hl hx, Option.bind_some, l9A en, d3F, l1]
  rfl
theorem d5F {x : List Int} (hx : d0A 67108864 16 x) : k4C x = some (m0A x, 0) := by
 have l1 := b7A (f := a8C) (fun b : Nat => ((b : Int), x, List.replicate 6 0, a5A (mix (o6A x) (fun _ => 0) b) 6, ())) 6 (r := (List.replicate 6 0, a5A (mix (o6A x) (fun _ => 0) 6) 6, ())) (fun b hb => by
  obtain ⟨f1, f2, f3, f4⟩ := e5C b hb
  have ew : IntKind.i64.wrap ((b : Int) + 1) = ((b + 1 : Nat) : Int) := d2A (by omega)
  have fa := d5D (i := b) (by omega)
  have fb := d5D (i := b + 1) (by omega)
  rw [f1] at fa
  rw [f2] at fb
  have inner : ∀ L, a1A p4C ((b : Int), 0, (eN b : Int), (b : Int), x, List.replicate 6 0, L, ()) = some ((b : Int), j6A x b, (b : Int), x, List.replicate 6 0, L, ()) := fun L => by
   have h := b7A (f := p4C) (fun n : Nat => ((b : Int), sqs x (eN b) n, ((eN b + n : Nat) : Int), (b : Int), x, List.replicate 6 0, L, ())) (eN (b + 1) - eN b) (r := ((b : Int), j6A x b, (b : Int), x, List.replicate 6 0, L, ())) (fun n hn => by
    have r := t3C hx (a := eN b) n (by omega)
    have s := h4D hx (i := eN b + n) (by omega)
    have e : sqs x (eN b) (n + 1) = sqs x (eN b) n + x.getD (eN b + n) 0 * x.getD (eN b + n) 0 := rfl
    have w1 : IntKind.i64.wrap (x.getD (eN b + n) 0 * x.getD (eN b + n) 0) = x.getD (eN b + n) 0 * x.getD (eN b + n) 0 := a3A (by omega) (by omega)
    have w2 : IntKind.u64.wrap (x.getD (eN b + n) 0 * x.getD (eN b + n) 0) = x.getD (eN b + n) 0 * x.getD (eN b + n) 0 := b5A (by omega) (by omega)
    have w3 : IntKind.u64.wrap (sqs x (eN b) n + x.getD (eN b + n) 0 * x.getD (eN b + n) 0) = sqs x (eN b) n + x.getD (eN b + n) 0 * x.getD (eN b + n) 0 := b5A (by omega) (by omega)
    have w4 : IntKind.i64.wrap (((eN b + n : Nat) : Int) + 1) = ((eN b + (n + 1) : Nat) : Int) := by rw [a3A (by omega) (by omega)]; omega
    simp (disch := omega) only [p4C, ew, fb, Option.bind_some, dT, wT, Int.toNat_natCast, w1, w2, w3, w4, e]) (by
    simp (disch := omega) only [p4C, ew, fb, Option.bind_some, dF]
    rfl)
   exact h
  by_cases hp : 0 < j6A x b
  ·have lw := d2F hp (d0F hx hb).2
   have e : o6A x b = e3C (((k1A (j6A x b).toNat / 2 : Nat) : Int) + 1) := if_pos hp
   have st : (a5A (mix (o6A x) (fun _ => 0) b) 6).set b (e3C (((k1A (j6A x b).toNat / 2 : Nat) : Int) + 1)) = a5A (mix (o6A x) (fun _ => 0) (b + 1)) 6 := e ▸ k5B 0 hb
   have td : ((k1A (j6A x b).toNat : Int)).tdiv 2 = ((k1A (j6A x b).toNat / 2 : Nat) : Int) := c7C
   have w1 : IntKind.i64.wrap ((k1A (j6A x b).toNat / 2 : Nat) : Int) = ((k1A (j6A x b).toNat / 2 : Nat) : Int) := a3A (by omega) (by omega)
   have w2 : IntKind.i64.wrap (((k1A (j6A x b).toNat / 2 : Nat) : Int) + 1) = ((k1A (j6A x b).toNat / 2 : Nat) : Int) + 1 := a3A (by omega) (by omega)
   simp (disch := omega) only [a8C, dT, wT, ew, fa, inner, Int.toNat_natCast, Option.bind_some, lw.2.1, td, w1, w2]
   rw [← st]; rfl
  ·have e : o6A x b = 0 := if_neg hp
   have st : a5A (mix (o6A x) (fun _ => 0) b) 6 = a5A (mix (o6A x) (fun _ => 0) (b + 1)) 6 := d9C e
   simp (disch := omega) only [a8C, dT, dF, ew, fa, inner, Option.bind_some]
   rw [← st]) (by simp (disch := omega) only [a8C, dF])
 rw [k6B] at l1
 have l1 : a1A a8C (0, x, List.replicate 6 0, a5A (fun _ => 0) 6, ()) = _ := l1
 rw [← w8A 6] at l1
 unfold k4C
 simp only [x3D, decide_eq_true hx, Option.bind_some, Bool.not_true, cond_false, l1]
 rfl
def b5B (l : List Int) : Int := mx (mx (mx (mx (mx (l.getD 0 0) (l.getD 1 0)) (l.getD 2 0)) (l.getD 3 0)) (l.getD 4 0)) (l.getD 5 0)
def t4C (l : List Int) : Nat → Int
 | 0 => 0
 | n + 1 => mx (t4C l n) (l.getD n 0)
theorem r1G {l : List Int} (h : lv l) : t4C l 6 = b5B l := by
 have := h 0 (by omega)
 have e : mx 0 (l.getD 0 0) = l.getD 0 0 := by unfold mx; split <;> omega
 simp only [t4C, e]
 rfl
theorem d6F {l : List Int} (hl : l.length = 6) (h : lv l) : i5C l = some (b5B l) := by
 unfold i5C
 simp (disch := omega) only [o1B hl, p4A h, Option.bind_some, nF, wT]
 rfl
theorem d7F {l : List Int} (hl : l.length = 6) (h : lv l) : k5C l = some (b5B l) := by
 have l1 := b7A (f := p5C) (fun n : Nat => (t4C l n, l, (n : Int), ())) 6 (r := (t4C l 6, ())) (fun n hn => by
  simp (disch := omega) only [p5C, dT, wT, Int.toNat_natCast, d2A]
  rfl) (by simp (disch := omega) only [p5C, dF])
 have l1 : a1A p5C (0, l, 0, ()) = _ := l1
 unfold k5C
 simp (disch := omega) only [k1B hl, p4A h, Option.bind_some, nF, l1, r1G h]
end Go.Sq
namespace Go.Sq
open Go.Rx
def c6A (p : List Int) : Prop := ∀ i, i < 16 → -32768 ≤ p.getD i 0 ∧ p.getD i 0 ≤ 32767
instance (p : List Int) : Decidable (c6A p) := by unfold c6A; infer_instance
def ckP (p : List Int) : Int := if c6A p then 0 else 1
theorem g0B {p : List Int} (h : c6A p) : ckP p = 0 := if_pos h
theorem p5B {p : List Int} (h : ¬ c6A p) : ckP p = 1 := if_neg h
theorem d8F (v : Int) : v1B v = v ↔ -32768 ≤ v ∧ v ≤ 32767 := by unfold v1B; split <;> split <;> omega
theorem h5D (p : List Int) : x5B p = some (ckP p) := by
 have step : ∀ i, i < 16 → -32768 ≤ p.getD i 0 ∧ p.getD i 0 ≤ 32767 → s5B (p, (i : Int), ()) = some (.inl (p, ((i + 1 : Nat) : Int), ())) := fun i hi h => by
  have e := (d8F (p.getD i 0)).2 h
  simp (disch := omega) only [s5B, dT, wT, Int.toNat_natCast, w8D, Option.bind_some, nF, d2A]
 unfold x5B
 rcases k0B (fun i => -32768 ≤ p.getD i 0 ∧ p.getD i 0 ≤ 32767) 16 with h | ⟨k, hk, h, h'⟩
 ·rw [g0B h, show a1A s5B (p, 0, ()) = some (.inl ()) from b7A (fun i : Nat => (p, (i : Int), ())) 16 (fun i hi => step i hi (h i hi)) (by simp (disch := omega) only [s5B, dF])]
  rfl
 ·rw [p5B fun hp => h' (hp k hk), show a1A s5B (p, 0, ()) = some (.inr (1, ())) from b7A (fun i : Nat => (p, (i : Int), ())) k (fun i hi => step i (by omega) (h i hi)) (by
   have e : v1B (p.getD k 0) ≠ p.getD k 0 := fun e => h' ((d8F _).1 e)
   simp (disch := omega) only [s5B, dT, wT, Int.toNat_natCast, w8D, Option.bind_some, nT])]
  rfl
theorem h6D (p : List Int) : y8B p = some (ckP p) := by
 have step : ∀ i, i < 16 → -32768 ≤ p.getD i 0 ∧ p.getD i 0 ≤ 32767 → m7B (p, (i : Int), ()) = some (.inl (p, ((i + 1 : Nat) : Int), ())) := fun i hi h => by
  have d2 : decide (p.getD i 0 > 32767) = false := decide_eq_false (by omega)
  simp (disch := omega) only [m7B, dT, dF, wT, Int.toNat_natCast, d2, Option.bind_some, cond_false, d2A]
 unfold y8B
 rcases k0B (fun i => -32768 ≤ p.getD i 0 ∧ p.getD i 0 ≤ 32767) 16 with h | ⟨k, hk, h, h'⟩
 ·rw [g0B h, show a1A m7B (p, 0, ()) = some (.inl ()) from b7A (fun i : Nat => (p, (i : Int), ())) 16 (fun i hi => step i hi (h i hi)) (by simp (disch := omega) only [m7B, dF])]
  rfl
 ·rw [p5B fun hp => h' (hp k hk), show a1A m7B (p, 0, ()) = some (.inr (1, ())) from b7A (fun i : Nat => (p, (i : Int), ())) k (fun i hi => step i (by omega) (h i hi)) (by
   by_cases h1 : p.getD k 0 < -32768
   ·simp (disch := omega) only [m7B, dT, wT, Int.toNat_natCast, Option.bind_some, cond_true]
   ·have d2 : decide (p.getD k 0 > 32767) = true := decide_eq_true (by omega)
    simp (disch := omega) only [m7B, dT, dF, wT, Int.toNat_natCast, d2, Option.bind_some, cond_true])]
  rfl
def o7A (a b : List Int) (n : Nat) : Int := if n < 16 then a.getD n 0 else b.getD (n - 16) 0
def n1A (a b : List Int) (n : Nat) : Int := rnd 16 (o7A a b n * WF n)
def s4A (a b : List Int) (k : Nat) : Nat → Int
 | 0 => 0
 | n + 1 => s4A a b k n + n1A a b n * KF n k
def b6B (a b : List Int) (k : Nat) : Int := rnd 28 (s4A a b k 32)
def g4A (a b : List Int) : List Int := a5A (b6B a b) 16
theorem r2G {a b : List Int} (ha : c6A a) (hb : c6A b) {n : Nat} (hn : n < 32) : -32768 ≤ o7A a b n ∧ o7A a b n ≤ 32768 := by
 unfold o7A; split
 ·have := ha n (by omega); omega
 ·have := hb (n - 16) (by omega); omega
theorem z1D {a b : List Int} (ha : c6A a) (hb : c6A b) {n : Nat} (hn : n < 32) : -554050813952 ≤ o7A a b n * WF n ∧ o7A a b n * WF n ≤ 554050813952 := by
 have := v4B (r2G ha hb hn) (a0F hn)
 omega
theorem r3G {a b : List Int} (ha : c6A a) (hb : c6A b) {n : Nat} (hn : n < 32) : -8454150 ≤ n1A a b n ∧ n1A a b n ≤ 8454150 := by
 have := z1D ha hb hn
 unfold n1A rnd
 simp only [Nat.reduceSub, Int.reducePow]
 omega
theorem z2D {a b : List Int} (ha : c6A a) (hb : c6A b) {n k : Nat} (hn : n < 32) : -142945211449350 ≤ n1A a b n * KF n k ∧ n1A a b n * KF n k ≤ 142945211449350 := by
 have := v4B (r3G ha hb hn) (z9E (n := n) (k := k))
 omega
theorem e6C {a b : List Int} (ha : c6A a) (hb : c6A b) {k : Nat} : ∀ n : Nat, n ≤ 32 → -(142945211449350 * (n : Int)) ≤ s4A a b k n ∧ s4A a b k n ≤ 142945211449350 * (n : Int)
 | 0, _ => by show _ ≤ (0 : Int) ∧ (0 : Int) ≤ _; omega
 | n + 1, h => by
  have ih := e6C ha hb (k := k) n (by omega)
  have s := z2D ha hb (n := n) (k := k) (by omega)
  simp only [s4A]
  omega
theorem r4G {a b : List Int} (ha : c6A a) (hb : c6A b) {k : Nat} : -67108864 ≤ b6B a b k ∧ b6B a b k ≤ 67108864 := by
 have := e6C ha hb (k := k) 32 (by omega)
 unfold b6B rnd
 simp only [Nat.reduceSub, Int.reducePow]
 omega
theorem d9F (a b : List Int) : (g4A a b).length = 16 := g6A _ _
theorem t5C {a b : List Int} (ha : c6A a) (hb : c6A b) : d0A 67108864 16 (g4A a b) := fun i hi => by
 rw [show (g4A a b).getD i 0 = b6B a b i from e0A _ _ _ _ hi]
 exact r4G ha hb
theorem r5G {a b : List Int} (ha : a.length = 16) (hb : b.length = 16) : m6A (m6A (List.replicate 32 0) 0 (((a.drop 0).take 16).take 32)) 16 (((b.drop 0).take 16).take 16) = a5A (o7A a b) 32 := by
 have e1 : ((a.drop 0).take 16).take 32 = a := by
  rw [List.drop_zero, List.take_take, show min 32 16 = 16 from rfl, ← ha, List.take_length]
 have e2 : ((b.drop 0).take 16).take 16 = b := by
  rw [List.drop_zero, List.take_take, Nat.min_self, ← hb, List.take_length]
 rw [e1, e2]
 have e3 : m6A (List.replicate 32 0) 0 a = a ++ List.replicate 16 0 := by
  unfold m6A
  rw [List.take_zero, List.nil_append, Nat.zero_add, ha, List.drop_replicate]
 have e4 : m6A (a ++ List.replicate 16 0) 16 b = a ++ b := by
  unfold m6A
  rw [hb, List.take_left' ha, List.drop_eq_nil_of_le (by rw [List.length_append, ha, List.length_replicate]; omega), List.append_nil]
 rw [e3, e4]
 refine p3A 0 (by rw [List.length_append, ha, hb, g6A]) fun i hi => ?_
 rw [List.length_append, ha, hb] at hi
 rw [e0A _ _ _ _ hi]
 unfold o7A
 by_cases h : i < 16
 ·rw [if_pos h, List.getD_eq_getElem?_getD, List.getElem?_append_left (by omega), ← List.getD_eq_getElem?_getD]
 ·rw [if_neg h, List.getD_eq_getElem?_getD, List.getElem?_append_right (by omega), ha, ← List.getD_eq_getElem?_getD]
theorem r6G {a b : List Int} (la : a.length = 16) (lb : b.length = 16) (ha : c6A a) (hb : c6A b) : x6B a b = some (g4A a b, 0) := by
 have z16 : (List.replicate 16 (0 : Int)).length = 16 := List.length_replicate
 have l1 := b7A (f := m5C) (fun n : Nat => ((n : Int), List.replicate 16 0, (r3A, k5A), a5A (mix (n1A a b) (o7A a b) n) 32, ())) 32 (r := (List.replicate 16 0, (r3A, k5A), a5A (mix (n1A a b) (o7A a b) 32) 32, ())) (fun n hn => by
  have g2 : (a5A (mix (n1A a b) (o7A a b) n) 32).getD n 0 = o7A a b n := x2D _ hn
  have g1 : r3A.getD n 0 = WF n := e0A _ _ _ _ hn
  have bw := z1D ha hb hn
  have a1 : m4A (o7A a b n * WF n) 16 = some (n1A a b n) := f3B (n := 16) (by omega) (by omega) (by omega) (by omega)
  have s : (a5A (mix (n1A a b) (o7A a b) n) 32).set n (n1A a b n) = _ := k5B 0 hn
  simp (disch := omega) only [m5C, dT, wT, Int.toNat_natCast, g1, g2, a3A, a1, Option.bind_some, s]
  rfl) (by simp (disch := omega) only [m5C, dF])
 rw [k6B] at l1
 have inner : ∀ k : Nat, k < 16 → ∀ o, a1A m6C ((k : Int), 0, k5A, (k : Int), a5A (fun n => KF n k) 32, 32, 0, o, a5A (n1A a b) 32, ()) = some ((k : Int), s4A a b k 32, k5A, (k : Int), o, a5A (n1A a b) 32, ()) := fun k hk o => by
  have h := b7A (f := m6C) (fun n : Nat => ((k : Int), s4A a b k n, k5A, (k : Int), a5A (fun n => KF n k) 32, 32, (n : Int), o, a5A (n1A a b) 32, ())) 32 (r := ((k : Int), s4A a b k 32, k5A, (k : Int), o, a5A (n1A a b) 32, ())) (fun n hn => by
   have g1 : (a5A (fun n => KF n k) 32).getD n 0 = KF n k := e0A _ _ _ _ hn
   have g2 : (a5A (n1A a b) 32).getD n 0 = n1A a b n := e0A _ _ _ _ hn
   have w := z2D ha hb (n := n) (k := k) hn
   have f := e6C ha hb (k := k) n (by omega)
   simp (disch := omega) only [m6C, dT, wT, g6A, Int.toNat_natCast, g1, g2, a3A]
   rfl) (by simp (disch := omega) only [m6C, dF])
  exact h
 have l3 := b7A (f := m7C) (fun k : Nat => (k5A, (k : Int), b4A (b6B a b) k (List.replicate 16 0), a5A (n1A a b) 32, ())) 16 (r := (b4A (b6B a b) 16 (List.replicate 16 0), ())) (fun k hk => by
  have e : ((a5A (fun n => KF n k) 32).length : Int) = 32 := by rw [g6A]; rfl
  have f := e6C ha hb (k := k) 32 (by omega)
  have a1 : m4A (s4A a b k 32) 28 = some (b6B a b k) := f3B (n := 28) (by omega) (by omega) (by omega) (by omega)
  simp (disch := omega) only [m7C, dT, wT, Int.toNat_natCast, a1F hk, e, inner k hk, Option.bind_some, a1, d2A, k3A]) (by simp (disch := omega) only [m7C, dF])
 rw [l4A z16] at l3
 have l1 : a1A m5C (0, List.replicate 16 0, (r3A, k5A), a5A (o7A a b) 32, ()) = _ := l1
 have l3 : a1A m7C (k5A, 0, List.replicate 16 0, a5A (n1A a b) 32, ()) = _ := l3
 unfold x6B
 simp only [h5D, g0B ha, g0B hb, Option.bind_some, bne_self_eq_false, cond_false, z3E, r5G la lb, l1, l3]
 rfl
theorem r7G {a b : List Int} (h : ¬ (c6A a ∧ c6A b)) : x6B a b = some (List.replicate 16 0, 1) := by
 unfold x6B
 by_cases ha : c6A a
 ·have hb : ¬ c6A b := fun hb => h ⟨ha, hb⟩
  simp only [h5D, g0B ha, p5B hb, Option.bind_some, bne_self_eq_false, cond_false, s3A, cond_true]
 ·simp only [h5D, p5B ha, Option.bind_some, s3A, cond_true]
theorem z3D {a b : List Int} (ha : c6A a) (hb : c6A b) : m2B a b = some (g4A a b, 0) := by
 have z16 : (List.replicate 16 (0 : Int)).length = 16 := List.length_replicate
 have inner : ∀ k : Nat, k < 16 → ∀ o z, a1A a5C ((k : Int), 0, (k : Int), 0, a, b, z, o, (s0A, s1A), ()) = some ((k : Int), s4A a b k 32, (k : Int), a, b, z, o, (s0A, s1A), ()) := fun k hk o z => by
  have h := b7A (f := a5C) (fun n : Nat => ((k : Int), s4A a b k n, (k : Int), (n : Int), a, b, z, o, (s0A, s1A), ())) 32 (r := ((k : Int), s4A a b k 32, (k : Int), a, b, z, o, (s0A, s1A), ())) (fun n hn => by
   have w := z2D ha hb (n := n) (k := k) hn
   have f := e6C ha hb (k := k) n (by omega)
   have bw := z1D ha hb hn
   have a1 : l6A (o7A a b n * WF n) 16 = some (n1A a b n) := f4B (n := 16) (by omega) (by omega) (by omega) (by omega)
   by_cases h16 : n < 16
   ·have eb : a.getD n 0 = o7A a b n := (if_pos h16).symm
    simp (disch := omega) only [a5C, dT, wT, Int.toNat_natCast, eb, Option.bind_some, x0D hn, x1D hn hk, a1, a3A]
    rfl
   ·have eb : b.getD (n - 16) 0 = o7A a b n := (if_neg h16).symm
    have ew : IntKind.i64.wrap ((n : Int) - 16) = ((n - 16 : Nat) : Int) := by rw [a3A (by omega) (by omega)]; omega
    simp (disch := omega) only [a5C, dT, dF, wT, ew, Int.toNat_natCast, eb, Option.bind_some, x0D hn, x1D hn hk, a1, a3A]
    rfl) (by simp (disch := omega) only [a5C, dF])
  exact h
 have l3 := b7A (f := p0C) (fun k : Nat => ((k : Int), a, b, List.replicate 16 0, b4A (b6B a b) k (List.replicate 16 0), (s0A, s1A), ())) 16 (r := (List.replicate 16 0, b4A (b6B a b) 16 (List.replicate 16 0), ())) (fun k hk => by
  have f := e6C ha hb (k := k) 32 (by omega)
  have a1 : l6A (s4A a b k 32) 28 = some (b6B a b k) := f4B (n := 28) (by omega) (by omega) (by omega) (by omega)
  simp (disch := omega) only [p0C, dT, inner k hk, Option.bind_some, a1, wT, Int.toNat_natCast, d2A, k3A]) (by simp (disch := omega) only [p0C, dF])
 rw [l4A z16] at l3
 have l3 : a1A p0C (0, a, b, List.replicate 16 0, List.replicate 16 0, (s0A, s1A), ()) = _ := l3
 unfold m2B
 simp only [h6D, g0B ha, g0B hb, Option.bind_some, bne_self_eq_false, cond_false, z8E, l3]
 rfl
theorem z4D {a b : List Int} (h : ¬ (c6A a ∧ c6A b)) : m2B a b = some (List.replicate 16 0, 1) := by
 unfold m2B
 by_cases ha : c6A a
 ·have hb : ¬ c6A b := fun hb => h ⟨ha, hb⟩
  simp only [h6D, g0B ha, p5B hb, Option.bind_some, bne_self_eq_false, cond_false, s3A, cond_true]
 ·simp only [h6D, p5B ha, Option.bind_some, s3A, cond_true]
end Go.Sq
namespace Go.Sq
open Go.Rx
def a1B (a b : Int) : Int := if a.tmod b > 0 ∧ a.tmod b ≥ b - a.tmod b then a.tdiv b + 1 else if a.tmod b < 0 ∧ -(a.tmod b) ≥ b + a.tmod b then a.tdiv b - 1 else a.tdiv b
theorem z5D {a b A : Int} (h : -A ≤ a ∧ a ≤ A) : -A ≤ a.tdiv b ∧ a.tdiv b ≤ A := by
 have h1 : (a.tdiv b).natAbs = a.natAbs / b.natAbs := Int.natAbs_tdiv a b
 have h2 := Nat.div_le_self a.natAbs b.natAbs
 omega
theorem r8G {a b A : Int} (h : -A ≤ a ∧ a ≤ A) : -A - 1 ≤ a1B a b ∧ a1B a b ≤ A + 1 := by
 have := z5D (b := b) h
 unfold a1B; split
 ·omega
 ·split <;> omega
theorem r9G {a b : Int} (ha : -67108864 ≤ a ∧ a ≤ 67108864) (hb : 1 ≤ b ∧ b ≤ 4294967296) : y4C a b = some (a1B a b, 0) := by
 have t := z5D (b := b) ha
 have r := q6E (k := a) (n := b) (by omega)
 have d : decide (b < 1) = false := decide_eq_false (by omega)
 unfold y4C a1B
 simp only [d, cond_false, f8B (show b ≠ 0 by omega), cond_true]
 generalize a.tmod b = m at *
 generalize a.tdiv b = q at *
 have w0 : IntKind.i64.wrap q = q := a3A (by omega) (by omega)
 have w1 : IntKind.i64.wrap (b - m) = b - m := a3A (by omega) (by omega)
 have w2 : IntKind.i64.wrap (q + 1) = q + 1 := a3A (by omega) (by omega)
 have w3 : IntKind.i64.wrap (q - 1) = q - 1 := a3A (by omega) (by omega)
 have w4 : IntKind.i64.wrap (0 - m) = -m := by rw [a3A (by omega) (by omega)]; omega
 have w5 : IntKind.i64.wrap (b + m) = b + m := a3A (by omega) (by omega)
 simp only [w0, w1, w2, w3, w4, w5]
 by_cases h1 : m > 0
 ·simp only [dT h1, Option.bind_some]
  by_cases h2 : m ≥ b - m
  ·simp only [dT h2, Option.bind_some, w2, if_pos (show m > 0 ∧ m ≥ b - m from ⟨h1, h2⟩)]
  ·simp only [dF h2, dF (show ¬ m < 0 by omega), Option.bind_some, cond_false, if_neg (show ¬ (m > 0 ∧ m ≥ b - m) from fun h => h2 h.2), if_neg (show ¬ (m < 0 ∧ -m ≥ b + m) from fun h => by omega)]
 ·simp only [dF h1, Option.bind_some, cond_false, if_neg (show ¬ (m > 0 ∧ m ≥ b - m) from fun h => h1 h.1)]
  by_cases h3 : m < 0
  ·simp only [dT h3, Option.bind_some, w4, w5]
   by_cases h4 : -m ≥ b + m
   ·simp only [dT h4, Option.bind_some, w3, if_pos (show m < 0 ∧ -m ≥ b + m from ⟨h3, h4⟩)]
   ·simp only [dF h4, Option.bind_some, if_neg (show ¬ (m < 0 ∧ -m ≥ b + m) from fun h => h4 h.2)]
  ·simp only [dF h3, Option.bind_some, cond_false, if_neg (show ¬ (m < 0 ∧ -m ≥ b + m) from fun h => h3 h.1)]
theorem s0G {a b : Int} (hb : 0 < b) : (a.tmod b > 0 → 0 ≤ a) ∧ (a.tmod b < 0 → a < 0) := by
 constructor
 ·intro h
  by_cases h0 : 0 ≤ a
  ·exact h0
  ·exfalso
   have h1 : a.tmod b = -((-a).tmod b) := by rw [← Int.neg_tmod, Int.neg_neg]
   have := Int.tmod_nonneg b (show 0 ≤ -a by omega)
   omega
 ·intro h
  by_cases h0 : 0 ≤ a
  ·have := Int.tmod_nonneg b h0; omega
  ·omega
theorem s1G {a b : Int} (ha : -67108864 ≤ a ∧ a ≤ 67108864) (hb : 1 ≤ b ∧ b ≤ 4294967296) : a3D a b = some (a1B a b, 0) := by
 have t := z5D (b := b) ha
 have r := q6E (k := a) (n := b) (by omega)
 have sg := s0G (a := a) (b := b) (by omega)
 have d : decide (b < 1) = false := decide_eq_false (by omega)
 unfold a3D a1B
 simp only [d, cond_false, f8B (show b ≠ 0 by omega), cond_true]
 generalize a.tmod b = m at *
 generalize a.tdiv b = q at *
 have w0 : IntKind.i64.wrap q = q := a3A (by omega) (by omega)
 have w1 : IntKind.i64.wrap (b - m) = b - m := a3A (by omega) (by omega)
 have w2 : IntKind.i64.wrap (q + 1) = q + 1 := a3A (by omega) (by omega)
 have w3 : IntKind.i64.wrap (q - 1) = q - 1 := a3A (by omega) (by omega)
 have w4 : IntKind.i64.wrap (0 - m) = -m := by rw [a3A (by omega) (by omega)]; omega
 have w5 : IntKind.i64.wrap (b - -m) = b + m := by rw [a3A (by omega) (by omega)]; omega
 simp only [w0, w4]
 by_cases h3 : m < 0
 ·simp only [dT h3, Option.bind_some, w5, if_neg (show ¬ (m > 0 ∧ m ≥ b - m) from fun h => by omega)]
  by_cases h4 : -m ≥ b + m
  ·simp only [dT h4, dT (sg.2 h3), w3, Option.bind_some, if_pos (show m < 0 ∧ -m ≥ b + m from ⟨h3, h4⟩)]
  ·simp only [dF h4, Option.bind_some, if_neg (show ¬ (m < 0 ∧ -m ≥ b + m) from fun h => h4 h.2)]
 ·simp only [dF h3, Option.bind_some, w1, if_neg (show ¬ (m < 0 ∧ -m ≥ b + m) from fun h => h3 h.1)]
  by_cases h2 : m ≥ b - m
  ·have h1 : m > 0 := by omega
   have := sg.1 h1
   simp only [dT h2, dF (show ¬ a < 0 by omega), w2, Option.bind_some, if_pos (show m > 0 ∧ m ≥ b - m from ⟨h1, h2⟩)]
  ·simp only [dF h2, Option.bind_some, if_neg (show ¬ (m > 0 ∧ m ≥ b - m) from fun h => h2 h.2)]
noncomputable def p8A (x l : List Int) (n : Nat) : Int := if h2A l n = 0 then 0 else q5A (b2A l n) (a1B (x.getD n 0) (h2A l n))
noncomputable def k9B (x l : List Int) : List Int := a5A (p8A x l) 16
theorem s2G (x l : List Int) : (k9B x l).length = 16 := g6A _ _
theorem s3G {m v : Int} (hm : 0 ≤ m) : -m ≤ q5A m v ∧ q5A m v ≤ m := by unfold q5A; split <;> split <;> omega
theorem s4G {m v : Int} (hm : 0 ≤ m) : (if m < (if v < -m then -m else v) then m else (if v < -m then -m else v)) = q5A m v := by
 unfold q5A; split <;> split <;> split <;> (try split) <;> omega
theorem s5G {x l : List Int} (hl : l.length = 6) (h : lv l) : p6A (k9B x l) l := ⟨h, fun n hn => by
 rw [show (k9B x l).getD n 0 = p8A x l n from e0A _ _ _ _ hn]
 have m := p5A hl h n
 unfold p8A; split
 ·omega
 ·exact s3G m.1⟩
theorem s6G {l : List Int} (hl : l.length = 6) (h : lv l) : p6A (List.replicate 16 0) l := ⟨h, fun n _ => by
 have := p5A hl h n
 rw [n3A]; omega⟩
theorem s7G {x l : List Int} (hx : d0A 67108864 16 x) (lx : x.length = 16) (hl : l.length = 6) (h : lv l) : y5C x l = some (k9B x l, (g2A l, 0)) := by
 have l1 := b7A (f := a0C) (fun n : Nat => (x, (n : Int), a5A (mix (p8A x l) (fun _ => 0) n) 16, g2A l, a5A (scF l) 16, ())) 16 (r := .inl (a5A (mix (p8A x l) (fun _ => 0) 16) 16, g2A l, ())) (fun n hn => by
  have g : (a5A (scF l) 16).getD n (0, 0) = scF l n := e0A _ _ _ _ hn
  have sr := x6D hl h n
  have m := p5A hl h n
  by_cases h0 : h2A l n = 0
  ·have e : p8A x l n = 0 := if_pos h0
   have st : a5A (mix (p8A x l) (fun _ => 0) n) 16 = a5A (mix (p8A x l) (fun _ => 0) (n + 1)) 16 := d9C e
   simp (disch := omega) only [a0C, dT, wT, Int.toNat_natCast, g, e2D, eT, Option.bind_some, d2A]
   rw [← st]
  ·have dv := r9G (a := x.getD n 0) (b := h2A l n) (hx n hn) (by omega)
   have dr := r8G (b := h2A l n) (hx n hn)
   have e : p8A x l n = q5A (b2A l n) (a1B (x.getD n 0) (h2A l n)) := if_neg h0
   have st : (a5A (mix (p8A x l) (fun _ => 0) n) 16).set n (q5A (b2A l n) (a1B (x.getD n 0) (h2A l n))) = a5A (mix (p8A x l) (fun _ => 0) (n + 1)) 16 := e ▸ k5B 0 hn
   have w : IntKind.i64.wrap (0 - b2A l n) = -b2A l n := by rw [a3A (by omega) (by omega)]; omega
   simp (disch := omega) only [a0C, dT, wT, Int.toNat_natCast, g, e2D, eF, dv, Option.bind_some, nF, w, d2A]
   rw [← st]; rfl) (by simp (disch := omega) only [a0C, dF])
 rw [k6B] at l1
 have l1 : a1A a0C (x, 0, a5A (fun _ => 0) 16, g2A l, a5A (scF l) 16, ()) = _ := l1
 rw [← w8A 16] at l1
 unfold y5C
 simp only [u8D hl h, d4F lx hx, Option.bind_some, bne_self_eq_false, cond_false, l1]
 rfl
theorem s8G {x l : List Int} (hx : d0A 67108864 16 x) (hl : l.length = 6) (h : lv l) : a4D x l = some (k9B x l, (g2A l, 0)) := by
 have l1 := b7A (f := b3C) (fun n : Nat => ((n : Int), x, List.replicate 16 0, List.replicate 6 0, a5A (mix (p8A x l) (fun _ => 0) n) 16, a5A (h2A l) 16, a5A (b2A l) 16, g2A l, ())) 16
  (r := (List.replicate 16 0, List.replicate 6 0, a5A (mix (p8A x l) (fun _ => 0) 16) 16, g2A l, ())) (fun n hn => by
  have g1 : (a5A (h2A l) 16).getD n 0 = h2A l n := e0A _ _ _ _ hn
  have g2 : (a5A (b2A l) 16).getD n 0 = b2A l n := e0A _ _ _ _ hn
  have sr := x6D hl h n
  have m := p5A hl h n
  by_cases h0 : h2A l n = 0
  ·have e : p8A x l n = 0 := if_pos h0
   have st : a5A (mix (p8A x l) (fun _ => 0) n) 16 = a5A (mix (p8A x l) (fun _ => 0) (n + 1)) 16 := d9C e
   simp (disch := omega) only [b3C, dT, dF, wT, Int.toNat_natCast, g1, Option.bind_some, d2A]
   rw [← st]
  ·have dv := s1G (a := x.getD n 0) (b := h2A l n) (hx n hn) (by omega)
   have e : p8A x l n = q5A (b2A l n) (a1B (x.getD n 0) (h2A l n)) := if_neg h0
   have st : (a5A (mix (p8A x l) (fun _ => 0) n) 16).set n (q5A (b2A l n) (a1B (x.getD n 0) (h2A l n))) = a5A (mix (p8A x l) (fun _ => 0) (n + 1)) 16 := e ▸ k5B 0 hn
   have w : IntKind.i64.wrap (0 - b2A l n) = -b2A l n := by rw [a3A (by omega) (by omega)]; omega
   simp (disch := omega) only [b3C, dT, wT, Int.toNat_natCast, g1, g2, dv, Option.bind_some, w, s4G m.1, d2A]
   rw [← st]) (by simp (disch := omega) only [b3C, dF])
 rw [k6B] at l1
 have l1 : a1A b3C (0, x, List.replicate 16 0, List.replicate 6 0, a5A (fun _ => 0) 16, a5A (h2A l) 16, a5A (b2A l) 16, g2A l, ()) = _ := l1
 rw [← w8A 16] at l1
 unfold a4D
 simp only [s1C hl h, x3D, decide_eq_true hx, Option.bind_some, Bool.not_true, cond_false, l1]
 rfl
abbrev TkT := List Int × Int × Int × Int × SyT
def g1B (t : TkT) : Prop := t.1.length = 16 ∧ s2A t.2.2.2.2
def okT (t : TkT) : Prop := (0 ≤ t.2.1 ∧ t.2.1 ≤ 4) ∧ (0 ≤ t.2.2.1 ∧ t.2.2.1 ≤ 1099511627776) ∧ (0 ≤ t.2.2.2.1 ∧ t.2.2.2.1 ≤ 1099511627776) ∧ c6A t.1 ∧ okY t.2.2.2.2
instance (t : TkT) : Decidable (okT t) := by unfold okT; infer_instance
def ckT (t : TkT) : Int := if okT t then 0 else 1
theorem h7D {t : TkT} (h : okT t) : ckT t = 0 := if_pos h
theorem a2B {t : TkT} (h : ¬ okT t) : ckT t = 1 := if_neg h
theorem h8D (v : Int) : i3C v = some (decide (0 ≤ v ∧ v ≤ 1099511627776)) := by
 unfold i3C
 by_cases h : v ≥ 0
 ·rw [dT h]
  congr 1
  rw [decide_eq_decide]; omega
 ·rw [dF h, decide_eq_false (by omega)]
theorem e0F {t : TkT} (ht : g1B t) : i4C t = some (ckT t) := by
 have c := y1D ht.2
 have lc := h5D t.1
 unfold i4C
 by_cases h1 : 0 ≤ t.2.1 ∧ t.2.1 ≤ 4
 ·by_cases h2 : 0 ≤ t.2.2.1 ∧ t.2.2.1 ≤ 1099511627776
  ·by_cases h3 : 0 ≤ t.2.2.2.1 ∧ t.2.2.2.1 ≤ 1099511627776
   ·by_cases h4 : c6A t.1
    ·rw [g0B h4] at lc
     have e : ckY t.2.2.2.2 = ckT t := by
      by_cases h5 : okY t.2.2.2.2
      ·rw [p2B h5, h7D ⟨h1, h2, h3, h4, h5⟩]
      ·rw [a0B h5, a2B fun h => h5 h.2.2.2.2]
     simp (disch := omega) only [dT, h8D, decide_eq_true h2, decide_eq_true h3, Option.bind_some, cond_true, Bool.not_true, cond_false, lc, bne_self_eq_false, c, e]
    ·rw [p5B h4] at lc
     rw [a2B fun h => h4 h.2.2.2.1]
     simp (disch := omega) only [dT, h8D, decide_eq_true h2, decide_eq_true h3, Option.bind_some, cond_true, Bool.not_true, cond_false, lc, s3A]
   ·rw [a2B fun h => h3 h.2.2.1]
    simp (disch := omega) only [dT, h8D, decide_eq_true h2, decide_eq_false h3, Option.bind_some, cond_true, Bool.not_false]
  ·rw [a2B fun h => h2 h.2.1]
   simp (disch := omega) only [dT, h8D, decide_eq_false h2, Option.bind_some, cond_true, Bool.not_false, cond_false]
 ·rw [a2B fun h => h1 h.1]
  by_cases h0 : t.2.1 ≥ 0
  ·simp (disch := omega) only [dT, dF, Option.bind_some, cond_true, Bool.not_false]
  ·simp (disch := omega) only [dF, Option.bind_some, cond_true, Bool.not_false]
theorem e1F {t : TkT} (ht : g1B t) : k1C t = some (ckT t) := by
 have c := y2D ht.2
 have lc := h6D t.1
 unfold k1C
 by_cases h4 : c6A t.1
 ·rw [g0B h4] at lc
  by_cases h1 : 0 ≤ t.2.1 ∧ t.2.1 ≤ 4
  ·by_cases h2 : 0 ≤ t.2.2.1 ∧ t.2.2.1 ≤ 1099511627776
   ·by_cases h3 : 0 ≤ t.2.2.2.1 ∧ t.2.2.2.1 ≤ 1099511627776
    ·by_cases h5 : okY t.2.2.2.2
     ·rw [p2B h5] at c
      rw [h7D ⟨h1, h2, h3, h4, h5⟩]
      simp (disch := omega) only [lc, Option.bind_some, bne_self_eq_false, cond_false, dF, c]
     ·rw [a0B h5] at c
      rw [a2B fun h => h5 h.2.2.2.2]
      simp (disch := omega) only [lc, Option.bind_some, bne_self_eq_false, cond_false, dF, c, s3A, cond_true]
    ·rw [a2B fun h => h3 h.2.2.1]
     by_cases h6 : t.2.2.2.1 < 0
     ·simp (disch := omega) only [lc, Option.bind_some, bne_self_eq_false, cond_false, dF, dT, cond_true]
     ·simp (disch := omega) only [lc, Option.bind_some, bne_self_eq_false, cond_false, dF, decide_eq_true (show t.2.2.2.1 > 1099511627776 by omega), cond_true]
   ·rw [a2B fun h => h2 h.2.1]
    by_cases h6 : t.2.2.1 < 0
    ·simp (disch := omega) only [lc, Option.bind_some, bne_self_eq_false, cond_false, dF, dT, cond_true]
    ·simp (disch := omega) only [lc, Option.bind_some, bne_self_eq_false, cond_false, dF, decide_eq_true (show t.2.2.1 > 1099511627776 by omega), cond_true]
  ·rw [a2B fun h => h1 h.1]
   by_cases h6 : t.2.1 < 0
   ·simp (disch := omega) only [lc, Option.bind_some, bne_self_eq_false, cond_false, dT, cond_true]
   ·simp (disch := omega) only [lc, Option.bind_some, bne_self_eq_false, cond_false, dF, decide_eq_true (show t.2.1 > 4 by omega), cond_true]
 ·rw [p5B h4] at lc
  rw [a2B fun h => h4 h.2.2.2.1]
  simp only [lc, Option.bind_some, s3A, cond_true]
end Go.Sq
namespace Go.Sq
open Go.Rx
def zT : TkT := (List.replicate 16 0, (0, (0, (0, zY))))
def e7C (h : Int) : Int := if 0 < h - 1 then h - 1 else 0
def u6A (l : List Int) (h : Int) : Int := if b5B l ≥ 100 then 4 else e7C h
def u7A (t : TkT) (l : List Int) : Int := if t.2.2.2.2.2.2.1 = false ∨ t.2.2.1.tmod 8 = 0 ∨ ¬ l7A l t.2.2.2.2.2.1 then 0 else 1
def h0A (t : TkT) (p : List Int) : List Int := m0A (g4A t.1 p)
noncomputable def n5A (t : TkT) (p : List Int) : FrT := (u7A t (h0A t p), (h0A t p, k9B (g4A t.1 p) (h0A t p)))
def m1A (t : TkT) (p : List Int) : FrT := (2, (h0A t p, List.replicate 16 0))
noncomputable def j7A (t : TkT) (f : FrT) : List Int := g7A f t.2.2.2.2.2.1
noncomputable def n9A (t : TkT) (p : List Int) : TkT × List Int × Int :=
 if okT t ∧ c6A p then
  if b5B (h0A t p) ≥ 100 ∨ t.2.1 > 0 then
   ((p, (u6A (h0A t p) t.2.1, (t.2.2.1 + 1, (0, (g9A t.2.2.2.2 (j7A t (n5A t p))).1)))), (j7A t (n5A t p), 0))
  else if t.2.2.2.1.tmod 8 = 0 then
   ((p, (u6A (h0A t p) t.2.1, (0, (t.2.2.2.1 + 1, (g9A t.2.2.2.2 (j7A t (m1A t p))).1)))), (j7A t (m1A t p), 0))
  else ((p, (u6A (h0A t p) t.2.1, (0, (t.2.2.2.1 + 1, (k6A t.2.2.2.2).1)))), ([], 0))
 else (zT, ([], 1))
theorem e2F {a b : List Int} (la : a.length = 16) (lb : b.length = 16) (ha : c6A a) (hb : c6A b) : r0B a b = some (g4A a b, (m0A (g4A a b), 0)) := by
 unfold r0B
 simp only [r6G la lb ha hb, Option.bind_some, beq_self_eq_true, cond_true, d4F (d9F a b) (t5C ha hb)]
theorem e3F {a b : List Int} (h : ¬ (c6A a ∧ c6A b)) : r0B a b = some (List.replicate 16 0, (List.replicate 6 0, 1)) := by
 unfold r0B
 simp only [r7G h, Option.bind_some, b1F, cond_false]
theorem s9G {s : SyT} {f : FrT} (ok : okY s) (hf : l8A f) (h : e2A f s.2.1) (k2 : f.1 = 2) :
  g9A s (g7A f s.2.1) = k8B (s.1, (f.2.1, (false, (true, s.2.2.2.2)))) := by
 have e := show g9A s (g7A f s.2.1) = _ from if_pos ok
 rw [e, x5E hf h, if_neg (by simp), if_neg (by rw [k2]; simp), if_pos k2]
theorem h9D {t : TkT} (ok : okT t) (p : List Int) : l8A (n5A t p) ∧ e2A (n5A t p) t.2.2.2.2.2.1 ∧ (n5A t p).1 ≠ 2 ∧ ((n5A t p).1 = 1 → t.2.2.2.2.2.2.1 = true) := by
 have lm := p4B (g4A t.1 p)
 refine ⟨⟨u5A _, s2G _ _⟩, ⟨ok.2.2.2.2.2.1, s5G (u5A _) lm, ?_⟩, ?_, ?_⟩
 ·show u7A t (h0A t p) = 0 ∨ u7A t (h0A t p) = 1 ∧ l7A (h0A t p) _ ∨ _
  unfold u7A
  split
  ·exact .inl rfl
  ·rename_i h
   refine .inr (.inl ⟨rfl, ?_⟩)
   exact Decidable.not_not.1 fun hn => h (.inr (.inr hn))
 ·show u7A t (h0A t p) ≠ 2
  unfold u7A; split <;> decide
 ·show u7A t (h0A t p) = 1 → _
  unfold u7A
  split
  ·intro h; exact absurd h (by decide)
  ·rename_i h
   intro _
   cases hl : t.2.2.2.2.2.2.1
   ·exact absurd (.inl hl) h
   ·rfl
theorem t6C {t : TkT} (ok : okT t) (p : List Int) : l8A (m1A t p) ∧ e2A (m1A t p) t.2.2.2.2.2.1 := by
 have lm := p4B (g4A t.1 p)
 exact ⟨⟨u5A _, List.length_replicate⟩, ⟨ok.2.2.2.2.2.1, s6G (u5A _) lm, .inr (.inr ⟨rfl, rfl⟩)⟩⟩
theorem z6D {t : TkT} (ok : okT t) (p : List Int) : g9A t.2.2.2.2 (j7A t (n5A t p)) = u4A (t.2.2.2.2.1, (h0A t p, (true, (false, t.2.2.2.2.2.2.2.2)))) (p1B (k9B (g4A t.1 p) (h0A t p)) (h0A t p)) := by
 obtain ⟨f1, f2, f3, f4⟩ := h9D ok p
 exact o4G ok.2.2.2.2 f1 f2 f3 f4
theorem z7D {t : TkT} (ok : okT t) (p : List Int) : g9A t.2.2.2.2 (j7A t (m1A t p)) = k8B (t.2.2.2.2.1, (h0A t p, (false, (true, t.2.2.2.2.2.2.2.2)))) := by
 obtain ⟨f1, f2⟩ := t6C ok p
 exact s9G ok.2.2.2.2 f1 f2 rfl
theorem z8D {t : TkT} {p : List Int} (ht : g1B t) (lp : p.length = 16) : m0B t p = some (n9A t p) := by
 have c := e0F ht
 by_cases hp : c6A t.1 ∧ c6A p
 ·have hd := e2F ht.1 lp hp.1 hp.2
  by_cases ok : okT t
  ·rw [h7D ok] at c
   have e := show n9A t p = _ from if_pos ⟨ok, hp.2⟩
   rw [e]
   have lm := p4B (g4A t.1 p)
   have ld := d6F (u5A (g4A t.1 p)) lm
   have sm := s7G (t5C hp.1 hp.2) (d9F t.1 p) (u5A (g4A t.1 p)) lm
   have nr := r6E (l := m0A (g4A t.1 p)) (p := t.2.2.2.2.2.1) (u5A _) ht.2.2
   have wS : IntKind.i64.wrap (t.2.2.1 + 1) = t.2.2.1 + 1 := a3A (by have := ok.2.1; omega) (by have := ok.2.1; omega)
   have wQ : IntKind.i64.wrap (t.2.2.2.1 + 1) = t.2.2.2.1 + 1 := a3A (by have := ok.2.2.1; omega) (by have := ok.2.2.1; omega)
   have wH : IntKind.i64.wrap (t.2.1 - 1) = t.2.1 - 1 := a3A (by have := ok.1; omega) (by have := ok.1; omega)
   obtain ⟨f1, f2, f3, f4⟩ := h9D ok p
   obtain ⟨q1, q2⟩ := t6C ok p
   have fw := v7D f1 ht.2.2 f2
   have fb := v0B f1 f2
   have fs := b3F ht.2 fb.1 fb.2
   have e0 : (g9A t.2.2.2.2 (g7A (n5A t p) t.2.2.2.2.2.1)).2.2 = 0 := by
    rw [show g9A t.2.2.2.2 (g7A (n5A t p) t.2.2.2.2.2.1) = _ from z6D ok p]; rfl
   have qw := v7D q1 ht.2.2 q2
   have qb := v0B q1 q2
   have qs := b3F ht.2 qb.1 qb.2
   have q0 : (g9A t.2.2.2.2 (g7A (m1A t p) t.2.2.2.2.2.1)).2.2 = 0 := by
    rw [show g9A t.2.2.2.2 (g7A (m1A t p) t.2.2.2.2.2.1) = _ from z7D ok p]; rfl
   have rs := n2G ht.2
   have r0 := (y3D ok.2.2.2.2).2
   have fr : ∀ k, u7A t (h0A t p) = k → (k, (m0A (g4A t.1 p), k9B (g4A t.1 p) (m0A (g4A t.1 p)))) = n5A t p := fun k hk => by subst hk; rfl
   have sr : (2, (m0A (g4A t.1 p), List.replicate 16 0)) = m1A t p := rfl
   unfold m0B
   simp only [hd, Option.bind_some, bne_self_eq_false, cond_false, c, ld]
   by_cases hl : b5B (m0A (g4A t.1 p)) ≥ 100
   ·have eh : u6A (h0A t p) t.2.1 = 4 := if_pos hl
    rw [if_pos (.inl hl)]
    by_cases k1 : t.2.2.2.2.2.2.1 = false
    ·simp only [decide_eq_true hl, cond_true, Option.bind_some, k1, Bool.not_false, sm, beq_self_eq_true, fr 0 (if_pos (.inl k1)), fw, fs, e0, wS, bne_self_eq_false, cond_false, eh]
     rfl
    ·have k1' : t.2.2.2.2.2.2.1 = true := by simpa using k1
     by_cases k2 : t.2.2.1.tmod 8 = 0
     ·simp only [decide_eq_true hl, cond_true, Option.bind_some, k1', Bool.not_true, f7B k2, sm, beq_self_eq_true, fr 0 (if_pos (.inr (.inl k2))), fw, fs, e0, wS, bne_self_eq_false, cond_false, eh]
      rfl
     ·by_cases k3 : l7A (m0A (g4A t.1 p)) t.2.2.2.2.2.1
      ·have ek : u7A t (h0A t p) = 1 := if_neg fun h => h.elim k1 fun h => h.elim k2 fun h => h k3
       simp only [decide_eq_true hl, cond_true, Option.bind_some, k1', Bool.not_true, l9A k2, nr, decide_eq_true k3, sm, beq_self_eq_true, fr 1 ek, fw, fs, e0, wS, bne_self_eq_false, cond_false, eh]
       rfl
      ·simp only [decide_eq_true hl, cond_true, Option.bind_some, k1', Bool.not_true, l9A k2, nr, decide_eq_false k3, Bool.not_false, sm, beq_self_eq_true, fr 0 (if_pos (.inr (.inr k3))), fw, fs, e0, wS, bne_self_eq_false, cond_false, eh]
       rfl
   ·have eh : u6A (h0A t p) t.2.1 = e7C t.2.1 := if_neg hl
    by_cases hh : t.2.1 > 0
    ·rw [if_pos (.inr hh)]
     by_cases k1 : t.2.2.2.2.2.2.1 = false
     ·simp only [decide_eq_false hl, decide_eq_true hh, cond_true, Option.bind_some, k1, Bool.not_false, sm, beq_self_eq_true, fr 0 (if_pos (.inl k1)), fw, fs, e0, wS, wH, bne_self_eq_false, cond_false, eh]
      rfl
     ·have k1' : t.2.2.2.2.2.2.1 = true := by simpa using k1
      by_cases k2 : t.2.2.1.tmod 8 = 0
      ·simp only [decide_eq_false hl, decide_eq_true hh, cond_true, Option.bind_some, k1', Bool.not_true, f7B k2, sm, beq_self_eq_true, fr 0 (if_pos (.inr (.inl k2))), fw, fs, e0, wS, wH, bne_self_eq_false, cond_false, eh]
       rfl
      ·by_cases k3 : l7A (m0A (g4A t.1 p)) t.2.2.2.2.2.1
       ·have ek : u7A t (h0A t p) = 1 := if_neg fun h => h.elim k1 fun h => h.elim k2 fun h => h k3
        simp only [decide_eq_false hl, decide_eq_true hh, cond_true, Option.bind_some, k1', Bool.not_true, l9A k2, nr, decide_eq_true k3, sm, beq_self_eq_true, fr 1 ek, fw, fs, e0, wS, wH, bne_self_eq_false, cond_false, eh]
        rfl
       ·simp only [decide_eq_false hl, decide_eq_true hh, cond_true, Option.bind_some, k1', Bool.not_true, l9A k2, nr, decide_eq_false k3, Bool.not_false, sm, beq_self_eq_true, fr 0 (if_pos (.inr (.inr k3))), fw, fs, e0, wS, wH, bne_self_eq_false, cond_false, eh]
        rfl
    ·rw [if_neg fun h => h.elim hl hh]
     by_cases hq : t.2.2.2.1.tmod 8 = 0
     ·rw [if_pos hq]
      simp only [decide_eq_false hl, decide_eq_false hh, cond_false, Option.bind_some, f7B hq, cond_true, sr, qw, qs, q0, wQ, wH, beq_self_eq_true, bne_self_eq_false, eh]
      rfl
     ·rw [if_neg hq]
      simp only [decide_eq_false hl, decide_eq_false hh, cond_false, Option.bind_some, l9A hq, rs, r0, wQ, wH, bne_self_eq_false, eh]
      rfl
  ·rw [a2B ok] at c
   have e : n9A t p = (zT, ([], 1)) := if_neg fun h => ok h.1
   rw [e]
   unfold m0B
   simp only [hd, Option.bind_some, bne_self_eq_false, cond_false, c, s3A, cond_true]
   rfl
 ·have hd := e3F hp
  have e : n9A t p = (zT, ([], 1)) := if_neg fun h => hp ⟨h.1.2.2.2.1, h.2⟩
  rw [e]
  unfold m0B
  simp only [hd, Option.bind_some, s3A, cond_true]
  rfl
end Go.Sq
namespace Go.Sq
open Go.Rx
abbrev t0G (t : TkT) : Bool := t.2.2.2.2.2.2.2.1
def w9A (t : TkT) (p : List Int) : Prop := b5B (h0A t p) ≥ 100 ∨ t.2.1 > 0
instance (t : TkT) (p : List Int) : Decidable (w9A t p) := by unfold w9A; infer_instance
def i0D (t : TkT) : Prop := (0 < t.2.2.2.1 → t0G t = true)
theorem t1G {l : List Int} {h : Int} (hh : 0 ≤ h ∧ h ≤ 4) : 0 ≤ u6A l h ∧ u6A l h ≤ 4 := by
 unfold u6A e7C; split
 ·omega
 ·split <;> omega
theorem e4F {t : TkT} {p : List Int} (ok : okT t) (hp : c6A p) (h : w9A t p) :
  n9A t p = ((p, (u6A (h0A t p) t.2.1, (t.2.2.1 + 1, (0, (g9A t.2.2.2.2 (j7A t (n5A t p))).1)))), (j7A t (n5A t p), 0)) := by
 have e := show n9A t p = _ from if_pos ⟨ok, hp⟩
 unfold w9A at h
 rw [e, if_pos h]
theorem z9D {t : TkT} {p : List Int} (ok : okT t) (hp : c6A p) (h : ¬ w9A t p) (hq : t.2.2.2.1.tmod 8 = 0) :
  n9A t p = ((p, (u6A (h0A t p) t.2.1, (0, (t.2.2.2.1 + 1, (g9A t.2.2.2.2 (j7A t (m1A t p))).1)))), (j7A t (m1A t p), 0)) := by
 have e := show n9A t p = _ from if_pos ⟨ok, hp⟩
 unfold w9A at h
 rw [e, if_neg h, if_pos hq]
theorem a0E {t : TkT} {p : List Int} (ok : okT t) (hp : c6A p) (h : ¬ w9A t p) (hq : t.2.2.2.1.tmod 8 ≠ 0) :
  n9A t p = ((p, (u6A (h0A t p) t.2.1, (0, (t.2.2.2.1 + 1, (k6A t.2.2.2.2).1)))), ([], 0)) := by
 have e := show n9A t p = _ from if_pos ⟨ok, hp⟩
 unfold w9A at h
 rw [e, if_neg h, if_neg hq]
theorem t2G {t : TkT} (ok : okT t) (p : List Int) : okY (g9A t.2.2.2.2 (j7A t (n5A t p))).1 ∧ s2A (g9A t.2.2.2.2 (j7A t (n5A t p))).1 ∧ (g9A t.2.2.2.2 (j7A t (n5A t p))).2.2 = 0 ∧
  (g9A t.2.2.2.2 (j7A t (n5A t p))).1.2.2.1 = true ∧ (g9A t.2.2.2.2 (j7A t (n5A t p))).1.2.2.2.1 = false := by
 rw [z6D ok p]
 exact ⟨g7D (e1C _ _) (p4B _) (fun h => Bool.false_ne_true h.2), g8D (u5A _), rfl, rfl, rfl⟩
theorem e5F {t : TkT} (ok : okT t) (p : List Int) : okY (g9A t.2.2.2.2 (j7A t (m1A t p))).1 ∧ s2A (g9A t.2.2.2.2 (j7A t (m1A t p))).1 ∧ (g9A t.2.2.2.2 (j7A t (m1A t p))).2.2 = 0 ∧
  (g9A t.2.2.2.2 (j7A t (m1A t p))).1.2.2.1 = false ∧ (g9A t.2.2.2.2 (j7A t (m1A t p))).1.2.2.2.1 = true := by
 rw [z7D ok p]
 exact ⟨g7D (k7B _ _) (p4B _) (fun h => Bool.false_ne_true h.1), g8D (u5A _), rfl, rfl, rfl⟩
theorem t3G {t : TkT} (ht : g1B t) (ok : okT t) (hi : i0D t) (hq : t.2.2.2.1.tmod 8 ≠ 0) : okY (k6A t.2.2.2.2).1 ∧ s2A (k6A t.2.2.2.2).1 ∧ (k6A t.2.2.2.2).2.2 = 0 ∧
  (k6A t.2.2.2.2).1.2.2.1 = false ∧ (k6A t.2.2.2.2).1.2.2.2.1 = true := by
 have f := o2G ok.2.2.2.2
 have h0 : 0 < t.2.2.2.1 := by
  have := ok.2.2.1.1
  by_cases h : t.2.2.2.1 = 0
  ·rw [h] at hq; exact absurd rfl hq
  ·omega
 exact ⟨(y3D ok.2.2.2.2).1, n4G ht.2, f.1, f.2.2.2.1, f.2.2.1.trans (hi h0)⟩
theorem t4G {t : TkT} {p : List Int} (ht : g1B t) (ok : okT t) (hi : i0D t) (hp : c6A p) (lp : p.length = 16) (hs : t.2.2.1 < 1099511627776) (hq : t.2.2.2.1 < 1099511627776) :
  g1B (n9A t p).1 ∧ okT (n9A t p).1 ∧ i0D (n9A t p).1 ∧ (n9A t p).2.2 = 0 := by
 have hr := t1G (l := h0A t p) ok.1
 have o2 := ok.2.1
 have o3 := ok.2.2.1
 by_cases h : w9A t p
 ·rw [e4F ok hp h]
  obtain ⟨a, b, c, d, e⟩ := t2G ok p
  exact ⟨⟨lp, b⟩, ⟨hr, ⟨by show 0 ≤ t.2.2.1 + 1; omega, by show t.2.2.1 + 1 ≤ _; omega⟩, ⟨Int.le_refl _, by show (0 : Int) ≤ _; omega⟩, hp, a⟩, fun h => absurd h (Int.lt_irrefl 0), rfl⟩
 ·by_cases h8 : t.2.2.2.1.tmod 8 = 0
  ·rw [z9D ok hp h h8]
   obtain ⟨a, b, c, d, e⟩ := e5F ok p
   exact ⟨⟨lp, b⟩, ⟨hr, ⟨Int.le_refl _, by show (0 : Int) ≤ _; omega⟩, ⟨by show 0 ≤ t.2.2.2.1 + 1; omega, by show t.2.2.2.1 + 1 ≤ _; omega⟩, hp, a⟩, fun _ => e, rfl⟩
  ·rw [a0E ok hp h h8]
   obtain ⟨a, b, c, d, e⟩ := t3G ht ok hi h8
   exact ⟨⟨lp, b⟩, ⟨hr, ⟨Int.le_refl _, by show (0 : Int) ≤ _; omega⟩, ⟨by show 0 ≤ t.2.2.2.1 + 1; omega, by show t.2.2.2.1 + 1 ≤ _; omega⟩, hp, a⟩, fun _ => e, rfl⟩
def sT : TkT := (List.replicate 16 0, (0, (0, (0, sY))))
theorem e6F : x3C = some sT := rfl
theorem t5G (t : TkT) : x2C t = some (t.1, (0, (0, (0, sY)))) := rfl
theorem i1D : c6A zP := fun i _ => by unfold zP; rw [n3A]; omega
theorem e7F : g1B sT := ⟨List.length_replicate, o0G⟩
theorem i2D : okT sT := ⟨by decide, by decide, by decide, i1D, o1G⟩
theorem t6G : i0D sT := fun h => absurd h (Int.lt_irrefl 0)
theorem t7G : g4A zP zP = zP := by
 have hb : ∀ n, o7A zP zP n = 0 := fun n => by unfold o7A zP; split <;> rw [n3A]
 have hw : ∀ n, n1A zP zP n = 0 := fun n => by unfold n1A; rw [hb, Int.zero_mul]; decide
 have hd : ∀ k n, s4A zP zP k n = 0 := fun k n => by
  induction n with
  | zero => rfl
  | succ n ih => rw [s4A, ih, hw, Int.zero_mul]; rfl
 rw [show (zP : List Int) = a5A (fun _ => 0) 16 from w8A 16]
 rw [show (a5A (fun _ => 0) 16 : List Int) = zP from (w8A 16).symm]
 unfold g4A
 refine (v2B fun k _ => ?_).trans (w8A 16).symm
 show rnd 28 (s4A zP zP k 32) = 0
 rw [hd]; decide
theorem t8G : m0A zP = List.replicate 6 0 := by
 have hs : ∀ a n, sqs zP a n = 0 := fun a n => by
  induction n with
  | zero => rfl
  | succ n ih => rw [sqs, ih, show zP.getD (a + n) 0 = 0 from n3A _ _]; rfl
 rw [w8A 6]
 exact v2B fun b _ => by unfold o6A j6A; rw [hs]; rfl
theorem e8F {t : TkT} (h : t.1 = zP) : h0A t zP = List.replicate 6 0 := by unfold h0A; rw [h, t7G, t8G]
theorem t9G : b5B (List.replicate 6 0) = 0 := by decide
theorem e9F {t : TkT} (h : t.1 = zP) (hh : t.2.1 = 0) : ¬ w9A t zP := fun hs => by
 unfold w9A at hs
 rw [e8F h, t9G, hh] at hs
 omega
end Go.Sq
namespace Go.Sq
open Go.Rx
theorem u0G : ([0, 0, 0, 0, 0, 0, 0, 0, 0, 0, 0, 0, 0, 0, 0, 0] : List Int) = zP := rfl
theorem u1G {t : TkT} (ok : okT t) (p : List Int) : bytes (j7A t (n5A t p)) ∧ b3A (j7A t (n5A t p)) := by
 obtain ⟨f1, f2, _⟩ := h9D ok p
 exact v0B f1 f2
theorem f0F {t : TkT} (ok : okT t) (p : List Int) : bytes (j7A t (m1A t p)) ∧ b3A (j7A t (m1A t p)) := by
 obtain ⟨f1, f2⟩ := t6C ok p
 exact v0B f1 f2
theorem u2G {t : TkT} (ok : okT t) (p : List Int) : m1B (j7A t (m1A t p)) = some (2, 0) := by
 obtain ⟨f1, f2⟩ := t6C ok p
 have b := f0F ok p
 rw [j8G b.1 b.2, show s9C (j7A t (m1A t p)) = _ from j9G f1 f2]
 rfl
theorem u3G : z7C = some true := by
 have s1 := z8D e7F g6D
 have n1 : ¬ w9A sT zP := e9F rfl rfl
 have e1 := z9D i2D i1D n1 (by decide)
 have nx := t4G e7F i2D t6G i1D g6D (by decide) (by decide)
 have k := u2G i2D zP
 have sl := e5F i2D zP
 have hz : u6A (h0A sT zP) sT.2.1 = 0 := by
  rw [e8F (t := sT) rfl]; rfl
 rw [hz] at e1
 generalize hr : n9A sT zP = r at s1 nx e1
 obtain ⟨u, b, er⟩ := r
 have eu : u = (zP, (0, (0, (sT.2.2.2.1 + 1, (g9A sT.2.2.2.2 (j7A sT (m1A sT zP))).1)))) := congrArg (·.1) e1
 have eb : b = j7A sT (m1A sT zP) := congrArg (·.2.1) e1
 have ee : er = 0 := congrArg (·.2.2) e1
 have u1 : u.1 = zP := by rw [eu]
 have u2 : u.2.1 = 0 := by rw [eu]
 have u3 : u.2.2.2.1 = 1 := by rw [eu]; rfl
 have u4 : u.2.2.2.2.2.2.2.1 = true := by rw [eu]; exact sl.2.2.2.2
 subst eb ee
 clear eu e1 hr
 have s2 := z8D nx.1 g6D
 have n2 := e9F u1 u2
 have e2 := a0E nx.2.1 i1D n2 (by rw [u3]; decide)
 rw [e2] at s2
 unfold z7C
 simp only [u0G, e6F, Option.bind_some, s1, k, s2, beq_self_eq_true, cond_true, u3, u4]
 rfl
def f1F (l : List (List Int)) : Prop := (∀ i, i < l.length → c6A (l.getD i zP)) ∧ l.length ≤ 40
instance (l : List (List Int)) : Decidable (f1F l) := by unfold f1F; infer_instance
end Go.Sq
namespace Go.Sq
open Go.Rx
end Go.Sq
namespace Go.Sq
open Go.Rx
end Go.Sq
namespace Go.Sq
open Go.Rx
end Go.Sq
namespace Go.Sq
open Go.Rx
theorem u4G {t : TkT} {p : List Int} (ht : g1B t) (lp : p.length = 16) : z4B t p = some (n9A t p) := by
 have c := e1F ht
 by_cases ok : okT t
 ·rw [h7D ok] at c
  by_cases hpp : c6A p
  ·have hp : c6A t.1 ∧ c6A p := ⟨ok.2.2.2.1, hpp⟩
   have hd := z3D hp.1 hp.2
   have e := show n9A t p = _ from if_pos ⟨ok, hp.2⟩
   rw [e]
   have lm := p4B (g4A t.1 p)
   have ms := d5F (t5C hp.1 hp.2)
   have ld := d7F (u5A (g4A t.1 p)) lm
   have sm := s8G (t5C hp.1 hp.2) (u5A (g4A t.1 p)) lm
   have nr := r7E (l := m0A (g4A t.1 p)) (p := t.2.2.2.2.2.1) (u5A _) ht.2.2
   have wS : IntKind.i64.wrap (t.2.2.1 + 1) = t.2.2.1 + 1 := a3A (by have := ok.2.1; omega) (by have := ok.2.1; omega)
   have wQ : IntKind.i64.wrap (t.2.2.2.1 + 1) = t.2.2.2.1 + 1 := a3A (by have := ok.2.2.1; omega) (by have := ok.2.2.1; omega)
   have wH : IntKind.i64.wrap (t.2.1 - 1) = t.2.1 - 1 := a3A (by have := ok.1; omega) (by have := ok.1; omega)
   have lh : (if t.2.1 - 1 < 0 then 0 else t.2.1 - 1) = e7C t.2.1 := by unfold e7C; split <;> split <;> omega
   obtain ⟨f1, f2, f3, f4⟩ := h9D ok p
   obtain ⟨q1, q2⟩ := t6C ok p
   have fw := v8D f1 ht.2.2 f2
   have fb := v0B f1 f2
   have fs := b9F ht.2 fb.1 fb.2
   have e0 : (g9A t.2.2.2.2 (g7A (n5A t p) t.2.2.2.2.2.1)).2.2 = 0 := by
    rw [show g9A t.2.2.2.2 (g7A (n5A t p) t.2.2.2.2.2.1) = _ from z6D ok p]; rfl
   have qw := v8D q1 ht.2.2 q2
   have qb := v0B q1 q2
   have qs := b9F ht.2 qb.1 qb.2
   have q0 : (g9A t.2.2.2.2 (g7A (m1A t p) t.2.2.2.2.2.1)).2.2 = 0 := by
    rw [show g9A t.2.2.2.2 (g7A (m1A t p) t.2.2.2.2.2.1) = _ from z7D ok p]; rfl
   have rs := o8G ht.2
   have r0 := (y3D ok.2.2.2.2).2
   have fr : ∀ k, u7A t (h0A t p) = k → (k, (m0A (g4A t.1 p), k9B (g4A t.1 p) (m0A (g4A t.1 p)))) = n5A t p := fun k hk => by subst hk; rfl
   have sr : (2, (m0A (g4A t.1 p), List.replicate 16 0)) = m1A t p := rfl
   unfold z4B
   simp only [hd, Option.bind_some, bne_self_eq_false, cond_false, c, ms, ld]
   by_cases hl : b5B (m0A (g4A t.1 p)) ≥ 100
   ·have eh : u6A (h0A t p) t.2.1 = 4 := if_pos hl
    rw [if_pos (.inl hl)]
    by_cases k1 : t.2.2.2.2.2.2.1 = false
    ·simp only [decide_eq_true hl, cond_true, Option.bind_some, k1, Bool.not_false, Bool.not_true, sm, beq_self_eq_true, fr 0 (if_pos (.inl k1)), fw, fs, e0, wS, bne_self_eq_false, cond_false, eh]
     rfl
    ·have k1' : t.2.2.2.2.2.2.1 = true := by simpa using k1
     by_cases k2 : t.2.2.1.tmod 8 = 0
     ·simp only [decide_eq_true hl, cond_true, Option.bind_some, k1', Bool.not_true, f7B k2, sm, beq_self_eq_true, fr 0 (if_pos (.inr (.inl k2))), fw, fs, e0, wS, bne_self_eq_false, cond_false, eh]
      rfl
     ·by_cases k3 : l7A (m0A (g4A t.1 p)) t.2.2.2.2.2.1
      ·have ek : u7A t (h0A t p) = 1 := if_neg fun h => h.elim k1 fun h => h.elim k2 fun h => h k3
       simp only [decide_eq_true hl, cond_true, Option.bind_some, k1', Bool.not_true, l9A k2, nr, decide_eq_true k3, sm, beq_self_eq_true, fr 1 ek, fw, fs, e0, wS, bne_self_eq_false, cond_false, eh]
       rfl
      ·simp only [decide_eq_true hl, cond_true, Option.bind_some, k1', Bool.not_true, l9A k2, nr, decide_eq_false k3, Bool.not_false, sm, beq_self_eq_true, fr 0 (if_pos (.inr (.inr k3))), fw, fs, e0, wS, bne_self_eq_false, cond_false, eh]
       rfl
   ·have eh : u6A (h0A t p) t.2.1 = e7C t.2.1 := if_neg hl
    by_cases hh : t.2.1 > 0
    ·rw [if_pos (.inr hh)]
     by_cases k1 : t.2.2.2.2.2.2.1 = false
     ·simp only [decide_eq_false hl, decide_eq_true hh, cond_true, Option.bind_some, k1, Bool.not_false, Bool.not_true, sm, beq_self_eq_true, fr 0 (if_pos (.inl k1)), fw, fs, e0, wS, wH, bne_self_eq_false, cond_false, eh, lh]
      rfl
     ·have k1' : t.2.2.2.2.2.2.1 = true := by simpa using k1
      by_cases k2 : t.2.2.1.tmod 8 = 0
      ·simp only [decide_eq_false hl, decide_eq_true hh, cond_true, Option.bind_some, k1', Bool.not_true, f7B k2, sm, beq_self_eq_true, fr 0 (if_pos (.inr (.inl k2))), fw, fs, e0, wS, wH, bne_self_eq_false, cond_false, eh, lh]
       rfl
      ·by_cases k3 : l7A (m0A (g4A t.1 p)) t.2.2.2.2.2.1
       ·have ek : u7A t (h0A t p) = 1 := if_neg fun h => h.elim k1 fun h => h.elim k2 fun h => h k3
        simp only [decide_eq_false hl, decide_eq_true hh, cond_true, Option.bind_some, k1', Bool.not_true, l9A k2, nr, decide_eq_true k3, sm, beq_self_eq_true, fr 1 ek, fw, fs, e0, wS, wH, bne_self_eq_false, cond_false, eh, lh]
        rfl
       ·simp only [decide_eq_false hl, decide_eq_true hh, cond_true, Option.bind_some, k1', Bool.not_true, l9A k2, nr, decide_eq_false k3, Bool.not_false, sm, beq_self_eq_true, fr 0 (if_pos (.inr (.inr k3))), fw, fs, e0, wS, wH, bne_self_eq_false, cond_false, eh, lh]
        rfl
    ·rw [if_neg fun h => h.elim hl hh]
     by_cases hq : t.2.2.2.1.tmod 8 = 0
     ·rw [if_pos hq]
      simp only [decide_eq_false hl, decide_eq_false hh, cond_false, Option.bind_some, f7B hq, Bool.not_true, sr, qw, qs, q0, wQ, wH, bne_self_eq_false, eh, lh]
      rfl
     ·rw [if_neg hq]
      simp only [decide_eq_false hl, decide_eq_false hh, cond_false, Option.bind_some, l9A hq, Bool.not_false, cond_true, rs, r0, wQ, wH, eh, lh]
  ·have hd := z4D (a := t.1) (b := p) (fun h => hpp h.2)
   have e : n9A t p = (zT, ([], 1)) := if_neg fun h => hpp h.2
   rw [e]
   unfold z4B
   simp only [hd, Option.bind_some, c, bne_self_eq_false, cond_false, s3A, cond_true]
   rfl
 ·rw [a2B ok] at c
  have e : n9A t p = (zT, ([], 1)) := if_neg fun h => ok h.1
  rw [e]
  have hd : ∃ r, m2B t.1 p = some r := by
   by_cases hp : c6A t.1 ∧ c6A p
   ·exact ⟨_, z3D hp.1 hp.2⟩
   ·exact ⟨_, z4D hp⟩
  obtain ⟨r, hd⟩ := hd
  unfold z4B
  simp only [hd, Option.bind_some, c, s3A, cond_true]
  rfl
end Go.Sq
namespace Go.Sq
open Go.Rx
theorem u5G {a b : List Int} (la : a.length = 16) (lb : b.length = 16) : b7D a b = some (if c6A a ∧ c6A b then (decide (b5B (m0A (g4A a b)) ≥ 100), 0) else (false, 1)) := by
 unfold b7D
 by_cases h : c6A a ∧ c6A b
 ·rw [if_pos h]
  simp only [e2F la lb h.1 h.2, Option.bind_some, beq_self_eq_true, cond_true, d6F (u5A _) (p4B _)]
 ·rw [if_neg h]
  simp only [e3F h, Option.bind_some, b1F, cond_false]
theorem u6G {a b : List Int} : b8D a b = some (if c6A a ∧ c6A b then (decide (b5B (m0A (g4A a b)) ≥ 100), 0) else (false, 1)) := by
 unfold b8D
 by_cases h : c6A a ∧ c6A b
 ·rw [if_pos h]
  simp only [z3D h.1 h.2, Option.bind_some, bne_self_eq_false, cond_false, d5F (t5C h.1 h.2), d7F (u5A _) (p4B _)]
 ·rw [if_neg h]
  simp only [z4D h, Option.bind_some, s3A, cond_true]
theorem u7G (t : TkT) : q1D t = some (t.1, (0, (0, (0, sY)))) := rfl
theorem u8G : q2D = some sT := rfl
theorem u9G {t : TkT} {p : List Int} : bytes (n9A t p).2.1 := by
 by_cases h : okT t ∧ c6A p
 ·by_cases hs : w9A t p
  ·rw [e4F h.1 h.2 hs]; exact (u1G h.1 p).1
  ·by_cases h8 : t.2.2.2.1.tmod 8 = 0
   ·rw [z9D h.1 h.2 hs h8]; exact (f0F h.1 p).1
   ·rw [a0E h.1 h.2 hs h8]; exact fun x hx => nomatch hx
 ·rw [show n9A t p = (zT, ([], 1)) from if_neg h]; exact fun x hx => nomatch hx
theorem v0G {t : TkT} {p : List Int} (ht : g1B t) (lp : p.length = 16) : b9D t p = some true := by
 have s1 := z8D ht lp
 have s2 := u4G ht lp
 have l1 := u5G ht.1 lp
 have l2 := u6G (a := t.1) (b := p)
 have c1 := e0F ht
 have c2 := e1F ht
 have sb := u9G (t := t) (p := p)
 have se := (w7E sb sb).trans (decide_eq_true rfl)
 unfold b9D
 simp only [u3G, Option.bind_some, Bool.not_true, cond_false, s1, s2, l1, l2, c1, c2, cond_true, beq_self_eq_true, Bool.and_self, se, t5G, u7G, e6F, u8G]
end Go.Sq
namespace Go.Sq
open Go.Rx
end Go.Sq
namespace Go.Sq
open Go.Rx
abbrev f2F : Ty := .pair (.arr 16 (.int .i64)) (.pair (.int .i64) (.pair (.int .i64) (.pair (.int .i64) b7F)))
theorem v1G {t : TkT} (h : wf f2F t) : g1B t := ⟨h.1.1, o5G h.2.2.2.2⟩
theorem w6F (x : f5A [(true, f2F), (true, .arr 16 (.int .i64))]) (h : wfL _ x) : b9D x.1 x.2 = some true := v0G (v1G h.1) h.2.1
end Go.Sq
