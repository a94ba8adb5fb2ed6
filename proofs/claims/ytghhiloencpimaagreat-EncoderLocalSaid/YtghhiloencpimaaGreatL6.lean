/- Parts of a proof: evaluation of Go code over typed values, and what it computes. -/
import Derived.Test.YtghhiloencpimaaGreatL5
set_option linter.unusedSimpArgs false
set_option linter.unusedVariables false
set_option linter.unusedSectionVars false
namespace Go.Sq
open Go.Rx
def valB (B : Int) : List Int → Int
 | [] => 0
 | x :: l => x + B * valB B l
def wrd (B : Int) (l : List Int) : Prop := ∀ j, 0 ≤ l.getD j 0 ∧ l.getD j 0 < B
theorem wrd_tail {B : Int} {x : Int} {l : List Int} (h : wrd B (x :: l)) : wrd B l := fun j => h (j + 1)
theorem val_set (B : Int) : ∀ (l : List Int) (j : Nat) (v : Int), j < l.length → valB B (l.set j v) = valB B l + (v - l.getD j 0) * B ^ j
 | [], _, _, h => absurd h (Nat.not_lt_zero _)
 | x :: l, 0, v, _ => by
  show v + B * valB B l = x + B * valB B l + (v - x) * B ^ 0
  rw [Int.pow_zero]; omega
 | x :: l, j + 1, v, h => by
  have ih := val_set B l j v (Nat.lt_of_succ_lt_succ h)
  show x + B * valB B (l.set j v) = x + B * valB B l + (v - l.getD j 0) * B ^ (j + 1)
  rw [ih, Int.mul_add, Int.pow_succ, ← Int.mul_assoc, ← Int.mul_assoc, Int.mul_comm B (v - l.getD j 0), Int.mul_assoc, Int.mul_assoc, Int.mul_comm B (B ^ j)]
  omega
theorem val_take (B : Int) : ∀ (l : List Int) (k : Nat), k < l.length → valB B (l.take (k + 1)) = valB B (l.take k) + l.getD k 0 * B ^ k
 | [], _, h => absurd h (Nat.not_lt_zero _)
 | x :: l, 0, _ => by
  show x + B * valB B (l.take 0) = 0 + x * B ^ 0
  rw [List.take_zero, Int.pow_zero]; show x + B * 0 = _; omega
 | x :: l, k + 1, h => by
  have ih := val_take B l k (Nat.lt_of_succ_lt_succ h)
  show x + B * valB B (l.take (k + 1)) = x + B * valB B (l.take k) + l.getD k 0 * B ^ (k + 1)
  rw [ih, Int.mul_add, Int.pow_succ, ← Int.mul_assoc, Int.mul_comm B (l.getD k 0), Int.mul_assoc, Int.mul_comm B (B ^ k)]
  omega
theorem val_zeros (B : Int) : ∀ n, valB B (List.replicate n 0) = 0
 | 0 => rfl
 | n + 1 => by
  show 0 + B * valB B (List.replicate n 0) = 0
  rw [val_zeros B n]; omega
theorem val_range {B : Int} (hB : 0 < B) : ∀ (l : List Int), wrd B l → 0 ≤ valB B l ∧ valB B l < B ^ l.length
 | [], _ => ⟨Int.le_refl _, by show (0 : Int) < B ^ 0; rw [Int.pow_zero]; omega⟩
 | x :: l, h => by
  obtain ⟨h1, h2⟩ := val_range hB l (wrd_tail h)
  have h0 := h 0
  have h0 : 0 ≤ x ∧ x < B := h0
  show 0 ≤ x + B * valB B l ∧ x + B * valB B l < B ^ (l.length + 1)
  rw [Int.pow_succ]
  have a1 : 0 ≤ B * valB B l := Int.mul_nonneg (Int.le_of_lt hB) h1
  have a2 : B * (valB B l + 1) ≤ B * B ^ l.length := Int.mul_le_mul_of_nonneg_left h2 (Int.le_of_lt hB)
  rw [Int.mul_add, Int.mul_comm B (B ^ l.length)] at a2
  omega
def rowS (B : Int) (x : List Int) (a : Int) (i : Nat) (out : List Int) : Nat → List Int × Int
 | 0 => (out, 0)
 | k + 1 => ((rowS B x a i out k).1.set (i + k) ((a * x.getD k 0 + (rowS B x a i out k).2 + (rowS B x a i out k).1.getD (i + k) 0) % B), (a * x.getD k 0 + (rowS B x a i out k).2 + (rowS B x a i out k).1.getD (i + k) 0) / B)
theorem axo_range {B a b c d : Int} (ha : 0 ≤ a ∧ a < B) (hb : 0 ≤ b ∧ b < B) (hc : 0 ≤ c ∧ c < B) (hd : 0 ≤ d ∧ d < B) : 0 ≤ a * b ∧ 0 ≤ a * b + c + d ∧ a * b + c + d < B * B := by
 have h1 : 0 ≤ a * b := Int.mul_nonneg ha.1 hb.1
 have h2 : a * b ≤ (B - 1) * (B - 1) := Int.mul_le_mul (by omega) (by omega) hb.1 (by omega)
 have h3 : (B - 1) * (B - 1) = B * B - B - B + 1 := by
  rw [Int.sub_mul, Int.mul_sub]; omega
 omega
structure RowInv (B : Int) (x : List Int) (a : Int) (i : Nat) (out : List Int) (k : Nat) : Prop where
 len : (rowS B x a i out k).1.length = out.length
 wr : wrd B (rowS B x a i out k).1
 ov : 0 ≤ (rowS B x a i out k).2 ∧ (rowS B x a i out k).2 < B
 val : valB B (rowS B x a i out k).1 + (rowS B x a i out k).2 * B ^ (i + k) = valB B out + a * valB B (x.take k) * B ^ i
 rest : ∀ j, i + k ≤ j → (rowS B x a i out k).1.getD j 0 = out.getD j 0
theorem wrd_set {B : Int} {l : List Int} (h : wrd B l) {j : Nat} {v : Int} (hj : j < l.length) (hv : 0 ≤ v ∧ v < B) : wrd B (l.set j v) := fun k => by
 rw [set_getD _ _ _ _ _ hj]
 split
 ·exact hv
 ·exact h k
theorem row_inv {B : Int} (hB : 0 < B) {x : List Int} (hx : wrd B x) {a : Int} (ha : 0 ≤ a ∧ a < B) {i : Nat} {out : List Int} (ho : wrd B out) (hl : i + x.length ≤ out.length) : ∀ k, k ≤ x.length → RowInv B x a i out k
 | 0, _ => ⟨rfl, ho, ⟨Int.le_refl _, hB⟩, by show valB B out + 0 * _ = valB B out + a * 0 * _; rw [Int.zero_mul, Int.mul_zero, Int.zero_mul], fun _ _ => rfl⟩
 | k + 1, hk => by
  obtain ⟨h1, h2, h3, h4, h5⟩ := row_inv hB hx ha ho hl k (by omega)
  have hxk := hx k
  have hok := h2 (i + k)
  have r := axo_range ha hxk h3 hok
  have hlt : i + k < (rowS B x a i out k).1.length := by omega
  have m1 := Int.emod_nonneg (a * x.getD k 0 + (rowS B x a i out k).2 + (rowS B x a i out k).1.getD (i + k) 0) (show B ≠ 0 by omega)
  have m2 := Int.emod_lt_of_pos (a * x.getD k 0 + (rowS B x a i out k).2 + (rowS B x a i out k).1.getD (i + k) 0) hB
  have m3 := Int.emod_add_mul_ediv (a * x.getD k 0 + (rowS B x a i out k).2 + (rowS B x a i out k).1.getD (i + k) 0) B
  have d1 := Int.ediv_nonneg r.2.1 (Int.le_of_lt hB)
  have d2 := Int.ediv_lt_of_lt_mul hB r.2.2
  refine ⟨by simp only [rowS, List.length_set, h1], wrd_set h2 hlt ⟨m1, m2⟩, ⟨d1, d2⟩, ?_, fun j hj => ?_⟩
  ·simp only [rowS]
   rw [val_set B _ _ _ hlt, val_take B x k (by omega)]
   generalize (rowS B x a i out k).1.getD (i + k) 0 = o at *
   generalize (rowS B x a i out k).2 = c at *
   generalize valB B (rowS B x a i out k).1 = V at *
   generalize x.getD k 0 = y at *
   generalize valB B (x.take k) = W at *
   generalize hq : (a * y + c + o) / B = q at *
   generalize hm : (a * y + c + o) % B = m at *
   have e1 : q * B ^ (i + (k + 1)) = B * q * B ^ (i + k) := by
    rw [show i + (k + 1) = (i + k) + 1 from rfl, Int.pow_succ, Int.mul_comm (B ^ (i + k)) B, ← Int.mul_assoc, Int.mul_comm q B]
   have e2 : a * (W + y * B ^ k) * B ^ i = a * W * B ^ i + a * y * B ^ (i + k) := by
    rw [Int.mul_add, Int.add_mul, ← Int.mul_assoc, Int.mul_assoc (a * y), ← Int.pow_add, Nat.add_comm k i]
   rw [e1, e2, Int.add_assoc, ← Int.add_mul, show m - o + B * q = a * y + c by omega, Int.add_mul]
   omega
  ·show ((rowS B x a i out k).1.set (i + k) _).getD j 0 = _
   rw [set_getD _ _ _ _ _ hlt, if_neg (by omega)]
   exact h5 j (by omega)
def sqS (B : Int) (x : List Int) : Nat → List Int
 | 0 => List.replicate (2 * x.length) 0
 | i + 1 => (rowS B x (x.getD i 0) i (sqS B x i) x.length).1.set (i + x.length) ((rowS B x (x.getD i 0) i (sqS B x i) x.length).1.getD (i + x.length) 0 + (rowS B x (x.getD i 0) i (sqS B x i) x.length).2)
structure SqInv (B : Int) (x : List Int) (i : Nat) : Prop where
 len : (sqS B x i).length = 2 * x.length
 wr : wrd B (sqS B x i)
 val : valB B (sqS B x i) = valB B (x.take i) * valB B x
 rest : ∀ j, i + x.length ≤ j → (sqS B x i).getD j 0 = 0
theorem sq_inv {B : Int} (hB : 0 < B) {x : List Int} (hx : wrd B x) : ∀ i, i ≤ x.length → SqInv B x i
 | 0, _ => ⟨List.length_replicate, fun j => by rw [show (sqS B x 0).getD j 0 = 0 from rep0 _ _]; omega, by show valB B (List.replicate _ 0) = 0 * _; rw [val_zeros, Int.zero_mul], fun j _ => rep0 _ _⟩
 | i + 1, hi => by
  obtain ⟨h1, h2, h3, h4⟩ := sq_inv hB hx i (by omega)
  obtain ⟨r1, r2, r3, r4, r5⟩ := row_inv hB hx (hx i) (i := i) h2 (by omega) x.length (Nat.le_refl _)
  have z : (rowS B x (x.getD i 0) i (sqS B x i) x.length).1.getD (i + x.length) 0 = 0 := (r5 _ (Nat.le_refl _)).trans (h4 _ (Nat.le_refl _))
  have hlt : i + x.length < (rowS B x (x.getD i 0) i (sqS B x i) x.length).1.length := by omega
  refine ⟨by simp only [sqS, List.length_set, r1, h1], wrd_set r2 hlt (by rw [z]; omega), ?_, fun j hj => ?_⟩
  ·simp only [sqS]
   rw [val_set B _ _ _ hlt, z, val_take B x i (by omega)]
   rw [List.take_length] at r4
   rw [Int.zero_add, Int.sub_zero, r4, h3, Int.add_mul, Int.mul_assoc (x.getD i 0), Int.mul_comm (valB B x), ← Int.mul_assoc]
  ·simp only [sqS]
   rw [set_getD _ _ _ _ _ hlt, if_neg (by omega), r5 j (by omega), h4 j (by omega)]
def sqL (B : Int) (x : List Int) : List Int := sqS B x x.length
theorem sqL_inv {B : Int} (hB : 0 < B) {x : List Int} (hx : wrd B x) : (sqL B x).length = 2 * x.length ∧ wrd B (sqL B x) ∧ valB B (sqL B x) = valB B x * valB B x := by
 obtain ⟨h1, h2, h3, h4⟩ := sq_inv hB hx x.length (Nat.le_refl _)
 rw [List.take_length] at h3
 exact ⟨h1, h2, h3⟩
theorem and32 {a : Int} (h : 0 ≤ a) (h' : a < 18446744073709551616) : bitsI .and .u64 a 4294967295 = a % 4294967296 := by
 obtain ⟨n, rfl⟩ := Int.eq_ofNat_of_zero_le h
 have := and_nat64 (a := n) (b := 4294967295) (by omega) (by omega)
 rw [show (4294967295 : Nat) = 2 ^ 32 - 1 from rfl, Nat.and_two_pow_sub_one_eq_mod] at this
 exact this
theorem shr32 {a : Int} (h : 0 ≤ a) : shrI .u64 a 32 = a / 4294967296 := by
 have : shrI .u64 a 32 = a.fdiv 4294967296 := rfl
 rw [this, Int.fdiv_eq_ediv_of_nonneg _ (by omega)]
theorem mul_nn {a b A B : Int} (h : 0 ≤ a ∧ a ≤ A) (h' : 0 ≤ b ∧ b ≤ B) : 0 ≤ a * b ∧ a * b ≤ A * B :=
 ⟨Int.mul_nonneg h.1 h'.1, Int.mul_le_mul h.2 h'.2 h'.1 (by omega)⟩
theorem Mul64_eq {a b : Int} (ha : 0 ≤ a ∧ a < 18446744073709551616) (hb : 0 ≤ b ∧ b < 18446744073709551616) : ∃ hi lo, g_math_bits_Mul64 a b = some (hi, lo) ∧ hi * 18446744073709551616 + lo = a * b ∧ (0 ≤ hi ∧ hi < 18446744073709551616) ∧ (0 ≤ lo ∧ lo < 18446744073709551616) := by
 have e1 := and32 ha.1 ha.2
 have e2 := and32 hb.1 hb.2
 have e3 := shr32 ha.1
 have e4 := shr32 hb.1
 obtain ⟨ah, hah⟩ : ∃ v, a / 4294967296 = v := ⟨_, rfl⟩
 obtain ⟨al, hal⟩ : ∃ v, a % 4294967296 = v := ⟨_, rfl⟩
 obtain ⟨bh, hbh⟩ : ∃ v, b / 4294967296 = v := ⟨_, rfl⟩
 obtain ⟨bl, hbl⟩ : ∃ v, b % 4294967296 = v := ⟨_, rfl⟩
 have ea : a = ah * 4294967296 + al := by omega
 have eb : b = bh * 4294967296 + bl := by omega
 have p := mul_nn (a := al) (b := bl) (A := 4294967295) (B := 4294967295) (by omega) (by omega)
 have q := mul_nn (a := ah) (b := bl) (A := 4294967295) (B := 4294967295) (by omega) (by omega)
 have r := mul_nn (a := al) (b := bh) (A := 4294967295) (B := 4294967295) (by omega) (by omega)
 have s := mul_nn (a := ah) (b := bh) (A := 4294967295) (B := 4294967295) (by omega) (by omega)
 have eab : a * b = ah * bh * 18446744073709551616 + (ah * bl + al * bh) * 4294967296 + al * bl := by
  have h1 : ah * 4294967296 * (bh * 4294967296) = ah * bh * 18446744073709551616 := by rw [Int.mul_assoc, Int.mul_left_comm 4294967296, ← Int.mul_assoc]; rfl
  have h2 : ah * 4294967296 * bl = ah * bl * 4294967296 := Int.mul_right_comm ..
  have h3 : al * (bh * 4294967296) = al * bh * 4294967296 := (Int.mul_assoc ..).symm
  rw [ea, eb, Int.add_mul, Int.mul_add, Int.mul_add, h1, h2, h3]
  omega
 rw [hal] at e1; rw [hbl] at e2; rw [hah] at e3; rw [hbh] at e4
 have w0 : IntKind.u64.wrap (al * bl) = al * bl := wrap_u64 (by omega) (by omega)
 have w1 : IntKind.u64.wrap (ah * bl) = ah * bl := wrap_u64 (by omega) (by omega)
 have w2 : IntKind.u64.wrap (al * bh) = al * bh := wrap_u64 (by omega) (by omega)
 have w3 : IntKind.u64.wrap (ah * bh) = ah * bh := wrap_u64 (by omega) (by omega)
 have s0 := shr32 p.1
 have lo : IntKind.u64.wrap (a * b) = (a * b) % 18446744073709551616 := by
  simp only [IntKind.wrap, IntKind.bits, IntKind.signed]; simp
 obtain ⟨P, hP⟩ : ∃ v, al * bl = v := ⟨_, rfl⟩
 obtain ⟨Q, hQ⟩ : ∃ v, ah * bl = v := ⟨_, rfl⟩
 obtain ⟨R, hR⟩ : ∃ v, al * bh = v := ⟨_, rfl⟩
 obtain ⟨S, hS⟩ : ∃ v, ah * bh = v := ⟨_, rfl⟩
 rw [hP] at p w0 s0 eab; rw [hQ] at q w1 eab; rw [hR] at r w2 eab; rw [hS] at s w3 eab
 have t1 : IntKind.u64.wrap (Q + P / 4294967296) = Q + P / 4294967296 := wrap_u64 (by omega) (by omega)
 have t2 := shr32 (a := Q + P / 4294967296) (by omega)
 have t3 := and32 (a := Q + P / 4294967296) (by omega) (by omega)
 have t4 : IntKind.u64.wrap ((Q + P / 4294967296) % 4294967296 + R) = (Q + P / 4294967296) % 4294967296 + R := wrap_u64 (by omega) (by omega)
 have t5 := shr32 (a := (Q + P / 4294967296) % 4294967296 + R) (by omega)
 have t6 : IntKind.u64.wrap (S + (Q + P / 4294967296) / 4294967296) = S + (Q + P / 4294967296) / 4294967296 := wrap_u64 (by omega) (by omega)
 have t7 : IntKind.u64.wrap (S + (Q + P / 4294967296) / 4294967296 + ((Q + P / 4294967296) % 4294967296 + R) / 4294967296) = S + (Q + P / 4294967296) / 4294967296 + ((Q + P / 4294967296) % 4294967296 + R) / 4294967296 := wrap_u64 (by omega) (by omega)
 refine ⟨S + (Q + P / 4294967296) / 4294967296 + ((Q + P / 4294967296) % 4294967296 + R) / 4294967296, (a * b) % 18446744073709551616, ?_, ?_, ?_, ?_⟩
 ·simp only [g_math_bits_Mul64, e1, e2, e3, e4, hP, hQ, hR, hS, w0, w1, w2, w3, s0, t1, t2, t3, t4, t5, t6, t7, lo]
 ·rw [eab]; omega
 ·omega
 ·omega
end Go.Sq
namespace Go.Sq
open Go.Rx
theorem row64 {x out : List Int} {a : Int} {i : Nat} {X : List Int} {N I2 : Int} (hx : wrd 18446744073709551616 x) (ho : wrd 18446744073709551616 out) (ha : 0 ≤ a ∧ a < 18446744073709551616) (hl : i + x.length ≤ out.length) (h1 : out.length ≤ 1000) :
  iter g_fixed_square_r1 (x, out, (i : Int), a, 0, X, N, I2, x, (x.length : Int), 0, ()) = some (x, (rowS 18446744073709551616 x a i out x.length).1, (i : Int), (rowS 18446744073709551616 x a i out x.length).2, X, N, I2, ()) :=
 iter_count (f := g_fixed_square_r1) (fun k : Nat => (x, (rowS 18446744073709551616 x a i out k).1, (i : Int), a, (rowS 18446744073709551616 x a i out k).2, X, N, I2, x, (x.length : Int), (k : Int), ())) x.length (fun k hk => by
  obtain ⟨r1, r2, r3, _, _⟩ := row_inv (by omega) hx ha ho hl k (by omega)
  have hxk := hx k
  have hok := r2 (i + k)
  have ax := axo_range ha hxk r3 hok
  obtain ⟨hi, lo, m1, m2, m3, m4⟩ := Mul64_eq ha hxk
  have ew : IntKind.i64.wrap ((i : Int) + (k : Int)) = ((i + k : Nat) : Int) := by rw [wrap_i64 (by omega) (by omega)]; omega
  have er : rowS 18446744073709551616 x a i out (k + 1) = ((rowS 18446744073709551616 x a i out k).1.set (i + k) ((a * x.getD k 0 + (rowS 18446744073709551616 x a i out k).2 + (rowS 18446744073709551616 x a i out k).1.getD (i + k) 0) % 18446744073709551616), (a * x.getD k 0 + (rowS 18446744073709551616 x a i out k).2 + (rowS 18446744073709551616 x a i out k).1.getD (i + k) 0) / 18446744073709551616) := rfl
  rw [er]
  have hlt : i + k < (rowS 18446744073709551616 x a i out k).1.length := by omega
  have ws : IntKind.i64.wrap ((k : Int) + 1) = ((k + 1 : Nat) : Int) := wrap_succ (by omega)
  simp (disch := omega) only [g_fixed_square_r1, dT, wT, Int.toNat_natCast, m1, Option.bind_some, ew, ws]
  generalize (rowS 18446744073709551616 x a i out k).1.getD (i + k) 0 = o at *
  generalize (rowS 18446744073709551616 x a i out k).2 = c at *
  generalize (rowS 18446744073709551616 x a i out k).1 = L at *
  generalize x.getD k 0 = y at *
  rw [← m2] at ax ⊢
  have n1 : (((lo.toNat + c.toNat) / 18446744073709551616 : Nat) : Int) = (lo + c) / 18446744073709551616 := by omega
  rw [n1]
  have n3 : (((o.toNat + (lo.toNat + c.toNat) % 18446744073709551616) % 18446744073709551616 : Nat) : Int) = (hi * 18446744073709551616 + lo + c + o) % 18446744073709551616 := by omega
  have n4 : (((o.toNat + (lo.toNat + c.toNat) % 18446744073709551616) / 18446744073709551616 : Nat) : Int) = (o + (lo + c) % 18446744073709551616) / 18446744073709551616 := by omega
  rw [n3, n4, wrap_u64 (n := hi + (lo + c) / 18446744073709551616) (by omega) (by omega), wrap_u64 (by omega) (by omega)]
  rw [show hi + (lo + c) / 18446744073709551616 + (o + (lo + c) % 18446744073709551616) / 18446744073709551616 = (hi * 18446744073709551616 + lo + c + o) / 18446744073709551616 by omega])
  (by simp (disch := omega) only [g_fixed_square_r1, dF])
theorem square_eq {x : List Int} (hx : wrd 18446744073709551616 x) (hl : x.length ≤ 100) : g_fixed_square x = some (sqL 18446744073709551616 x) := by
 have w2 : IntKind.i64.wrap (2 * (x.length : Int)) = ((2 * x.length : Nat) : Int) := by rw [wrap_i64 (by omega) (by omega)]; omega
 have loop := iter_count (f := g_fixed_square_r2) (fun i : Nat => (x, sqS 18446744073709551616 x i, x, (x.length : Int), (i : Int), ())) x.length (r := (sqS 18446744073709551616 x x.length, ())) (fun i hi => by
  obtain ⟨s1, s2, s3, s4⟩ := sq_inv (by omega) hx i (by omega)
  have rr := row64 (X := x) (N := (x.length : Int)) (I2 := (i : Int)) hx s2 (hx i) (i := i) (by omega) (by omega)
  obtain ⟨r1, r2, r3, r4, r5⟩ := row_inv (by omega) hx (hx i) (i := i) s2 (by omega) x.length (Nat.le_refl _)
  have z : (rowS 18446744073709551616 x (x.getD i 0) i (sqS 18446744073709551616 x i) x.length).1.getD (i + x.length) 0 = 0 := (r5 _ (Nat.le_refl _)).trans (s4 _ (Nat.le_refl _))
  have ew : IntKind.i64.wrap ((i : Int) + (x.length : Int)) = ((i + x.length : Nat) : Int) := by rw [wrap_i64 (by omega) (by omega)]; omega
  have ws : IntKind.i64.wrap ((i : Int) + 1) = ((i + 1 : Nat) : Int) := wrap_succ (by omega)
  have es : sqS 18446744073709551616 x (i + 1) = (rowS 18446744073709551616 x (x.getD i 0) i (sqS 18446744073709551616 x i) x.length).1.set (i + x.length) ((rowS 18446744073709551616 x (x.getD i 0) i (sqS 18446744073709551616 x i) x.length).1.getD (i + x.length) 0 + (rowS 18446744073709551616 x (x.getD i 0) i (sqS 18446744073709551616 x i) x.length).2) := rfl
  rw [es]
  simp (disch := omega) only [g_fixed_square_r2, dT, wT, Int.toNat_natCast, rr, Option.bind_some, ew, ws, wrap_u64])
  (by simp (disch := omega) only [g_fixed_square_r2, dF])
 have rm : (decide ((0 : Int) ≤ ((2 * x.length : Nat) : Int)) && decide (((2 * x.length : Nat) : Int) ≤ ((2 * x.length : Nat) : Int)) && room 8 (2 * x.length)) = true := by
  rw [decide_eq_true (by omega), decide_eq_true (by omega), room_iff.2 (by omega)]; rfl
 have loop : iter g_fixed_square_r2 (x, List.replicate (2 * x.length) 0, x, (x.length : Int), 0, ()) = _ := loop
 unfold g_fixed_square
 simp only [w2, Int.toNat_natCast]
 rw [cT rm, loop]; rfl
theorem row32 {x out : List Int} {a : Int} {i : Nat} {X : List Int} {N I2 : Int} (hx : wrd 4294967296 x) (ho : wrd 4294967296 out) (ha : 0 ≤ a ∧ a < 4294967296) (hl : i + x.length ≤ out.length) (h1 : out.length ≤ 1000) :
  iter g_r05_square_r1 (x, out, (i : Int), a, 0, X, N, I2, x, (x.length : Int), 0, ()) = some (x, (rowS 4294967296 x a i out x.length).1, (i : Int), (rowS 4294967296 x a i out x.length).2, X, N, I2, ()) :=
 iter_count (f := g_r05_square_r1) (fun k : Nat => (x, (rowS 4294967296 x a i out k).1, (i : Int), a, (rowS 4294967296 x a i out k).2, X, N, I2, x, (x.length : Int), (k : Int), ())) x.length (fun k hk => by
  obtain ⟨r1, r2, r3, _, _⟩ := row_inv (by omega) hx ha ho hl k (by omega)
  have hxk := hx k
  have hok := r2 (i + k)
  have ax := axo_range ha hxk r3 hok
  have ew : IntKind.i64.wrap ((i : Int) + (k : Int)) = ((i + k : Nat) : Int) := by rw [wrap_i64 (by omega) (by omega)]; omega
  have er : rowS 4294967296 x a i out (k + 1) = ((rowS 4294967296 x a i out k).1.set (i + k) ((a * x.getD k 0 + (rowS 4294967296 x a i out k).2 + (rowS 4294967296 x a i out k).1.getD (i + k) 0) % 4294967296), (a * x.getD k 0 + (rowS 4294967296 x a i out k).2 + (rowS 4294967296 x a i out k).1.getD (i + k) 0) / 4294967296) := rfl
  rw [er]
  have hlt : i + k < (rowS 4294967296 x a i out k).1.length := by omega
  have ws : IntKind.i64.wrap ((k : Int) + 1) = ((k + 1 : Nat) : Int) := wrap_succ (by omega)
  simp (disch := omega) only [g_r05_square_r1, dT, wT, Int.toNat_natCast, ew, ws]
  generalize (rowS 4294967296 x a i out k).1.getD (i + k) 0 = o at *
  generalize (rowS 4294967296 x a i out k).2 = c at *
  generalize (rowS 4294967296 x a i out k).1 = L at *
  generalize a * x.getD k 0 = p at *
  rw [wrap_u64 (n := p) (by omega) (by omega), wrap_u64 (n := p + o) (by omega) (by omega), wrap_u64 (n := p + o + c) (by omega) (by omega), and32 (by omega) (by omega), shr32 (by omega), show p + o + c = p + c + o by omega])
  (by simp (disch := omega) only [g_r05_square_r1, dF])
theorem r05_square_eq {x : List Int} (hx : wrd 4294967296 x) (hl : x.length ≤ 100) : g_r05_square x = some (sqL 4294967296 x) := by
 have w2 : IntKind.i64.wrap (2 * (x.length : Int)) = ((2 * x.length : Nat) : Int) := by rw [wrap_i64 (by omega) (by omega)]; omega
 have loop := iter_count (f := g_r05_square_r2) (fun i : Nat => (x, sqS 4294967296 x i, x, (x.length : Int), (i : Int), ())) x.length (r := (sqS 4294967296 x x.length, ())) (fun i hi => by
  obtain ⟨s1, s2, s3, s4⟩ := sq_inv (by omega) hx i (by omega)
  have rr := row32 (X := x) (N := (x.length : Int)) (I2 := (i : Int)) hx s2 (hx i) (i := i) (by omega) (by omega)
  obtain ⟨r1, r2, r3, r4, r5⟩ := row_inv (by omega) hx (hx i) (i := i) s2 (by omega) x.length (Nat.le_refl _)
  have z : (rowS 4294967296 x (x.getD i 0) i (sqS 4294967296 x i) x.length).1.getD (i + x.length) 0 = 0 := (r5 _ (Nat.le_refl _)).trans (s4 _ (Nat.le_refl _))
  have ew : IntKind.i64.wrap ((i : Int) + (x.length : Int)) = ((i + x.length : Nat) : Int) := by rw [wrap_i64 (by omega) (by omega)]; omega
  have ws : IntKind.i64.wrap ((i : Int) + 1) = ((i + 1 : Nat) : Int) := wrap_succ (by omega)
  have es : sqS 4294967296 x (i + 1) = (rowS 4294967296 x (x.getD i 0) i (sqS 4294967296 x i) x.length).1.set (i + x.length) ((rowS 4294967296 x (x.getD i 0) i (sqS 4294967296 x i) x.length).1.getD (i + x.length) 0 + (rowS 4294967296 x (x.getD i 0) i (sqS 4294967296 x i) x.length).2) := rfl
  rw [es]
  simp (disch := omega) only [g_r05_square_r2, dT, wT, Int.toNat_natCast, rr, Option.bind_some, ew, ws, wrap_u64])
  (by simp (disch := omega) only [g_r05_square_r2, dF])
 have rm : (decide ((0 : Int) ≤ ((2 * x.length : Nat) : Int)) && decide (((2 * x.length : Nat) : Int) ≤ ((2 * x.length : Nat) : Int)) && room 8 (2 * x.length)) = true := by
  rw [decide_eq_true (by omega), decide_eq_true (by omega), room_iff.2 (by omega)]; rfl
 have loop : iter g_r05_square_r2 (x, List.replicate (2 * x.length) 0, x, (x.length : Int), 0, ()) = _ := loop
 unfold g_r05_square
 simp only [w2, Int.toNat_natCast]
 rw [cT rm, loop]; rfl
end Go.Sq
namespace Go.Sq
open Go.Rx
def lenN (n : Nat) : Nat := if n = 0 then 0 else Nat.log2 n + 1
theorem log2_of {n k : Nat} (h : 2 ^ k ≤ n) (h' : n < 2 ^ (k + 1)) : Nat.log2 n = k := by
 have h0 : n ≠ 0 := by have := Nat.two_pow_pos k; omega
 have a := (Nat.le_log2 h0).2 h
 have b := (Nat.log2_lt h0).2 h'
 omega
theorem log2_bounds {n : Nat} (h : n ≠ 0) : 2 ^ Nat.log2 n ≤ n ∧ n < 2 ^ (Nat.log2 n + 1) := ⟨(Nat.le_log2 h).1 (Nat.le_refl _), (Nat.log2_lt h).1 (Nat.lt_succ_self _)⟩
theorem log2_shift {m k r : Nat} (hm : m ≠ 0) (hr : r < 2 ^ k) : Nat.log2 (r + m * 2 ^ k) = Nat.log2 m + k := by
 obtain ⟨a, b⟩ := log2_bounds hm
 refine log2_of ?_ ?_
 ·rw [Nat.pow_add]
  exact Nat.le_trans (Nat.mul_le_mul_right _ a) (Nat.le_add_left _ _)
 ·rw [show Nat.log2 m + k + 1 = (Nat.log2 m + 1) + k by omega, Nat.pow_add]
  have : (m + 1) * 2 ^ k ≤ 2 ^ (Nat.log2 m + 1) * 2 ^ k := Nat.mul_le_mul_right _ b
  rw [Nat.add_mul] at this
  omega
theorem lenN_shift {n k : Nat} (h : 2 ^ k ≤ n) : lenN n = lenN (n / 2 ^ k) + k := by
 have p := Nat.two_pow_pos k
 have h1 : n / 2 ^ k ≠ 0 := by
  have := Nat.div_pos h p
  omega
 have h0 : n ≠ 0 := by omega
 have e := log2_shift (k := k) h1 (Nat.mod_lt n p)
 rw [Nat.mul_comm, Nat.mod_add_div] at e
 unfold lenN
 rw [if_neg h0, if_neg h1, e]; omega
theorem Len64N {n : Nat} (h : n < 18446744073709551616) : g_math_bits_Len64 (n : Int) = some (lenN n : Int) := by
 obtain ⟨k, e, l, _⟩ := Len64_eq (x := n) (by omega)
 obtain ⟨l1, l2⟩ := l
 have : k = lenN n := by
  unfold lenN
  by_cases h0 : n = 0
  ·rw [if_pos h0]
   rcases l2 with h1 | h1
   ·exact h1
   ·exfalso; have := Nat.two_pow_pos (k - 1); omega
  ·rw [if_neg h0]
   rcases l2 with h1 | h1
   ·rw [h1] at l1; omega
   ·have k1 : 1 ≤ k := by
     by_cases hk : k = 0
     ·rw [hk] at l1; omega
     ·omega
    have := log2_of (n := n) (k := k - 1) h1 (by rw [Nat.sub_add_cancel k1]; exact l1)
    omega
 rw [e, this]
theorem val_cut (B : Int) : ∀ (l : List Int) (k : Nat), (∀ j, k ≤ j → l.getD j 0 = 0) → valB B l = valB B (l.take k)
 | [], k, _ => by rw [List.take_nil]
 | x :: l, 0, h => by
  have h0 : x = 0 := h 0 (Nat.zero_le _)
  have ih := val_cut B l 0 (fun j _ => h (j + 1) (Nat.zero_le _))
  show x + B * valB B l = valB B ((x :: l).take 0)
  rw [ih, h0, List.take_zero, List.take_zero]; show 0 + B * 0 = 0; omega
 | x :: l, k + 1, h => by
  have ih := val_cut B l k (fun j hj => h (j + 1) (by omega))
  show x + B * valB B l = x + B * valB B (l.take k)
  rw [ih]
theorem wrd_take {B : Int} (hB : 0 < B) {l : List Int} (h : wrd B l) (k : Nat) : wrd B (l.take k) := fun j => by
 by_cases hj : j < k
 ·rw [List.getD_eq_getElem?_getD, List.getElem?_take_of_lt hj, ← List.getD_eq_getElem?_getD]; exact h j
 ·rw [List.getD_eq_getElem?_getD, List.getElem?_eq_none (by rw [List.length_take]; omega)]
  exact ⟨Int.le_refl _, hB⟩
theorem top_log {w : Nat} {l : List Int} (h : wrd ((2 ^ w : Nat) : Int) l) {i : Nat} (hi : i < l.length) (hz : ∀ j, i + 1 ≤ j → l.getD j 0 = 0) (h0 : 0 < l.getD i 0) :
  Nat.log2 (valB ((2 ^ w : Nat) : Int) l).toNat = Nat.log2 (l.getD i 0).toNat + w * i := by
 have pB : (0 : Int) < ((2 ^ w : Nat) : Int) := by have := Nat.two_pow_pos w; omega
 rw [val_cut _ l (i + 1) hz, val_take _ _ _ hi]
 obtain ⟨r1, r2⟩ := val_range pB _ (wrd_take pB h i)
 rw [List.length_take, Nat.min_eq_left (by omega)] at r2
 obtain ⟨r, hr⟩ := Int.eq_ofNat_of_zero_le r1
 obtain ⟨m, hm⟩ := Int.eq_ofNat_of_zero_le (Int.le_of_lt h0)
 rw [hr] at r2 ⊢
 rw [hm] at h0 ⊢
 have ep : ((2 ^ w : Nat) : Int) ^ i = ((2 ^ (w * i) : Nat) : Int) := by rw [Nat.pow_mul]; exact (Int.natCast_pow _ _).symm
 rw [ep] at r2 ⊢
 have et : ((r : Int) + (m : Int) * ((2 ^ (w * i) : Nat) : Int)).toNat = r + m * 2 ^ (w * i) := by
  rw [← Int.natCast_mul, ← Int.natCast_add, Int.toNat_natCast]
 rw [et, Int.toNat_natCast, log2_shift (by omega) (by omega)]
end Go.Sq
namespace Go.Sq
open Go.Rx
def logS (n : Nat) : Nat := if n = 0 then 0 else Nat.log2 (n ^ 8)
def sqN (B : Int) (x : List Int) : Nat → List Int
 | 0 => x
 | i + 1 => sqL B (sqN B x i)
theorem sqN_inv {B : Int} (hB : 0 < B) {x : List Int} (hx : wrd B x) : ∀ i, (sqN B x i).length = 2 ^ i * x.length ∧ wrd B (sqN B x i) ∧ valB B (sqN B x i) = valB B x ^ 2 ^ i
 | 0 => ⟨(Nat.one_mul _).symm, hx, (Int.pow_one _).symm⟩
 | i + 1 => by
  obtain ⟨h1, h2, h3⟩ := sqN_inv hB hx i
  obtain ⟨s1, s2, s3⟩ := sqL_inv hB h2
  refine ⟨?_, s2, ?_⟩
  ·show (sqL B (sqN B x i)).length = _
   rw [s1, h1, Nat.pow_succ, ← Nat.mul_assoc, Nat.mul_comm 2]
  ·show valB B (sqL B (sqN B x i)) = _
   rw [s3, h3, ← Int.pow_add, Nat.pow_succ, Nat.mul_two]
theorem top_ex {B : Int} {l : List Int} (h : wrd B l) (hv : valB B l ≠ 0) : ∀ k, (∀ j, k ≤ j → l.getD j 0 = 0) → ∃ t, t < k ∧ 0 < l.getD t 0 ∧ ∀ j, t + 1 ≤ j → l.getD j 0 = 0
 | 0, hz => by
  exfalso; apply hv
  rw [val_cut B l 0 hz, List.take_zero]; rfl
 | k + 1, hz => by
  by_cases h0 : 0 < l.getD k 0
  ·exact ⟨k, Nat.lt_succ_self k, h0, hz⟩
  ·have h1 : l.getD k 0 = 0 := by have := (h k).1; omega
   obtain ⟨t, t1, t2, t3⟩ := top_ex h hv k fun j hj => by
    by_cases e : j = k
    ·rw [e]; exact h1
    ·exact hz j (by omega)
   exact ⟨t, by omega, t2, t3⟩
theorem getD_past {l : List Int} {j : Nat} (h : l.length ≤ j) : l.getD j 0 = 0 := by
 rw [List.getD_eq_getElem?_getD, List.getElem?_eq_none h]; rfl
theorem lenN_pos {n : Nat} (h : n ≠ 0) : lenN n = Nat.log2 n + 1 := if_neg h
theorem log8_lt {n : Nat} (h : n < 18446744073709551616) (h0 : n ≠ 0) : Nat.log2 (n ^ 8) ≤ 511 := by
 have : n ^ 8 < (2 ^ 64) ^ 8 := Nat.pow_lt_pow_left (by omega) (by omega)
 rw [← Nat.pow_mul] at this
 have h1 : n ^ 8 ≠ 0 := by have := Nat.pow_pos (n := 8) (show 0 < n by omega); omega
 have := (Nat.log2_lt h1).2 this
 omega
theorem logS_le {n : Nat} (h : n < 18446744073709551616) : logS n ≤ 511 := by
 unfold logS; split
 ·omega
 ·rename_i h0; exact log8_lt h h0
theorem log_walk {X : List Int} {t i : Nat} (hX : wrd 18446744073709551616 X) (hi : i < X.length) (hl : X.length ≤ 100) (ht : t ≤ i) (h0 : 0 < X.getD t 0) (hz : ∀ j, t + 1 ≤ j → X.getD j 0 = 0) :
  iter g_fixed_Log_r2 (X, (i : Int), ()) = some (if t = 0 then .inl (X, ()) else .inr (((64 * t + lenN (X.getD t 0).toNat : Nat) : Int) - 1, ())) := by
 have go := iter_to (f := g_fixed_Log_r2) (fun s : Nat => (X, ((i - s : Nat) : Int), ())) (i - t) (fun s hs => by
  have z := hz (i - s) (by omega)
  have ws : IntKind.i64.wrap (((i - s : Nat) : Int) - 1) = ((i - (s + 1) : Nat) : Int) := by rw [wrap_i64 (by omega) (by omega)]; omega
  simp (disch := omega) only [g_fixed_Log_r2, dT, wT, Int.toNat_natCast, dF, ws])
 have go : iter g_fixed_Log_r2 (X, (i : Int), ()) = iter g_fixed_Log_r2 (X, ((i - (i - t) : Nat) : Int), ()) := go
 rw [go, show i - (i - t) = t by omega]
 by_cases t0 : t = 0
 ·rw [if_pos t0]
  refine iter_inr ?_
  simp (disch := omega) only [g_fixed_Log_r2, dF]
 ·rw [if_neg t0]
  refine iter_inr ?_
  have r := hX t
  have ln := Len64N (n := (X.getD t 0).toNat) (by omega)
  rw [Int.toNat_of_nonneg r.1] at ln
  have lb : lenN (X.getD t 0).toNat ≤ 64 := by
   have : (X.getD t 0).toNat ≠ 0 := by omega
   rw [lenN_pos this]
   have := (Nat.log2_lt this).2 (show (X.getD t 0).toNat < 2 ^ 64 by omega)
   omega
  have w1 : IntKind.i64.wrap (64 * (t : Int)) = 64 * (t : Int) := wrap_i64 (by omega) (by omega)
  have w2 : IntKind.i64.wrap (64 * (t : Int) + (lenN (X.getD t 0).toNat : Int)) = 64 * (t : Int) + (lenN (X.getD t 0).toNat : Int) := wrap_i64 (by omega) (by omega)
  have w3 : IntKind.i64.wrap (64 * (t : Int) + (lenN (X.getD t 0).toNat : Int) - 1) = ((64 * t + lenN (X.getD t 0).toNat : Nat) : Int) - 1 := by rw [wrap_i64 (by omega) (by omega)]; omega
  simp (disch := omega) only [g_fixed_Log_r2, dT, wT, Int.toNat_natCast, ln, Option.bind_some, w1, w2, w3]
theorem one_wrd {n : Nat} (h : n < 18446744073709551616) : wrd 18446744073709551616 [(n : Int)] := fun j => by
 cases j with
 | zero => show 0 ≤ (n : Int) ∧ (n : Int) < 18446744073709551616; omega
 | succ j => rw [getD_past (by simp)]; omega
theorem Log_eq {n : Nat} (h : n < 18446744073709551616) : g_fixed_Log (n : Int) = some (logS n : Int) := by
 by_cases h0 : n = 0
 ·subst h0; rfl
 ·have ow := one_wrd h
  have inv := sqN_inv (by omega) ow
  have l1 := iter_count (f := g_fixed_Log_r1) (fun i : Nat => (sqN 18446744073709551616 [(n : Int)] i, (i : Int), ())) 3 (r := (sqN 18446744073709551616 [(n : Int)] 3, ())) (fun i hi => by
   have li : (sqN 18446744073709551616 [(n : Int)] i).length ≤ 100 := by
    rw [(inv i).1]
    have : i = 0 ∨ i = 1 ∨ i = 2 := by omega
    rcases this with rfl | rfl | rfl <;> (show _ * 1 ≤ 100; decide)
   simp (disch := omega) only [g_fixed_Log_r1, dT, square_eq (inv i).2.1 li, Option.bind_some, wrap_succ]
   rfl) (by simp (disch := omega) only [g_fixed_Log_r1, dF])
  have l1 : iter g_fixed_Log_r1 ([(n : Int)], 0, ()) = _ := l1
  obtain ⟨x1, x2, x3⟩ := inv 3
  have ev : valB 18446744073709551616 [(n : Int)] = (n : Int) := by show (n : Int) + 18446744073709551616 * 0 = n; omega
  rw [ev] at x3
  have x1 : (sqN 18446744073709551616 [(n : Int)] 3).length = 8 := x1
  have x3 : valB 18446744073709551616 (sqN 18446744073709551616 [(n : Int)] 3) = ((n ^ 8 : Nat) : Int) := by rw [x3]; exact (Int.natCast_pow n 8).symm
  generalize sqN 18446744073709551616 [(n : Int)] 3 = X at *
  have hv : valB 18446744073709551616 X ≠ 0 := by
   rw [x3]
   have := Nat.pow_pos (n := 8) (show 0 < n by omega)
   omega
  obtain ⟨t, t1, t2, t3⟩ := top_ex x2 hv 8 fun j hj => getD_past (by omega)
  have tl := top_log (w := 64) (l := X) x2 (i := t) (by omega) t3 t2
  have tl : Nat.log2 (valB 18446744073709551616 X).toNat = _ := tl
  rw [x3, Int.toNat_natCast] at tl
  have wk := log_walk (i := 7) x2 (by omega) (by omega) (by omega) t2 t3
  have wk : iter g_fixed_Log_r2 (X, 7, ()) = _ := wk
  have w7 : IntKind.i64.wrap ((X.length : Int) - 1) = 7 := by rw [x1]; rfl
  have tn : (X.getD t 0).toNat ≠ 0 := by omega
  have eS : logS n = Nat.log2 (n ^ 8) := if_neg h0
  unfold g_fixed_Log
  rw [eF (by omega), l1]
  simp only [Option.bind_some, w7, wk]
  by_cases t0 : t = 0
  ·subst t0
   rw [if_pos rfl]
   have r := x2 0
   have ln := Len64N (n := (X.getD 0 0).toNat) (by omega)
   rw [Int.toNat_of_nonneg r.1] at ln
   have e8 := log8_lt h h0
   rw [lenN_pos tn] at ln
   simp (disch := omega) only [wT, ln, Option.bind_some]
   rw [wrap_i64 (by omega) (by omega), eS, tl]
   congr 1; omega
  ·rw [if_neg t0, lenN_pos tn, eS, tl]
   simp only
   congr 1; omega
theorem long_bits : ∀ (m : Nat) (s : Int), m < 4294967296 → 0 ≤ s → s + lenN m ≤ 1000 → iter g_r05_long_r1 (s, (m : Int), ()) = some (s + (lenN m : Int), ())
 | 0, s, _, _, _ => by
  refine iter_inr ?_
  simp (disch := omega) only [g_r05_long_r1, dF]
  show some (Sum.inr (s, ())) = some (Sum.inr (s + 0, ()))
  rw [Int.add_zero]
 | m + 1, s, hm, hs, hb => by
  have e : lenN (m + 1) = lenN ((m + 1) / 2) + 1 := by
   by_cases m0 : m = 0
   ·subst m0; decide
   ·have := lenN_shift (n := m + 1) (k := 1) (by omega)
    simpa using this
  have sh : shrI .u64 ((m + 1 : Nat) : Int) 1 = (((m + 1) / 2 : Nat) : Int) := by
   have := shr_nat (k := .u64) (a := m + 1) (n := 1) (by decide)
   rw [Nat.shiftRight_eq_div_pow] at this
   exact this
  have rd : g_r05_long_r1 (s, ((m + 1 : Nat) : Int), ()) = some (.inl (s + 1, (((m + 1) / 2 : Nat) : Int), ())) := by
   simp (disch := omega) only [g_r05_long_r1, dT, sh, wrap_i64]
  rw [iter_inl rd, long_bits ((m + 1) / 2) (s + 1) (by omega) (by omega) (by omega), e]
  congr 2; omega
termination_by m => m
decreasing_by omega
theorem long_eq {X : List Int} {t : Nat} (hX : wrd 4294967296 X) (ht : t < X.length) (hl : X.length ≤ 20) (h0 : 0 < X.getD t 0) (hz : ∀ j, t + 1 ≤ j → X.getD j 0 = 0) :
  g_r05_long X = some (((32 * t + lenN (X.getD t 0).toNat : Nat) : Int)) := by
 obtain ⟨i, hi⟩ : ∃ i, X.length = i + 1 := ⟨X.length - 1, by omega⟩
 have go := iter_to (f := g_r05_long_r2) (fun s : Nat => (X, ((i - s : Nat) : Int), ())) (i - t) (fun s hs => by
  have z := hz (i - s) (by omega)
  have ws : IntKind.i64.wrap (((i - s : Nat) : Int) - 1) = ((i - (s + 1) : Nat) : Int) := by rw [wrap_i64 (by omega) (by omega)]; omega
  simp (disch := omega) only [g_r05_long_r2, dT, wT, Int.toNat_natCast, dF, ws])
 have go : iter g_r05_long_r2 (X, (i : Int), ()) = iter g_r05_long_r2 (X, ((i - (i - t) : Nat) : Int), ()) := go
 have r := hX t
 have lb : lenN (X.getD t 0).toNat ≤ 32 := by
  have : (X.getD t 0).toNat ≠ 0 := by omega
  rw [lenN_pos this]
  have := (Nat.log2_lt this).2 (show (X.getD t 0).toNat < 2 ^ 32 by omega)
  omega
 have bt := long_bits (X.getD t 0).toNat (32 * (t : Int)) (by omega) (by omega) (by omega)
 rw [Int.toNat_of_nonneg r.1] at bt
 have w1 : IntKind.i64.wrap (32 * (t : Int)) = 32 * (t : Int) := wrap_i64 (by omega) (by omega)
 have rd : g_r05_long_r2 (X, (t : Int), ()) = some (.inr (.inr (32 * (t : Int) + (lenN (X.getD t 0).toNat : Int), ()))) := by
  simp (disch := omega) only [g_r05_long_r2, dT, wT, Int.toNat_natCast, w1, bt, Option.bind_some]
 have wl : IntKind.i64.wrap ((X.length : Int) - 1) = (i : Int) := by rw [wrap_i64 (by omega) (by omega)]; omega
 unfold g_r05_long
 rw [wl, go, show i - (i - t) = t by omega, iter_inr rd]
 simp only [Option.bind_some]
 congr 1
theorem two_wrd {n : Nat} (h : n < 18446744073709551616) : wrd 4294967296 [(n : Int) % 4294967296, (n : Int) / 4294967296] := fun j => by
 match j with
 | 0 => show 0 ≤ (n : Int) % 4294967296 ∧ (n : Int) % 4294967296 < 4294967296; omega
 | 1 => show 0 ≤ (n : Int) / 4294967296 ∧ (n : Int) / 4294967296 < 4294967296; omega
 | j + 2 => rw [getD_past (by simp)]; omega
theorem r05_Log3 {n : Nat} (h : n < 18446744073709551616) (h0 : n ≠ 0) {x : List Int} (tw : wrd 4294967296 x) (l2 : x.length = 2) (ev : valB 4294967296 x = (n : Int)) :
  ((g_r05_square x).bind fun y1 => (g_r05_square y1).bind fun y2 => (g_r05_square y2).bind fun y3 => (g_r05_long y3).bind fun y4 => some (IntKind.i64.wrap (y4 - 1))) = some (logS n : Int) := by
 have inv := sqN_inv (by omega) tw
 have q := fun i (hi : (sqN 4294967296 x i).length ≤ 100) => r05_square_eq (inv i).2.1 hi
 have q0 : g_r05_square x = some (sqN 4294967296 x 1) := q 0 (by rw [(inv 0).1, l2]; decide)
 have q1 : g_r05_square (sqN 4294967296 x 1) = some (sqN 4294967296 x 2) := q 1 (by rw [(inv 1).1, l2]; decide)
 have q2 : g_r05_square (sqN 4294967296 x 2) = some (sqN 4294967296 x 3) := q 2 (by rw [(inv 2).1, l2]; decide)
 obtain ⟨x1, x2, x3⟩ := inv 3
 rw [ev] at x3
 rw [l2] at x1
 have x1 : (sqN 4294967296 x 3).length = 16 := x1
 have x3 : valB 4294967296 (sqN 4294967296 x 3) = ((n ^ 8 : Nat) : Int) := by rw [x3]; exact (Int.natCast_pow n 8).symm
 simp only [q0, q1, q2, Option.bind_some]
 generalize sqN 4294967296 x 3 = X at *
 have hv : valB 4294967296 X ≠ 0 := by
  rw [x3]
  have := Nat.pow_pos (n := 8) (show 0 < n by omega)
  omega
 obtain ⟨t, t1, t2, t3⟩ := top_ex x2 hv 16 fun j hj => getD_past (by omega)
 have tl := top_log (w := 32) (l := X) x2 (i := t) (by omega) t3 t2
 have tl : Nat.log2 (valB 4294967296 X).toNat = _ := tl
 rw [x3, Int.toNat_natCast] at tl
 have lg := long_eq x2 (by omega) (by omega) t2 t3
 have e8 := log8_lt h h0
 have eS : logS n = Nat.log2 (n ^ 8) := if_neg h0
 rw [lenN_pos (by omega)] at lg
 simp only [lg, Option.bind_some]
 rw [wrap_i64 (by omega) (by omega), eS, tl]
 congr 1; omega
theorem r05_Log_eq {n : Nat} (h : n < 18446744073709551616) : g_r05_Log (n : Int) = some (logS n : Int) := by
 by_cases h0 : n = 0
 ·subst h0; rfl
 ·unfold g_r05_Log
  rw [eF (by omega), and32 (by omega) (by omega), shr32 (by omega)]
  refine r05_Log3 h h0 (two_wrd h) rfl ?_
  show (n : Int) % 4294967296 + 4294967296 * ((n : Int) / 4294967296 + 4294967296 * 0) = n
  omega
end Go.Sq
namespace Go.Sq
open Go.Rx
def sqs (x : List Int) (a : Nat) : Nat → Int
 | 0 => 0
 | n + 1 => sqs x a n + x.getD (a + n) 0 * x.getD (a + n) 0
theorem sq_range {x : List Int} (hx : bndP 67108864 16 x) {i : Nat} (hi : i < 16) : 0 ≤ x.getD i 0 * x.getD i 0 ∧ x.getD i 0 * x.getD i 0 ≤ 4503599627370496 := by
 have := mul_bd (hx i hi) (hx i hi)
 have h2 : 0 ≤ x.getD i 0 * x.getD i 0 := by
  rcases Int.le_total 0 (x.getD i 0) with h | h
  ·exact Int.mul_nonneg h h
  ·exact Int.mul_nonneg_of_nonpos_of_nonpos h h
 omega
theorem sqs_range {x : List Int} (hx : bndP 67108864 16 x) {a : Nat} : ∀ n : Nat, a + n ≤ 16 → 0 ≤ sqs x a n ∧ sqs x a n ≤ 4503599627370496 * (n : Int)
 | 0, _ => by show 0 ≤ (0 : Int) ∧ (0 : Int) ≤ _; omega
 | n + 1, h => by
  have ih := sqs_range hx (a := a) n (by omega)
  have s := sq_range hx (i := a + n) (by omega)
  show 0 ≤ sqs x a n + _ ∧ sqs x a n + _ ≤ _
  omega
theorem sqs_zero {x : List Int} (hx : bndP 67108864 16 x) : ∀ n, n ≤ 16 → sqs x 0 n = 0 → ∀ i, i < n → x.getD i 0 = 0
 | 0, _, _, i, hi => absurd hi (Nat.not_lt_zero _)
 | n + 1, h, e, i, hi => by
  have r := sqs_range hx (a := 0) n (by omega)
  have s := sq_range hx (i := 0 + n) (by omega)
  have e : sqs x 0 n + x.getD (0 + n) 0 * x.getD (0 + n) 0 = 0 := e
  by_cases hin : i = n
  ·subst hin
   rw [Nat.zero_add] at e s
   have : x.getD i 0 * x.getD i 0 = 0 := by omega
   rcases Int.mul_eq_zero.1 this with h1 | h1 <;> exact h1
  ·exact sqs_zero hx n (by omega) (by omega) i (by omega)
theorem Energy_eq {x : List Int} (hl : x.length = 16) (hx : bndP 67108864 16 x) : g_lapped_Energy x = some (sqs x 0 16) := by
 have l1 := iter_count (f := g_lapped_Energy_r1) (fun i : Nat => (sqs x 0 i, x, (i : Int), ())) 16 (r := (sqs x 0 16, ())) (fun i hi => by
  have r := sqs_range hx (a := 0) i (by omega)
  have s := sq_range hx hi
  have e : sqs x 0 (i + 1) = sqs x 0 i + x.getD i 0 * x.getD i 0 := by rw [← Nat.zero_add i]; simp only [sqs, Nat.zero_add]
  have w1 : IntKind.i64.wrap (x.getD i 0 * x.getD i 0) = x.getD i 0 * x.getD i 0 := wrap_i64 (by omega) (by omega)
  have w2 : IntKind.u64.wrap (x.getD i 0 * x.getD i 0) = x.getD i 0 * x.getD i 0 := wrap_u64 (by omega) (by omega)
  have w3 : IntKind.u64.wrap (sqs x 0 i + x.getD i 0 * x.getD i 0) = sqs x 0 i + x.getD i 0 * x.getD i 0 := wrap_u64 (by omega) (by omega)
  simp (disch := omega) only [g_lapped_Energy_r1, dT, wT, Int.toNat_natCast, w1, w2, w3, wrap_succ, e]) (by simp (disch := omega) only [g_lapped_Energy_r1, dF])
 have l1 : iter g_lapped_Energy_r1 (0, x, 0, ()) = _ := l1
 unfold g_lapped_Energy
 simp only [bounded_eq hl (by omega) (show (0 : Int) ≤ 67108864 by omega) (by omega), decide_eq_true hx, Option.bind_some, Bool.not_true, cond_false, l1]
def eN (b : Nat) : Nat := (edgeL.getD b 0).toNat
theorem eN_facts : ∀ b, b < 6 → edgeL.getD b 0 = (eN b : Int) ∧ edgeL.getD (b + 1) 0 = (eN (b + 1) : Int) ∧ eN b ≤ eN (b + 1) ∧ eN (b + 1) ≤ 16 := by decide
def powS (x : List Int) (b : Nat) : Int := sqs x (eN b) (eN (b + 1) - eN b)
theorem powS_range {x : List Int} (hx : bndP 67108864 16 x) {b : Nat} (hb : b < 6) : 0 ≤ powS x b ∧ powS x b ≤ 72057594037927936 := by
 obtain ⟨_, _, h1, h2⟩ := eN_facts b hb
 have := sqs_range hx (a := eN b) (eN (b + 1) - eN b) (by omega)
 unfold powS; omega
def measS (x : List Int) (b : Nat) : Int := if 0 < powS x b then minB (((logS (powS x b).toNat / 2 : Nat) : Int) + 1) else 0
def measL (x : List Int) : List Int := tab6 (measS x) 6
theorem measL_len (x : List Int) : (measL x).length = 6 := tab6_len _ _
theorem measL_lv (x : List Int) : lv (measL x) := fun i hi => by
 rw [show (measL x).getD i 0 = measS x i from tab6_get _ _ _ _ hi]
 unfold measS minB; split
 ·split <;> omega
 ·omega
def bandL (x : List Int) (b : Nat) : List Int := copyL (List.replicate 16 0) 0 (((x.drop (eN b)).take (eN (b + 1) - eN b)).take 16)
theorem bandL_get {x : List Int} (hl : x.length = 16) {b : Nat} (hb : b < 6) : (bandL x b).length = 16 ∧ ∀ j, (bandL x b).getD j 0 = if j < eN (b + 1) - eN b then x.getD (eN b + j) 0 else 0 := by
 obtain ⟨_, _, h1, h2⟩ := eN_facts b hb
 have l0 : (((x.drop (eN b)).take (eN (b + 1) - eN b)).take 16).length = eN (b + 1) - eN b := by
  simp only [List.length_take, List.length_drop]; omega
 unfold bandL copyL
 rw [List.take_zero, List.nil_append, Nat.zero_add, l0]
 refine ⟨by rw [List.length_append, l0, List.length_drop, List.length_replicate]; omega, fun j => ?_⟩
 by_cases hj : j < eN (b + 1) - eN b
 ·rw [if_pos hj, List.getD_eq_getElem?_getD, List.getElem?_append_left (by rw [l0]; exact hj), List.getElem?_take_of_lt (by omega), List.getElem?_take_of_lt hj, List.getElem?_drop, List.getD_eq_getElem?_getD]
 ·rw [if_neg hj, List.getD_eq_getElem?_getD, List.getElem?_append_right (by rw [l0]; omega), ← List.getD_eq_getElem?_getD, List.drop_replicate, rep0]
theorem bandL_sqs {x : List Int} (hl : x.length = 16) {b : Nat} (hb : b < 6) : ∀ n, sqs (bandL x b) 0 n = sqs x (eN b) (if n ≤ eN (b + 1) - eN b then n else eN (b + 1) - eN b)
 | 0 => by rw [if_pos (Nat.zero_le _)]; rfl
 | n + 1 => by
  have ih := bandL_sqs hl hb n
  have g := (bandL_get hl hb).2 (0 + n)
  show sqs (bandL x b) 0 n + (bandL x b).getD (0 + n) 0 * (bandL x b).getD (0 + n) 0 = _
  rw [ih, g, Nat.zero_add]
  by_cases h : n < eN (b + 1) - eN b
  ·rw [if_pos h, if_pos (by omega), if_pos (by omega)]; rfl
  ·rw [if_neg h]
   by_cases h' : n ≤ eN (b + 1) - eN b
   ·rw [if_pos h', if_neg (by omega), show n = eN (b + 1) - eN b by omega]; omega
   ·rw [if_neg h', if_neg (by omega)]; omega
theorem bandL_may {x : List Int} (hl : x.length = 16) (hx : bndP 67108864 16 x) {b : Nat} (hb : b < 6) : bndP 67108864 16 (bandL x b) := fun j hj => by
 obtain ⟨_, _, h1, h2⟩ := eN_facts b hb
 rw [(bandL_get hl hb).2 j]
 split
 ·exact hx _ (by omega)
 ·omega
theorem band_Energy {x : List Int} (hl : x.length = 16) (hx : bndP 67108864 16 x) {b : Nat} (hb : b < 6) : g_lapped_Energy (bandL x b) = some (powS x b) := by
 obtain ⟨_, _, h1, h2⟩ := eN_facts b hb
 rw [Energy_eq (bandL_get hl hb).1 (bandL_may hl hx hb), bandL_sqs hl hb]
 unfold powS
 by_cases h : 16 ≤ eN (b + 1) - eN b
 ·rw [if_pos h, show eN (b + 1) - eN b = 16 by omega]
 ·rw [if_neg h]
theorem log_word {v : Int} (h0 : 0 < v) (h1 : v ≤ 72057594037927936) : g_fixed_Log v = some (logS v.toNat : Int) ∧ g_r05_Log v = some (logS v.toNat : Int) ∧ logS v.toNat ≤ 511 := by
 obtain ⟨n, rfl⟩ := Int.eq_ofNat_of_zero_le (Int.le_of_lt h0)
 have hn : n < 18446744073709551616 := by omega
 exact ⟨Log_eq hn, r05_Log_eq hn, logS_le hn⟩
theorem edges_are : g_bands_edges = some edgeL := rfl
theorem Measure_eq {x : List Int} (hl : x.length = 16) (hx : bndP 67108864 16 x) : g_bands_Measure x = some (measL x, 0) := by
 have l1 := iter_count (f := g_bands_Measure_r1) (fun b : Nat => ((b : Int), x, tab6 (mix (measS x) (fun _ => 0) b) 6, edgeL, ())) 6 (r := (tab6 (mix (measS x) (fun _ => 0) 6) 6, ())) (fun b hb => by
  obtain ⟨f1, f2, f3, f4⟩ := eN_facts b hb
  have en := band_Energy hl hx hb
  unfold bandL at en
  have ew : IntKind.i64.wrap ((b : Int) + 1) = ((b + 1 : Nat) : Int) := wrap_succ (by omega)
  by_cases hp : 0 < powS x b
  ·have lw := log_word hp (powS_range hx hb).2
   have e : measS x b = minB (((logS (powS x b).toNat / 2 : Nat) : Int) + 1) := if_pos hp
   have st : (tab6 (mix (measS x) (fun _ => 0) b) 6).set b (minB (((logS (powS x b).toNat / 2 : Nat) : Int) + 1)) = tab6 (mix (measS x) (fun _ => 0) (b + 1)) 6 := e ▸ mix_set 0 hb
   have td : ((logS (powS x b).toNat : Int)).tdiv 2 = ((logS (powS x b).toNat / 2 : Nat) : Int) := tdivN
   have w1 : IntKind.i64.wrap ((logS (powS x b).toNat / 2 : Nat) : Int) = ((logS (powS x b).toNat / 2 : Nat) : Int) := wrap_i64 (by omega) (by omega)
   have w2 : IntKind.i64.wrap (((logS (powS x b).toNat / 2 : Nat) : Int) + 1) = ((logS (powS x b).toNat / 2 : Nat) : Int) + 1 := wrap_i64 (by omega) (by omega)
   simp (disch := omega) only [g_bands_Measure_r1, dT, wT, ew, Int.toNat_natCast, f1, f2, gT, en, Option.bind_some, lw.1, td, w1, w2]
   rw [← st]; rfl
  ·have e : measS x b = 0 := if_neg hp
   have st : tab6 (mix (measS x) (fun _ => 0) b) 6 = tab6 (mix (measS x) (fun _ => 0) (b + 1)) 6 := mix_keep e
   simp (disch := omega) only [g_bands_Measure_r1, dT, dF, wT, ew, Int.toNat_natCast, f1, f2, gT, en, Option.bind_some]
   rw [← st]) (by simp (disch := omega) only [g_bands_Measure_r1, dF])
 rw [mix_all] at l1
 have l1 : iter g_bands_Measure_r1 (0, x, tab6 (fun _ => 0) 6, edgeL, ()) = _ := l1
 rw [← rep_tab 6] at l1
 unfold g_bands_Measure
 by_cases hz : x = List.replicate 16 0
 ·rw [listBeq hz]
  simp only [Bool.not_true, cond_false, Option.bind_some, edges_are, l1]
  rfl
 ·have bz : (x == List.replicate 16 0) = false := beq_eq_false_iff_ne.2 hz
  have en : sqs x 0 16 ≠ 0 := fun e => hz (list_ext_getD 0 (by rw [hl, List.length_replicate]) fun i hi => by rw [rep0]; exact sqs_zero hx 16 (Nat.le_refl _) e i (by omega))
  rw [bz]
  simp only [Bool.not_false, cond_true, cond_false, Energy_eq hl hx, Option.bind_some, beqF en, edges_are, l1]
  rfl
def loudS (l : List Int) : Int := mx (mx (mx (mx (mx (l.getD 0 0) (l.getD 1 0)) (l.getD 2 0)) (l.getD 3 0)) (l.getD 4 0)) (l.getD 5 0)
theorem bands_Loud_eq {l : List Int} (hl : l.length = 6) (h : lv l) : g_bands_Loud l = some (loudS l) := by
 unfold g_bands_Loud
 simp (disch := omega) only [bands_Check_eq hl, ckL_pos h, Option.bind_some, nF, wT]
 rfl
end Go.Sq
namespace Go.Sq
open Go.Rx
def pcmP (p : List Int) : Prop := ∀ i, i < 16 → -32768 ≤ p.getD i 0 ∧ p.getD i 0 ≤ 32767
instance (p : List Int) : Decidable (pcmP p) := by unfold pcmP; infer_instance
def ckP (p : List Int) : Int := if pcmP p then 0 else 1
theorem ckP_pos {p : List Int} (h : pcmP p) : ckP p = 0 := if_pos h
theorem ckP_neg {p : List Int} (h : ¬ pcmP p) : ckP p = 1 := if_neg h
theorem sat_iff (v : Int) : sat16 v = v ↔ -32768 ≤ v ∧ v ≤ 32767 := by unfold sat16; split <;> split <;> omega
theorem lapped_Check_eq (p : List Int) : g_lapped_Check p = some (ckP p) := by
 have step : ∀ i, i < 16 → -32768 ≤ p.getD i 0 ∧ p.getD i 0 ≤ 32767 → g_lapped_Check_r1 (p, (i : Int), ()) = some (.inl (p, ((i + 1 : Nat) : Int), ())) := fun i hi h => by
  have e := (sat_iff (p.getD i 0)).2 h
  simp (disch := omega) only [g_lapped_Check_r1, dT, wT, Int.toNat_natCast, fixed_Sat_eq, Option.bind_some, nF, wrap_succ]
 unfold g_lapped_Check
 rcases first_not (fun i => -32768 ≤ p.getD i 0 ∧ p.getD i 0 ≤ 32767) 16 with h | ⟨k, hk, h, h'⟩
 ·rw [ckP_pos h, show iter g_lapped_Check_r1 (p, 0, ()) = some (.inl ()) from iter_count (fun i : Nat => (p, (i : Int), ())) 16 (fun i hi => step i hi (h i hi)) (by simp (disch := omega) only [g_lapped_Check_r1, dF])]
  rfl
 ·rw [ckP_neg fun hp => h' (hp k hk), show iter g_lapped_Check_r1 (p, 0, ()) = some (.inr (1, ())) from iter_count (fun i : Nat => (p, (i : Int), ())) k (fun i hi => step i (by omega) (h i hi)) (by
   have e : sat16 (p.getD k 0) ≠ p.getD k 0 := fun e => h' ((sat_iff _).1 e)
   simp (disch := omega) only [g_lapped_Check_r1, dT, wT, Int.toNat_natCast, fixed_Sat_eq, Option.bind_some, nT])]
  rfl
theorem r07_Check_eq (p : List Int) : g_r07_Check p = some (ckP p) := by
 have step : ∀ i, i < 16 → -32768 ≤ p.getD i 0 ∧ p.getD i 0 ≤ 32767 → g_r07_Check_r1 (p, (i : Int), ()) = some (.inl (p, ((i + 1 : Nat) : Int), ())) := fun i hi h => by
  have d2 : decide (p.getD i 0 > 32767) = false := decide_eq_false (by omega)
  simp (disch := omega) only [g_r07_Check_r1, dT, dF, wT, Int.toNat_natCast, d2, Option.bind_some, cond_false, wrap_succ]
 unfold g_r07_Check
 rcases first_not (fun i => -32768 ≤ p.getD i 0 ∧ p.getD i 0 ≤ 32767) 16 with h | ⟨k, hk, h, h'⟩
 ·rw [ckP_pos h, show iter g_r07_Check_r1 (p, 0, ()) = some (.inl ()) from iter_count (fun i : Nat => (p, (i : Int), ())) 16 (fun i hi => step i hi (h i hi)) (by simp (disch := omega) only [g_r07_Check_r1, dF])]
  rfl
 ·rw [ckP_neg fun hp => h' (hp k hk), show iter g_r07_Check_r1 (p, 0, ()) = some (.inr (1, ())) from iter_count (fun i : Nat => (p, (i : Int), ())) k (fun i hi => step i (by omega) (h i hi)) (by
   by_cases h1 : p.getD k 0 < -32768
   ·simp (disch := omega) only [g_r07_Check_r1, dT, wT, Int.toNat_natCast, Option.bind_some, cond_true]
   ·have d2 : decide (p.getD k 0 > 32767) = true := decide_eq_true (by omega)
    simp (disch := omega) only [g_r07_Check_r1, dT, dF, wT, Int.toNat_natCast, d2, Option.bind_some, cond_true])]
  rfl
def bothL (a b : List Int) (n : Nat) : Int := if n < 16 then a.getD n 0 else b.getD (n - 16) 0
def winS (a b : List Int) (n : Nat) : Int := rnd 16 (bothL a b n * WF n)
def fdot (a b : List Int) (k : Nat) : Nat → Int
 | 0 => 0
 | n + 1 => fdot a b k n + winS a b n * KF n k
def fwdS (a b : List Int) (k : Nat) : Int := rnd 28 (fdot a b k 32)
def fwdL (a b : List Int) : List Int := tab6 (fwdS a b) 16
theorem both_range {a b : List Int} (ha : pcmP a) (hb : pcmP b) {n : Nat} (hn : n < 32) : -32768 ≤ bothL a b n ∧ bothL a b n ≤ 32768 := by
 unfold bothL; split
 ·have := ha n (by omega); omega
 ·have := hb (n - 16) (by omega); omega
theorem bw_range {a b : List Int} (ha : pcmP a) (hb : pcmP b) {n : Nat} (hn : n < 32) : -554050813952 ≤ bothL a b n * WF n ∧ bothL a b n * WF n ≤ 554050813952 := by
 have := mul_bd (both_range ha hb hn) (WF_range hn)
 omega
theorem winS_range {a b : List Int} (ha : pcmP a) (hb : pcmP b) {n : Nat} (hn : n < 32) : -8454150 ≤ winS a b n ∧ winS a b n ≤ 8454150 := by
 have := bw_range ha hb hn
 unfold winS rnd
 simp only [Nat.reduceSub, Int.reducePow]
 omega
theorem wk_range {a b : List Int} (ha : pcmP a) (hb : pcmP b) {n k : Nat} (hn : n < 32) : -142945211449350 ≤ winS a b n * KF n k ∧ winS a b n * KF n k ≤ 142945211449350 := by
 have := mul_bd (winS_range ha hb hn) (KF_range (n := n) (k := k))
 omega
theorem fdot_range {a b : List Int} (ha : pcmP a) (hb : pcmP b) {k : Nat} : ∀ n : Nat, n ≤ 32 → -(142945211449350 * (n : Int)) ≤ fdot a b k n ∧ fdot a b k n ≤ 142945211449350 * (n : Int)
 | 0, _ => by show _ ≤ (0 : Int) ∧ (0 : Int) ≤ _; omega
 | n + 1, h => by
  have ih := fdot_range ha hb (k := k) n (by omega)
  have s := wk_range ha hb (n := n) (k := k) (by omega)
  simp only [fdot]
  omega
theorem fwdS_range {a b : List Int} (ha : pcmP a) (hb : pcmP b) {k : Nat} : -67108864 ≤ fwdS a b k ∧ fwdS a b k ≤ 67108864 := by
 have := fdot_range ha hb (k := k) 32 (by omega)
 unfold fwdS rnd
 simp only [Nat.reduceSub, Int.reducePow]
 omega
theorem fwdL_len (a b : List Int) : (fwdL a b).length = 16 := tab6_len _ _
theorem fwdL_may {a b : List Int} (ha : pcmP a) (hb : pcmP b) : bndP 67108864 16 (fwdL a b) := fun i hi => by
 rw [show (fwdL a b).getD i 0 = fwdS a b i from tab6_get _ _ _ _ hi]
 exact fwdS_range ha hb
theorem both_list {a b : List Int} (ha : a.length = 16) (hb : b.length = 16) : copyL (copyL (List.replicate 32 0) 0 (((a.drop 0).take 16).take 32)) 16 (((b.drop 0).take 16).take 16) = tab6 (bothL a b) 32 := by
 have e1 : ((a.drop 0).take 16).take 32 = a := by
  rw [List.drop_zero, List.take_take, show min 32 16 = 16 from rfl, ← ha, List.take_length]
 have e2 : ((b.drop 0).take 16).take 16 = b := by
  rw [List.drop_zero, List.take_take, Nat.min_self, ← hb, List.take_length]
 rw [e1, e2]
 have e3 : copyL (List.replicate 32 0) 0 a = a ++ List.replicate 16 0 := by
  unfold copyL
  rw [List.take_zero, List.nil_append, Nat.zero_add, ha, List.drop_replicate]
 have e4 : copyL (a ++ List.replicate 16 0) 16 b = a ++ b := by
  unfold copyL
  rw [hb, List.take_left' ha, List.drop_eq_nil_of_le (by rw [List.length_append, ha, List.length_replicate]; omega), List.append_nil]
 rw [e3, e4]
 refine list_ext_getD 0 (by rw [List.length_append, ha, hb, tab6_len]) fun i hi => ?_
 rw [List.length_append, ha, hb] at hi
 rw [tab6_get _ _ _ _ hi]
 unfold bothL
 by_cases h : i < 16
 ·rw [if_pos h, List.getD_eq_getElem?_getD, List.getElem?_append_left (by omega), ← List.getD_eq_getElem?_getD]
 ·rw [if_neg h, List.getD_eq_getElem?_getD, List.getElem?_append_right (by omega), ha, ← List.getD_eq_getElem?_getD]
theorem Forward_ok {a b : List Int} (la : a.length = 16) (lb : b.length = 16) (ha : pcmP a) (hb : pcmP b) : g_lapped_Forward a b = some (fwdL a b, 0) := by
 have z16 : (List.replicate 16 (0 : Int)).length = 16 := List.length_replicate
 have l1 := iter_count (f := g_lapped_Forward_r1) (fun n : Nat => ((n : Int), List.replicate 16 0, (winL, rowL), tab6 (mix (winS a b) (bothL a b) n) 32, ())) 32 (r := (List.replicate 16 0, (winL, rowL), tab6 (mix (winS a b) (bothL a b) 32) 32, ())) (fun n hn => by
  have g2 : (tab6 (mix (winS a b) (bothL a b) n) 32).getD n 0 = bothL a b n := mix_get _ hn
  have g1 : winL.getD n 0 = WF n := tab6_get _ _ _ _ hn
  have bw := bw_range ha hb hn
  have a1 : g_fixed_Round (bothL a b n * WF n) 16 = some (winS a b n) := fixed_Round_eq (n := 16) (by omega) (by omega) (by omega) (by omega)
  have s : (tab6 (mix (winS a b) (bothL a b) n) 32).set n (winS a b n) = _ := mix_set 0 hn
  simp (disch := omega) only [g_lapped_Forward_r1, dT, wT, Int.toNat_natCast, g1, g2, wrap_i64, a1, Option.bind_some, s]
  rfl) (by simp (disch := omega) only [g_lapped_Forward_r1, dF])
 rw [mix_all] at l1
 have inner : ∀ k : Nat, k < 16 → ∀ o, iter g_lapped_Forward_r2 ((k : Int), 0, rowL, (k : Int), tab6 (fun n => KF n k) 32, 32, 0, o, tab6 (winS a b) 32, ()) = some ((k : Int), fdot a b k 32, rowL, (k : Int), o, tab6 (winS a b) 32, ()) := fun k hk o => by
  have h := iter_count (f := g_lapped_Forward_r2) (fun n : Nat => ((k : Int), fdot a b k n, rowL, (k : Int), tab6 (fun n => KF n k) 32, 32, (n : Int), o, tab6 (winS a b) 32, ())) 32 (r := ((k : Int), fdot a b k 32, rowL, (k : Int), o, tab6 (winS a b) 32, ())) (fun n hn => by
   have g1 : (tab6 (fun n => KF n k) 32).getD n 0 = KF n k := tab6_get _ _ _ _ hn
   have g2 : (tab6 (winS a b) 32).getD n 0 = winS a b n := tab6_get _ _ _ _ hn
   have w := wk_range ha hb (n := n) (k := k) hn
   have f := fdot_range ha hb (k := k) n (by omega)
   simp (disch := omega) only [g_lapped_Forward_r2, dT, wT, tab6_len, Int.toNat_natCast, g1, g2, wrap_i64]
   rfl) (by simp (disch := omega) only [g_lapped_Forward_r2, dF])
  exact h
 have l3 := iter_count (f := g_lapped_Forward_r3) (fun k : Nat => (rowL, (k : Int), fillN (fwdS a b) k (List.replicate 16 0), tab6 (winS a b) 32, ())) 16 (r := (fillN (fwdS a b) 16 (List.replicate 16 0), ())) (fun k hk => by
  have e : ((tab6 (fun n => KF n k) 32).length : Int) = 32 := by rw [tab6_len]; rfl
  have f := fdot_range ha hb (k := k) 32 (by omega)
  have a1 : g_fixed_Round (fdot a b k 32) 28 = some (fwdS a b k) := fixed_Round_eq (n := 28) (by omega) (by omega) (by omega) (by omega)
  simp (disch := omega) only [g_lapped_Forward_r3, dT, wT, Int.toNat_natCast, rows_get hk, e, inner k hk, Option.bind_some, a1, wrap_succ, fill_step]) (by simp (disch := omega) only [g_lapped_Forward_r3, dF])
 rw [fillN_eq z16] at l3
 have l1 : iter g_lapped_Forward_r1 (0, List.replicate 16 0, (winL, rowL), tab6 (bothL a b) 32, ()) = _ := l1
 have l3 : iter g_lapped_Forward_r3 (rowL, 0, List.replicate 16 0, tab6 (winS a b) 32, ()) = _ := l3
 unfold g_lapped_Forward
 simp only [lapped_Check_eq, ckP_pos ha, ckP_pos hb, Option.bind_some, bne_self_eq_false, cond_false, shaped_eq, both_list la lb, l1, l3]
 rfl
theorem Forward_bad {a b : List Int} (h : ¬ (pcmP a ∧ pcmP b)) : g_lapped_Forward a b = some (List.replicate 16 0, 1) := by
 unfold g_lapped_Forward
 by_cases ha : pcmP a
 ·have hb : ¬ pcmP b := fun hb => h ⟨ha, hb⟩
  simp only [lapped_Check_eq, ckP_pos ha, ckP_neg hb, Option.bind_some, bne_self_eq_false, cond_false, ne10, cond_true]
 ·simp only [lapped_Check_eq, ckP_neg ha, Option.bind_some, ne10, cond_true]
end Go.Sq
namespace Go.Sq
open Go.Rx
def divS (a b : Int) : Int := if a.tmod b > 0 ∧ a.tmod b ≥ b - a.tmod b then a.tdiv b + 1 else if a.tmod b < 0 ∧ -(a.tmod b) ≥ b + a.tmod b then a.tdiv b - 1 else a.tdiv b
theorem tdiv_abs {a b A : Int} (h : -A ≤ a ∧ a ≤ A) : -A ≤ a.tdiv b ∧ a.tdiv b ≤ A := by
 have h1 : (a.tdiv b).natAbs = a.natAbs / b.natAbs := Int.natAbs_tdiv a b
 have h2 := Nat.div_le_self a.natAbs b.natAbs
 omega
theorem divS_range {a b A : Int} (h : -A ≤ a ∧ a ≤ A) : -A - 1 ≤ divS a b ∧ divS a b ≤ A + 1 := by
 have := tdiv_abs (b := b) h
 unfold divS; split
 ·omega
 ·split <;> omega
theorem Div_eq {a b : Int} (ha : -67108864 ≤ a ∧ a ≤ 67108864) (hb : 1 ≤ b ∧ b ≤ 4294967296) : g_fixed_Div a b = some (divS a b, 0) := by
 have t := tdiv_abs (b := b) ha
 have r := tmod_range (k := a) (n := b) (by omega)
 have d : decide (b < 1) = false := decide_eq_false (by omega)
 unfold g_fixed_Div divS
 simp only [d, cond_false, bneT (show b ≠ 0 by omega), cond_true]
 generalize a.tmod b = m at *
 generalize a.tdiv b = q at *
 have w0 : IntKind.i64.wrap q = q := wrap_i64 (by omega) (by omega)
 have w1 : IntKind.i64.wrap (b - m) = b - m := wrap_i64 (by omega) (by omega)
 have w2 : IntKind.i64.wrap (q + 1) = q + 1 := wrap_i64 (by omega) (by omega)
 have w3 : IntKind.i64.wrap (q - 1) = q - 1 := wrap_i64 (by omega) (by omega)
 have w4 : IntKind.i64.wrap (0 - m) = -m := by rw [wrap_i64 (by omega) (by omega)]; omega
 have w5 : IntKind.i64.wrap (b + m) = b + m := wrap_i64 (by omega) (by omega)
 simp only [w0, w1, w2, w3, w4, w5]
 by_cases h1 : m > 0
 ·simp only [dT h1, Option.bind_some]
  by_cases h2 : m ≥ b - m
  ·simp only [dT h2, Option.bind_some, w2, if_pos (show m > 0 ∧ m ≥ b - m from ⟨h1, h2⟩)]
  ·simp only [dF h2, dF (show ¬ m < 0 by omega), Option.bind_some, cond_false, if_neg (show ¬ (m > 0 ∧ m ≥ b - m) from fun h => h2 h.2), if_neg (show ¬ (m < 0 ∧ -m ≥ b + m) from fun h => by omega)]
 ·simp only [dF h1, Option.bind_some, cond_false, if_neg (show ¬ (m > 0 ∧ m ≥ b - m) from fun h => h1 h.1)]
  by_cases h3 : m < 0
  ·simp only [dT h3, Option.bind_some, w4, w5]
   by_cases h4 : -m ≥ b + m
   ·simp only [dT h4, Option.bind_some, w3, if_pos (show m < 0 ∧ -m ≥ b + m from ⟨h3, h4⟩)]
   ·simp only [dF h4, Option.bind_some, if_neg (show ¬ (m < 0 ∧ -m ≥ b + m) from fun h => h4 h.2)]
  ·simp only [dF h3, Option.bind_some, cond_false, if_neg (show ¬ (m < 0 ∧ -m ≥ b + m) from fun h => h3 h.1)]
noncomputable def smallS (x l : List Int) (n : Nat) : Int := if stepF l n = 0 then 0 else clipS (mostF l n) (divS (x.getD n 0) (stepF l n))
noncomputable def smallL (x l : List Int) : List Int := tab6 (smallS x l) 16
theorem smallL_len (x l : List Int) : (smallL x l).length = 16 := tab6_len _ _
theorem clipS_range {m v : Int} (hm : 0 ≤ m) : -m ≤ clipS m v ∧ clipS m v ≤ m := by unfold clipS; split <;> split <;> omega
theorem small_may {x l : List Int} (hl : l.length = 6) (h : lv l) : mayP (smallL x l) l := ⟨h, fun n hn => by
 rw [show (smallL x l).getD n 0 = smallS x l n from tab6_get _ _ _ _ hn]
 have m := mostF_range hl h n
 unfold smallS; split
 ·omega
 ·exact clipS_range m.1⟩
theorem zero_mayP {l : List Int} (hl : l.length = 6) (h : lv l) : mayP (List.replicate 16 0) l := ⟨h, fun n _ => by
 have := mostF_range hl h n
 rw [rep0]; omega⟩
theorem Small_eq {x l : List Int} (hx : bndP 67108864 16 x) (lx : x.length = 16) (hl : l.length = 6) (h : lv l) : g_quant_Small x l = some (smallL x l, (shareF l, 0)) := by
 have l1 := iter_count (f := g_quant_Small_r1) (fun n : Nat => (x, (n : Int), tab6 (mix (smallS x l) (fun _ => 0) n) 16, shareF l, tab6 (scF l) 16, ())) 16 (r := .inl (tab6 (mix (smallS x l) (fun _ => 0) 16) 16, shareF l, ())) (fun n hn => by
  have g : (tab6 (scF l) 16).getD n (0, 0) = scF l n := tab6_get _ _ _ _ hn
  have sr := stepF_range hl h n
  have m := mostF_range hl h n
  by_cases h0 : stepF l n = 0
  ·have e : smallS x l n = 0 := if_pos h0
   have st : tab6 (mix (smallS x l) (fun _ => 0) n) 16 = tab6 (mix (smallS x l) (fun _ => 0) (n + 1)) 16 := mix_keep e
   simp (disch := omega) only [g_quant_Small_r1, dT, wT, Int.toNat_natCast, g, scF_eq, eT, Option.bind_some, wrap_succ]
   rw [← st]
  ·have dv := Div_eq (a := x.getD n 0) (b := stepF l n) (hx n hn) (by omega)
   have dr := divS_range (b := stepF l n) (hx n hn)
   have e : smallS x l n = clipS (mostF l n) (divS (x.getD n 0) (stepF l n)) := if_neg h0
   have st : (tab6 (mix (smallS x l) (fun _ => 0) n) 16).set n (clipS (mostF l n) (divS (x.getD n 0) (stepF l n))) = tab6 (mix (smallS x l) (fun _ => 0) (n + 1)) 16 := e ▸ mix_set 0 hn
   have w : IntKind.i64.wrap (0 - mostF l n) = -mostF l n := by rw [wrap_i64 (by omega) (by omega)]; omega
   simp (disch := omega) only [g_quant_Small_r1, dT, wT, Int.toNat_natCast, g, scF_eq, eF, dv, Option.bind_some, nF, w, wrap_succ]
   rw [← st]; rfl) (by simp (disch := omega) only [g_quant_Small_r1, dF])
 rw [mix_all] at l1
 have l1 : iter g_quant_Small_r1 (x, 0, tab6 (fun _ => 0) 16, shareF l, tab6 (scF l) 16, ()) = _ := l1
 rw [← rep_tab 16] at l1
 unfold g_quant_Small
 simp only [scales_ok hl h, Measure_eq lx hx, Option.bind_some, bne_self_eq_false, cond_false, l1]
 rfl
abbrev TkT := List Int × Int × Int × Int × SyT
def sizedT (t : TkT) : Prop := t.1.length = 16 ∧ sizedY t.2.2.2.2
def okT (t : TkT) : Prop := (0 ≤ t.2.1 ∧ t.2.1 ≤ 4) ∧ (0 ≤ t.2.2.1 ∧ t.2.2.1 ≤ 1099511627776) ∧ (0 ≤ t.2.2.2.1 ∧ t.2.2.2.1 ≤ 1099511627776) ∧ pcmP t.1 ∧ okY t.2.2.2.2
instance (t : TkT) : Decidable (okT t) := by unfold okT; infer_instance
def ckT (t : TkT) : Int := if okT t then 0 else 1
theorem ckT_pos {t : TkT} (h : okT t) : ckT t = 0 := if_pos h
theorem ckT_neg {t : TkT} (h : ¬ okT t) : ckT t = 1 := if_neg h
theorem counted_eq (v : Int) : g_encoder_counted v = some (decide (0 ≤ v ∧ v ≤ 1099511627776)) := by
 unfold g_encoder_counted
 by_cases h : v ≥ 0
 ·rw [dT h]
  congr 1
  rw [decide_eq_decide]; omega
 ·rw [dF h, decide_eq_false (by omega)]
theorem encoder_Check_eq {t : TkT} (ht : sizedT t) : g_encoder_Check t = some (ckT t) := by
 have c := decoder_Check_eq ht.2
 have lc := lapped_Check_eq t.1
 unfold g_encoder_Check
 by_cases h1 : 0 ≤ t.2.1 ∧ t.2.1 ≤ 4
 ·by_cases h2 : 0 ≤ t.2.2.1 ∧ t.2.2.1 ≤ 1099511627776
  ·by_cases h3 : 0 ≤ t.2.2.2.1 ∧ t.2.2.2.1 ≤ 1099511627776
   ·by_cases h4 : pcmP t.1
    ·rw [ckP_pos h4] at lc
     have e : ckY t.2.2.2.2 = ckT t := by
      by_cases h5 : okY t.2.2.2.2
      ·rw [ckY_pos h5, ckT_pos ⟨h1, h2, h3, h4, h5⟩]
      ·rw [ckY_neg h5, ckT_neg fun h => h5 h.2.2.2.2]
     simp (disch := omega) only [dT, counted_eq, decide_eq_true h2, decide_eq_true h3, Option.bind_some, cond_true, Bool.not_true, cond_false, lc, bne_self_eq_false, c, e]
    ·rw [ckP_neg h4] at lc
     rw [ckT_neg fun h => h4 h.2.2.2.1]
     simp (disch := omega) only [dT, counted_eq, decide_eq_true h2, decide_eq_true h3, Option.bind_some, cond_true, Bool.not_true, cond_false, lc, ne10]
   ·rw [ckT_neg fun h => h3 h.2.2.1]
    simp (disch := omega) only [dT, counted_eq, decide_eq_true h2, decide_eq_false h3, Option.bind_some, cond_true, Bool.not_false]
  ·rw [ckT_neg fun h => h2 h.2.1]
   simp (disch := omega) only [dT, counted_eq, decide_eq_false h2, Option.bind_some, cond_true, Bool.not_false, cond_false]
 ·rw [ckT_neg fun h => h1 h.1]
  by_cases h0 : t.2.1 ≥ 0
  ·simp (disch := omega) only [dT, dF, Option.bind_some, cond_true, Bool.not_false]
  ·simp (disch := omega) only [dF, Option.bind_some, cond_true, Bool.not_false]
end Go.Sq
namespace Go.Sq
open Go.Rx
def zT : TkT := (List.replicate 16 0, (0, (0, (0, zY))))
def lessH (h : Int) : Int := if 0 < h - 1 then h - 1 else 0
def hangT (l : List Int) (h : Int) : Int := if loudS l ≥ 100 then 4 else lessH h
def kindT (t : TkT) (l : List Int) : Int := if t.2.2.2.2.2.2.1 = false ∨ t.2.2.1.tmod 8 = 0 ∨ ¬ nearP l t.2.2.2.2.2.1 then 0 else 1
def heardL (t : TkT) (p : List Int) : List Int := measL (fwdL t.1 p)
noncomputable def frameT (t : TkT) (p : List Int) : FrT := (kindT t (heardL t p), (heardL t p, smallL (fwdL t.1 p) (heardL t p)))
def sidT (t : TkT) (p : List Int) : FrT := (2, (heardL t p, List.replicate 16 0))
noncomputable def sendT (t : TkT) (f : FrT) : List Int := writeF f t.2.2.2.2.2.1
noncomputable def stepT (t : TkT) (p : List Int) : TkT × List Int × Int :=
 if okT t ∧ pcmP p then
  if loudS (heardL t p) ≥ 100 ∨ t.2.1 > 0 then
   ((p, (hangT (heardL t p) t.2.1, (t.2.2.1 + 1, (0, (stepY t.2.2.2.2 (sendT t (frameT t p))).1)))), (sendT t (frameT t p), 0))
  else if t.2.2.2.1.tmod 8 = 0 then
   ((p, (hangT (heardL t p) t.2.1, (0, (t.2.2.2.1 + 1, (stepY t.2.2.2.2 (sendT t (sidT t p))).1)))), (sendT t (sidT t p), 0))
  else ((p, (hangT (heardL t p) t.2.1, (0, (t.2.2.2.1 + 1, (restY t.2.2.2.2).1)))), ([], 0))
 else (zT, ([], 1))
theorem heard_ok {a b : List Int} (la : a.length = 16) (lb : b.length = 16) (ha : pcmP a) (hb : pcmP b) : g_encoder_heard a b = some (fwdL a b, (measL (fwdL a b), 0)) := by
 unfold g_encoder_heard
 simp only [Forward_ok la lb ha hb, Option.bind_some, beq_self_eq_true, cond_true, Measure_eq (fwdL_len a b) (fwdL_may ha hb)]
theorem heard_bad {a b : List Int} (h : ¬ (pcmP a ∧ pcmP b)) : g_encoder_heard a b = some (List.replicate 16 0, (List.replicate 6 0, 1)) := by
 unfold g_encoder_heard
 simp only [Forward_bad h, Option.bind_some, eq10, cond_false]
theorem step_quiet {s : SyT} {f : FrT} (ok : okY s) (hf : sized f) (h : okFr f s.2.1) (k2 : f.1 = 2) :
  stepY s (writeF f s.2.1) = hissY (s.1, (f.2.1, (false, (true, s.2.2.2.2)))) := by
 have e := show stepY s (writeF f s.2.1) = _ from if_pos ok
 rw [e, read_back hf h, if_neg (by simp), if_neg (by rw [k2]; simp), if_pos k2]
theorem frameT_ok {t : TkT} (ok : okT t) (p : List Int) : sized (frameT t p) ∧ okFr (frameT t p) t.2.2.2.2.2.1 ∧ (frameT t p).1 ≠ 2 ∧ ((frameT t p).1 = 1 → t.2.2.2.2.2.2.1 = true) := by
 have lm := measL_lv (fwdL t.1 p)
 refine ⟨⟨measL_len _, smallL_len _ _⟩, ⟨ok.2.2.2.2.2.1, small_may (measL_len _) lm, ?_⟩, ?_, ?_⟩
 ·show kindT t (heardL t p) = 0 ∨ kindT t (heardL t p) = 1 ∧ nearP (heardL t p) _ ∨ _
  unfold kindT
  split
  ·exact .inl rfl
  ·rename_i h
   refine .inr (.inl ⟨rfl, ?_⟩)
   exact Decidable.not_not.1 fun hn => h (.inr (.inr hn))
 ·show kindT t (heardL t p) ≠ 2
  unfold kindT; split <;> decide
 ·show kindT t (heardL t p) = 1 → _
  unfold kindT
  split
  ·intro h; exact absurd h (by decide)
  ·rename_i h
   intro _
   cases hl : t.2.2.2.2.2.2.1
   ·exact absurd (.inl hl) h
   ·rfl
theorem sidT_ok {t : TkT} (ok : okT t) (p : List Int) : sized (sidT t p) ∧ okFr (sidT t p) t.2.2.2.2.2.1 := by
 have lm := measL_lv (fwdL t.1 p)
 exact ⟨⟨measL_len _, List.length_replicate⟩, ⟨ok.2.2.2.2.2.1, zero_mayP (measL_len _) lm, .inr (.inr ⟨rfl, rfl⟩)⟩⟩
theorem sendT_step {t : TkT} (ok : okT t) (p : List Int) : stepY t.2.2.2.2 (sendT t (frameT t p)) = soundY (t.2.2.2.2.1, (heardL t p, (true, (false, t.2.2.2.2.2.2.2.2)))) (greatL (smallL (fwdL t.1 p) (heardL t p)) (heardL t p)) := by
 obtain ⟨f1, f2, f3, f4⟩ := frameT_ok ok p
 exact step_sound ok.2.2.2.2 f1 f2 f3 f4
theorem sidT_step {t : TkT} (ok : okT t) (p : List Int) : stepY t.2.2.2.2 (sendT t (sidT t p)) = hissY (t.2.2.2.2.1, (heardL t p, (false, (true, t.2.2.2.2.2.2.2.2)))) := by
 obtain ⟨f1, f2⟩ := sidT_ok ok p
 exact step_quiet ok.2.2.2.2 f1 f2 rfl
theorem encoder_Step_eq {t : TkT} {p : List Int} (ht : sizedT t) (lp : p.length = 16) : g_encoder_Step t p = some (stepT t p) := by
 have c := encoder_Check_eq ht
 by_cases hp : pcmP t.1 ∧ pcmP p
 ·have hd := heard_ok ht.1 lp hp.1 hp.2
  by_cases ok : okT t
  ·rw [ckT_pos ok] at c
   have e := show stepT t p = _ from if_pos ⟨ok, hp.2⟩
   rw [e]
   have lm := measL_lv (fwdL t.1 p)
   have ld := bands_Loud_eq (measL_len (fwdL t.1 p)) lm
   have sm := Small_eq (fwdL_may hp.1 hp.2) (fwdL_len t.1 p) (measL_len (fwdL t.1 p)) lm
   have nr := frame_Near_eq (l := measL (fwdL t.1 p)) (p := t.2.2.2.2.2.1) (measL_len _) ht.2.2
   have wS : IntKind.i64.wrap (t.2.2.1 + 1) = t.2.2.1 + 1 := wrap_i64 (by have := ok.2.1; omega) (by have := ok.2.1; omega)
   have wQ : IntKind.i64.wrap (t.2.2.2.1 + 1) = t.2.2.2.1 + 1 := wrap_i64 (by have := ok.2.2.1; omega) (by have := ok.2.2.1; omega)
   have wH : IntKind.i64.wrap (t.2.1 - 1) = t.2.1 - 1 := wrap_i64 (by have := ok.1; omega) (by have := ok.1; omega)
   obtain ⟨f1, f2, f3, f4⟩ := frameT_ok ok p
   obtain ⟨q1, q2⟩ := sidT_ok ok p
   have fw := frame_Write_ok f1 ht.2.2 f2
   have fb := write_bytes f1 f2
   have fs := decoder_Step_eq ht.2 fb.1 fb.2
   have e0 : (stepY t.2.2.2.2 (writeF (frameT t p) t.2.2.2.2.2.1)).2.2 = 0 := by
    rw [show stepY t.2.2.2.2 (writeF (frameT t p) t.2.2.2.2.2.1) = _ from sendT_step ok p]; rfl
   have qw := frame_Write_ok q1 ht.2.2 q2
   have qb := write_bytes q1 q2
   have qs := decoder_Step_eq ht.2 qb.1 qb.2
   have q0 : (stepY t.2.2.2.2 (writeF (sidT t p) t.2.2.2.2.2.1)).2.2 = 0 := by
    rw [show stepY t.2.2.2.2 (writeF (sidT t p) t.2.2.2.2.2.1) = _ from sidT_step ok p]; rfl
   have rs := decoder_Rest_eq ht.2
   have r0 := (restY_ok ok.2.2.2.2).2
   have fr : ∀ k, kindT t (heardL t p) = k → (k, (measL (fwdL t.1 p), smallL (fwdL t.1 p) (measL (fwdL t.1 p)))) = frameT t p := fun k hk => by subst hk; rfl
   have sr : (2, (measL (fwdL t.1 p), List.replicate 16 0)) = sidT t p := rfl
   unfold g_encoder_Step
   simp only [hd, Option.bind_some, bne_self_eq_false, cond_false, c, ld]
   by_cases hl : loudS (measL (fwdL t.1 p)) ≥ 100
   ·have eh : hangT (heardL t p) t.2.1 = 4 := if_pos hl
    rw [if_pos (.inl hl)]
    by_cases k1 : t.2.2.2.2.2.2.1 = false
    ·simp only [decide_eq_true hl, cond_true, Option.bind_some, k1, Bool.not_false, sm, beq_self_eq_true, fr 0 (if_pos (.inl k1)), fw, fs, e0, wS, bne_self_eq_false, cond_false, eh]
     rfl
    ·have k1' : t.2.2.2.2.2.2.1 = true := by simpa using k1
     by_cases k2 : t.2.2.1.tmod 8 = 0
     ·simp only [decide_eq_true hl, cond_true, Option.bind_some, k1', Bool.not_true, beqT k2, sm, beq_self_eq_true, fr 0 (if_pos (.inr (.inl k2))), fw, fs, e0, wS, bne_self_eq_false, cond_false, eh]
      rfl
     ·by_cases k3 : nearP (measL (fwdL t.1 p)) t.2.2.2.2.2.1
      ·have ek : kindT t (heardL t p) = 1 := if_neg fun h => h.elim k1 fun h => h.elim k2 fun h => h k3
       simp only [decide_eq_true hl, cond_true, Option.bind_some, k1', Bool.not_true, beqF k2, nr, decide_eq_true k3, sm, beq_self_eq_true, fr 1 ek, fw, fs, e0, wS, bne_self_eq_false, cond_false, eh]
       rfl
      ·simp only [decide_eq_true hl, cond_true, Option.bind_some, k1', Bool.not_true, beqF k2, nr, decide_eq_false k3, Bool.not_false, sm, beq_self_eq_true, fr 0 (if_pos (.inr (.inr k3))), fw, fs, e0, wS, bne_self_eq_false, cond_false, eh]
       rfl
   ·have eh : hangT (heardL t p) t.2.1 = lessH t.2.1 := if_neg hl
    by_cases hh : t.2.1 > 0
    ·rw [if_pos (.inr hh)]
     by_cases k1 : t.2.2.2.2.2.2.1 = false
     ·simp only [decide_eq_false hl, decide_eq_true hh, cond_true, Option.bind_some, k1, Bool.not_false, sm, beq_self_eq_true, fr 0 (if_pos (.inl k1)), fw, fs, e0, wS, wH, bne_self_eq_false, cond_false, eh]
      rfl
     ·have k1' : t.2.2.2.2.2.2.1 = true := by simpa using k1
      by_cases k2 : t.2.2.1.tmod 8 = 0
      ·simp only [decide_eq_false hl, decide_eq_true hh, cond_true, Option.bind_some, k1', Bool.not_true, beqT k2, sm, beq_self_eq_true, fr 0 (if_pos (.inr (.inl k2))), fw, fs, e0, wS, wH, bne_self_eq_false, cond_false, eh]
       rfl
      ·by_cases k3 : nearP (measL (fwdL t.1 p)) t.2.2.2.2.2.1
       ·have ek : kindT t (heardL t p) = 1 := if_neg fun h => h.elim k1 fun h => h.elim k2 fun h => h k3
        simp only [decide_eq_false hl, decide_eq_true hh, cond_true, Option.bind_some, k1', Bool.not_true, beqF k2, nr, decide_eq_true k3, sm, beq_self_eq_true, fr 1 ek, fw, fs, e0, wS, wH, bne_self_eq_false, cond_false, eh]
        rfl
       ·simp only [decide_eq_false hl, decide_eq_true hh, cond_true, Option.bind_some, k1', Bool.not_true, beqF k2, nr, decide_eq_false k3, Bool.not_false, sm, beq_self_eq_true, fr 0 (if_pos (.inr (.inr k3))), fw, fs, e0, wS, wH, bne_self_eq_false, cond_false, eh]
        rfl
    ·rw [if_neg fun h => h.elim hl hh]
     by_cases hq : t.2.2.2.1.tmod 8 = 0
     ·rw [if_pos hq]
      simp only [decide_eq_false hl, decide_eq_false hh, cond_false, Option.bind_some, beqT hq, cond_true, sr, qw, qs, q0, wQ, wH, beq_self_eq_true, bne_self_eq_false, eh]
      rfl
     ·rw [if_neg hq]
      simp only [decide_eq_false hl, decide_eq_false hh, cond_false, Option.bind_some, beqF hq, rs, r0, wQ, wH, bne_self_eq_false, eh]
      rfl
  ·rw [ckT_neg ok] at c
   have e : stepT t p = (zT, ([], 1)) := if_neg fun h => ok h.1
   rw [e]
   unfold g_encoder_Step
   simp only [hd, Option.bind_some, bne_self_eq_false, cond_false, c, ne10, cond_true]
   rfl
 ·have hd := heard_bad hp
  have e : stepT t p = (zT, ([], 1)) := if_neg fun h => hp ⟨h.1.2.2.2.1, h.2⟩
  rw [e]
  unfold g_encoder_Step
  simp only [hd, Option.bind_some, ne10, cond_true]
  rfl
end Go.Sq
namespace Go.Sq
open Go.Rx
abbrev hushT (t : TkT) : Bool := t.2.2.2.2.2.2.2.1
def sendsT (t : TkT) (p : List Int) : Prop := loudS (heardL t p) ≥ 100 ∨ t.2.1 > 0
instance (t : TkT) (p : List Int) : Decidable (sendsT t p) := by unfold sendsT; infer_instance
def hushI (t : TkT) : Prop := (0 < t.2.2.2.1 → hushT t = true)
theorem hangT_range {l : List Int} {h : Int} (hh : 0 ≤ h ∧ h ≤ 4) : 0 ≤ hangT l h ∧ hangT l h ≤ 4 := by
 unfold hangT lessH; split
 ·omega
 ·split <;> omega
theorem stepT_sends {t : TkT} {p : List Int} (ok : okT t) (hp : pcmP p) (h : sendsT t p) :
  stepT t p = ((p, (hangT (heardL t p) t.2.1, (t.2.2.1 + 1, (0, (stepY t.2.2.2.2 (sendT t (frameT t p))).1)))), (sendT t (frameT t p), 0)) := by
 have e := show stepT t p = _ from if_pos ⟨ok, hp⟩
 unfold sendsT at h
 rw [e, if_pos h]
theorem stepT_sid {t : TkT} {p : List Int} (ok : okT t) (hp : pcmP p) (h : ¬ sendsT t p) (hq : t.2.2.2.1.tmod 8 = 0) :
  stepT t p = ((p, (hangT (heardL t p) t.2.1, (0, (t.2.2.2.1 + 1, (stepY t.2.2.2.2 (sendT t (sidT t p))).1)))), (sendT t (sidT t p), 0)) := by
 have e := show stepT t p = _ from if_pos ⟨ok, hp⟩
 unfold sendsT at h
 rw [e, if_neg h, if_pos hq]
theorem stepT_rest {t : TkT} {p : List Int} (ok : okT t) (hp : pcmP p) (h : ¬ sendsT t p) (hq : t.2.2.2.1.tmod 8 ≠ 0) :
  stepT t p = ((p, (hangT (heardL t p) t.2.1, (0, (t.2.2.2.1 + 1, (restY t.2.2.2.2).1)))), ([], 0)) := by
 have e := show stepT t p = _ from if_pos ⟨ok, hp⟩
 unfold sendsT at h
 rw [e, if_neg h, if_neg hq]
theorem send_local {t : TkT} (ok : okT t) (p : List Int) : okY (stepY t.2.2.2.2 (sendT t (frameT t p))).1 ∧ sizedY (stepY t.2.2.2.2 (sendT t (frameT t p))).1 ∧ (stepY t.2.2.2.2 (sendT t (frameT t p))).2.2 = 0 ∧
  (stepY t.2.2.2.2 (sendT t (frameT t p))).1.2.2.1 = true ∧ (stepY t.2.2.2.2 (sendT t (frameT t p))).1.2.2.2.1 = false := by
 rw [sendT_step ok p]
 exact ⟨soundY_ok (greatL_may _ _) (measL_lv _) (fun h => Bool.false_ne_true h.2), soundY_sized (measL_len _), rfl, rfl, rfl⟩
theorem sid_local {t : TkT} (ok : okT t) (p : List Int) : okY (stepY t.2.2.2.2 (sendT t (sidT t p))).1 ∧ sizedY (stepY t.2.2.2.2 (sendT t (sidT t p))).1 ∧ (stepY t.2.2.2.2 (sendT t (sidT t p))).2.2 = 0 ∧
  (stepY t.2.2.2.2 (sendT t (sidT t p))).1.2.2.1 = false ∧ (stepY t.2.2.2.2 (sendT t (sidT t p))).1.2.2.2.1 = true := by
 rw [sidT_step ok p]
 exact ⟨soundY_ok (noiseL_may _ _) (measL_lv _) (fun h => Bool.false_ne_true h.1), soundY_sized (measL_len _), rfl, rfl, rfl⟩
theorem send_len {t : TkT} (ok : okT t) (p : List Int) : 1 ≤ (sendT t (frameT t p)).length ∧ (sendT t (frameT t p)).length ≤ 37 := by
 obtain ⟨f1, f2, _⟩ := frameT_ok ok p
 exact write_len37 f1 f2
theorem sid_len {t : TkT} (ok : okT t) (p : List Int) : 1 ≤ (sendT t (sidT t p)).length ∧ (sendT t (sidT t p)).length ≤ 37 := by
 obtain ⟨f1, f2⟩ := sidT_ok ok p
 exact write_len37 f1 f2
theorem rest_local {t : TkT} (ht : sizedT t) (ok : okT t) (hi : hushI t) (hq : t.2.2.2.1.tmod 8 ≠ 0) : okY (restY t.2.2.2.2).1 ∧ sizedY (restY t.2.2.2.2).1 ∧ (restY t.2.2.2.2).2.2 = 0 ∧
  (restY t.2.2.2.2).1.2.2.1 = false ∧ (restY t.2.2.2.2).1.2.2.2.1 = true := by
 have f := rest_facts ok.2.2.2.2
 have h0 : 0 < t.2.2.2.1 := by
  have := ok.2.2.1.1
  by_cases h : t.2.2.2.1 = 0
  ·rw [h] at hq; exact absurd rfl hq
  ·omega
 exact ⟨(restY_ok ok.2.2.2.2).1, restY_sized ht.2, f.1, f.2.2.2.1, f.2.2.1.trans (hi h0)⟩
theorem stepT_next {t : TkT} {p : List Int} (ht : sizedT t) (ok : okT t) (hi : hushI t) (hp : pcmP p) (lp : p.length = 16) (hs : t.2.2.1 < 1099511627776) (hq : t.2.2.2.1 < 1099511627776) :
  sizedT (stepT t p).1 ∧ okT (stepT t p).1 ∧ hushI (stepT t p).1 ∧ (stepT t p).2.2 = 0 := by
 have hr := hangT_range (l := heardL t p) ok.1
 have o2 := ok.2.1
 have o3 := ok.2.2.1
 by_cases h : sendsT t p
 ·rw [stepT_sends ok hp h]
  obtain ⟨a, b, c, d, e⟩ := send_local ok p
  exact ⟨⟨lp, b⟩, ⟨hr, ⟨by show 0 ≤ t.2.2.1 + 1; omega, by show t.2.2.1 + 1 ≤ _; omega⟩, ⟨Int.le_refl _, by show (0 : Int) ≤ _; omega⟩, hp, a⟩, fun h => absurd h (Int.lt_irrefl 0), rfl⟩
 ·by_cases h8 : t.2.2.2.1.tmod 8 = 0
  ·rw [stepT_sid ok hp h h8]
   obtain ⟨a, b, c, d, e⟩ := sid_local ok p
   exact ⟨⟨lp, b⟩, ⟨hr, ⟨Int.le_refl _, by show (0 : Int) ≤ _; omega⟩, ⟨by show 0 ≤ t.2.2.2.1 + 1; omega, by show t.2.2.2.1 + 1 ≤ _; omega⟩, hp, a⟩, fun _ => e, rfl⟩
  ·rw [stepT_rest ok hp h h8]
   obtain ⟨a, b, c, d, e⟩ := rest_local ht ok hi h8
   exact ⟨⟨lp, b⟩, ⟨hr, ⟨Int.le_refl _, by show (0 : Int) ≤ _; omega⟩, ⟨by show 0 ≤ t.2.2.2.1 + 1; omega, by show t.2.2.2.1 + 1 ≤ _; omega⟩, hp, a⟩, fun _ => e, rfl⟩
def sT : TkT := (List.replicate 16 0, (0, (0, (0, sY))))
theorem encoder_Start_eq : g_encoder_Start = some sT := rfl
theorem zP_pcm : pcmP zP := fun i _ => by unfold zP; rw [rep0]; omega
theorem sT_sized : sizedT sT := ⟨List.length_replicate, sY_sized⟩
theorem sT_ok : okT sT := ⟨by decide, by decide, by decide, zP_pcm, sY_ok⟩
theorem sT_hush : hushI sT := fun h => absurd h (Int.lt_irrefl 0)
theorem fwd_zero : fwdL zP zP = zP := by
 have hb : ∀ n, bothL zP zP n = 0 := fun n => by unfold bothL zP; split <;> rw [rep0]
 have hw : ∀ n, winS zP zP n = 0 := fun n => by unfold winS; rw [hb, Int.zero_mul]; decide
 have hd : ∀ k n, fdot zP zP k n = 0 := fun k n => by
  induction n with
  | zero => rfl
  | succ n ih => rw [fdot, ih, hw, Int.zero_mul]; rfl
 rw [show (zP : List Int) = tab6 (fun _ => 0) 16 from rep_tab 16]
 rw [show (tab6 (fun _ => 0) 16 : List Int) = zP from (rep_tab 16).symm]
 unfold fwdL
 refine (tab6_congr fun k _ => ?_).trans (rep_tab 16).symm
 show rnd 28 (fdot zP zP k 32) = 0
 rw [hd]; decide
theorem meas_zero : measL zP = List.replicate 6 0 := by
 have hs : ∀ a n, sqs zP a n = 0 := fun a n => by
  induction n with
  | zero => rfl
  | succ n ih => rw [sqs, ih, show zP.getD (a + n) 0 = 0 from rep0 _ _]; rfl
 rw [rep_tab 6]
 exact tab6_congr fun b _ => by unfold measS powS; rw [hs]; rfl
theorem heard_zero {t : TkT} (h : t.1 = zP) : heardL t zP = List.replicate 6 0 := by unfold heardL; rw [h, fwd_zero, meas_zero]
theorem loud_zero : loudS (List.replicate 6 0) = 0 := by decide
theorem quiet_zero {t : TkT} (h : t.1 = zP) (hh : t.2.1 = 0) : ¬ sendsT t zP := fun hs => by
 unfold sendsT at hs
 rw [heard_zero h, loud_zero, hh] at hs
 omega
end Go.Sq
namespace Go.Sq
open Go.Rx
theorem litP : ([0, 0, 0, 0, 0, 0, 0, 0, 0, 0, 0, 0, 0, 0, 0, 0] : List Int) = zP := rfl
theorem send_bytes {t : TkT} (ok : okT t) (p : List Int) : bytes (sendT t (frameT t p)) ∧ small (sendT t (frameT t p)) := by
 obtain ⟨f1, f2, _⟩ := frameT_ok ok p
 exact write_bytes f1 f2
theorem sid_bytes {t : TkT} (ok : okT t) (p : List Int) : bytes (sendT t (sidT t p)) ∧ small (sendT t (sidT t p)) := by
 obtain ⟨f1, f2⟩ := sidT_ok ok p
 exact write_bytes f1 f2
theorem sid_kind {t : TkT} (ok : okT t) (p : List Int) : g_frame_Kind (sendT t (sidT t p)) = some (2, 0) := by
 obtain ⟨f1, f2⟩ := sidT_ok ok p
 have b := sid_bytes ok p
 rw [frame_Kind_eq b.1 b.2, show kindF (sendT t (sidT t p)) = _ from kind_back f1 f2]
 rfl
theorem live12_eq : g_law12_live = some true := by
 have s1 := encoder_Step_eq sT_sized zP_len
 have n1 : ¬ sendsT sT zP := quiet_zero rfl rfl
 have e1 := stepT_sid sT_ok zP_pcm n1 (by decide)
 have nx := stepT_next sT_sized sT_ok sT_hush zP_pcm zP_len (by decide) (by decide)
 have k := sid_kind sT_ok zP
 have sl := sid_local sT_ok zP
 have hz : hangT (heardL sT zP) sT.2.1 = 0 := by
  rw [heard_zero (t := sT) rfl]; rfl
 rw [hz] at e1
 generalize hr : stepT sT zP = r at s1 nx e1
 obtain ⟨u, b, er⟩ := r
 have eu : u = (zP, (0, (0, (sT.2.2.2.1 + 1, (stepY sT.2.2.2.2 (sendT sT (sidT sT zP))).1)))) := congrArg (·.1) e1
 have eb : b = sendT sT (sidT sT zP) := congrArg (·.2.1) e1
 have ee : er = 0 := congrArg (·.2.2) e1
 have u1 : u.1 = zP := by rw [eu]
 have u2 : u.2.1 = 0 := by rw [eu]
 have u3 : u.2.2.2.1 = 1 := by rw [eu]; rfl
 have u4 : u.2.2.2.2.2.2.2.1 = true := by rw [eu]; exact sl.2.2.2.2
 subst eb ee
 clear eu e1 hr
 have s2 := encoder_Step_eq nx.1 zP_len
 have n2 := quiet_zero u1 u2
 have e2 := stepT_rest nx.2.1 zP_pcm n2 (by rw [u3]; decide)
 rw [e2] at s2
 unfold g_law12_live
 simp only [litP, encoder_Start_eq, Option.bind_some, s1, k, s2, beq_self_eq_true, cond_true, u3, u4]
 rfl
def goodE (l : List (List Int)) : Prop := (∀ i, i < l.length → pcmP (l.getD i zP)) ∧ l.length ≤ 40
instance (l : List (List Int)) : Decidable (goodE l) := by unfold goodE; infer_instance
theorem good12_eq {l : List (List Int)} (hs : small l) : g_law12_good l = some (decide (goodE l)) := by
 unfold small at hs
 unfold g_law12_good
 have step : ∀ i, i < l.length → pcmP (l.getD i zP) → g_law12_good_r1 (l, l, (l.length : Int), (i : Int), ()) = some (.inl (l, l, (l.length : Int), ((i + 1 : Nat) : Int), ())) := fun i hi h => by
  have c := r07_Check_eq (l.getD i zP)
  rw [ckP_pos h] at c
  simp (disch := omega) only [g_law12_good_r1, dT, wT, Int.toNat_natCast, show List.replicate 16 (0 : Int) = zP from rfl, c, Option.bind_some, nF, wrap_i64]; rfl
 rcases first_not (fun i => pcmP (l.getD i zP)) l.length with h | ⟨k, hk, h, h'⟩
 ·rw [show iter g_law12_good_r1 (l, l, (l.length : Int), 0, ()) = some (.inl (l, ())) from iter_count (fun i : Nat => (l, l, (l.length : Int), (i : Int), ())) l.length (fun i hi => step i hi (h i hi)) (by simp (disch := omega) only [g_law12_good_r1, dF])]
  simp only [Option.bind_some]
  congr 1
  rw [decide_eq_decide]
  exact ⟨fun e => ⟨h, by omega⟩, fun e => by have := e.2; omega⟩
 ·have c := r07_Check_eq (l.getD k zP)
  rw [ckP_neg h'] at c
  rw [show iter g_law12_good_r1 (l, l, (l.length : Int), 0, ()) = some (.inr (false, ())) from iter_count (fun i : Nat => (l, l, (l.length : Int), (i : Int), ())) k (fun i hi => step i (by omega) (h i hi)) (by
   simp (disch := omega) only [g_law12_good_r1, dT, wT, Int.toNat_natCast, show List.replicate 16 (0 : Int) = zP from rfl, c, Option.bind_some, nT])]
  simp only [Option.bind_some]
  rw [decide_eq_false fun e => h' (e.1 k hk)]
end Go.Sq
namespace Go.Sq
open Go.Rx
end Go.Sq
namespace Go.Sq
open Go.Rx
theorem getP_mem {l : List (List Int)} {i : Nat} (h : i < l.length) : l.getD i zP ∈ l := by
 rw [List.getD_eq_getElem?_getD, List.getElem?_eq_getElem h]; exact List.getElem_mem h
structure TInv (t : TkT) (i : Nat) : Prop where
 sz : sizedT t
 ok : okT t
 hu : hushI t
 se : t.2.2.1 ≤ (i : Int)
 qu : t.2.2.2.1 ≤ (i : Int)
theorem tinv_start : TInv sT 0 := ⟨sT_sized, sT_ok, sT_hush, Int.le_refl _, Int.le_refl _⟩
theorem tinv_step {t : TkT} {p : List Int} {i : Nat} (h : TInv t i) (hp : pcmP p) (lp : p.length = 16) (hi : i ≤ 1000) : TInv (stepT t p).1 (i + 1) ∧ (stepT t p).2.2 = 0 := by
 obtain ⟨a1, a2, a3, a4, a5⟩ := h
 have nx := stepT_next a1 a2 a3 hp lp (by omega) (by omega)
 refine ⟨⟨nx.1, nx.2.1, nx.2.2.1, ?_, ?_⟩, nx.2.2.2⟩
 ·by_cases hs : sendsT t p
  ·rw [stepT_sends a2 hp hs]; show t.2.2.1 + 1 ≤ _; omega
  ·by_cases h8 : t.2.2.2.1.tmod 8 = 0
   ·rw [stepT_sid a2 hp hs h8]; show (0 : Int) ≤ _; omega
   ·rw [stepT_rest a2 hp hs h8]; show (0 : Int) ≤ _; omega
 ·by_cases hs : sendsT t p
  ·rw [stepT_sends a2 hp hs]; show (0 : Int) ≤ _; omega
  ·by_cases h8 : t.2.2.2.1.tmod 8 = 0
   ·rw [stepT_sid a2 hp hs h8]; show t.2.2.2.1 + 1 ≤ _; omega
   ·rw [stepT_rest a2 hp hs h8]; show t.2.2.2.1 + 1 ≤ _; omega
noncomputable def talkN (l : List (List Int)) : Nat → TkT
 | 0 => sT
 | i + 1 => (stepT (talkN l i) (l.getD i zP)).1
theorem talk_inv {l : List (List Int)} (hg : goodE l) (hl : ∀ p ∈ l, p.length = 16) : ∀ i, i ≤ l.length → TInv (talkN l i) i
 | 0, _ => tinv_start
 | i + 1, hi => (tinv_step (talk_inv hg hl i (by omega)) (hg.1 i (by omega)) (hl _ (getP_mem (by omega))) (by have := hg.2; omega)).1
end Go.Sq
namespace Go.Sq
open Go.Rx
theorem same_eq {s : SyT} (hs : sizedY s) (ok : okY s) : g_decoder_Same s s = some true := by
 have c := decoder_Check_eq hs
 rw [ckY_pos ok] at c
 unfold g_decoder_Same
 simp only [beq_self_eq_true, Bool.and_self, cond_true, c, Option.bind_some]
theorem local_round {t : TkT} {l : List (List Int)} {i : Nat} (h : TInv t i) (hi : i < l.length) (hl : l.length ≤ 40) (hp : pcmP (l.getD i zP)) (lp : (l.getD i zP).length = 16) :
  g_law12_EncoderLocal_r1 (true, l, (l.length : Int), (i : Int), t, t.2.2.2.2, ()) = some (.inl (true, l, (l.length : Int), ((i + 1 : Nat) : Int), (stepT t (l.getD i zP)).1, (stepT t (l.getD i zP)).1.2.2.2.2, ())) := by
 obtain ⟨p, ep⟩ : ∃ p, l.getD i zP = p := ⟨_, rfl⟩
 rw [ep] at hp lp ⊢
 have st := encoder_Step_eq h.sz lp
 have ws : IntKind.i64.wrap ((i : Int) + 1) = ((i + 1 : Nat) : Int) := wrap_succ (by omega)
 by_cases hs : sendsT t p
 ·have e := stepT_sends h.ok hp hs
  have sl := send_local h.ok p
  have ln := send_len h.ok p
  obtain ⟨f1, f2, _⟩ := frameT_ok h.ok p
  have sb := send_bytes h.ok p
  have rd := frame_Read_eq sb.1 sb.2 h.sz.2.2
  rw [show readF (sendT t (frameT t p)) t.2.2.2.2.2.1 = _ from read_back f1 f2] at rd
  have ds := decoder_Step_eq h.sz.2 sb.1 sb.2
  have sm := same_eq sl.2.1 sl.1
  have d40 : decide (((sendT t (frameT t p)).length : Int) > 40) = false := decide_eq_false (by omega)
  have d0 : decide (((sendT t (frameT t p)).length : Int) > 0) = true := decide_eq_true (by omega)
  rw [e] at st ⊢
  simp (disch := omega) only [g_law12_EncoderLocal_r1, dT, wT, Int.toNat_natCast, show List.replicate 16 (0 : Int) = zP from rfl, ep, st, Option.bind_some, bne_self_eq_false, cond_false, d40, d0, cond_true, rd, ds, bneF sl.2.2.1, beq_self_eq_true, Bool.and_self, Bool.not_true, sm, ws]
 ·by_cases h8 : t.2.2.2.1.tmod 8 = 0
  ·have e := stepT_sid h.ok hp hs h8
   have sl := sid_local h.ok p
   have ln := sid_len h.ok p
   obtain ⟨f1, f2⟩ := sidT_ok h.ok p
   have sb := sid_bytes h.ok p
   have rd := frame_Read_eq sb.1 sb.2 h.sz.2.2
   rw [show readF (sendT t (sidT t p)) t.2.2.2.2.2.1 = _ from read_back f1 f2] at rd
   have ds := decoder_Step_eq h.sz.2 sb.1 sb.2
   have sm := same_eq sl.2.1 sl.1
   have d40 : decide (((sendT t (sidT t p)).length : Int) > 40) = false := decide_eq_false (by omega)
   have d0 : decide (((sendT t (sidT t p)).length : Int) > 0) = true := decide_eq_true (by omega)
   rw [e] at st ⊢
   simp (disch := omega) only [g_law12_EncoderLocal_r1, dT, wT, Int.toNat_natCast, show List.replicate 16 (0 : Int) = zP from rfl, ep, st, Option.bind_some, bne_self_eq_false, cond_false, d40, d0, cond_true, rd, ds, bneF sl.2.2.1, beq_self_eq_true, Bool.and_self, Bool.not_true, sm, ws]
  ·have e := stepT_rest h.ok hp hs h8
   have sl := rest_local h.sz h.ok h.hu h8
   have rs := decoder_Rest_eq h.sz.2
   have sm := same_eq sl.2.1 sl.1
   have d40 : decide ((([] : List Int).length : Int) > 40) = false := rfl
   have d0 : decide ((([] : List Int).length : Int) > 0) = false := rfl
   rw [e] at st ⊢
   simp (disch := omega) only [g_law12_EncoderLocal_r1, dT, wT, Int.toNat_natCast, show List.replicate 16 (0 : Int) = zP from rfl, ep, st, Option.bind_some, bne_self_eq_false, cond_false, d40, d0, rs, bneF sl.2.2.1, beq_self_eq_true, Bool.and_self, Bool.not_true, sm, ws]
theorem law_Local {l : List (List Int)} (sm : small l) (hl : ∀ p ∈ l, p.length = 16) : g_law12_EncoderLocal l = some true := by
 have ge := good12_eq sm
 unfold g_law12_EncoderLocal
 by_cases hg : goodE l
 ·have inv := talk_inv hg hl
  have loop := iter_count (f := g_law12_EncoderLocal_r1) (fun i : Nat => (true, l, (l.length : Int), (i : Int), talkN l i, (talkN l i).2.2.2.2, ())) l.length (r := .inl (true, ())) (fun i hi =>
   local_round (inv i (by omega)) hi hg.2 (hg.1 i hi) (hl _ (getP_mem hi))) (by simp (disch := omega) only [g_law12_EncoderLocal_r1, dF])
  have loop : iter g_law12_EncoderLocal_r1 (true, l, (l.length : Int), 0, sT, sY, ()) = _ := loop
  simp only [live12_eq, ge, decide_eq_true hg, Option.bind_some, Bool.not_true, cond_false, encoder_Start_eq, start_eq, loop]
 ·simp only [live12_eq, ge, decide_eq_false hg, Option.bind_some, Bool.not_false, cond_true]
end Go.Sq
namespace Go.Sq
open Go.Rx
end Go.Sq
namespace Go.Sq
open Go.Rx
end Go.Sq
namespace Go.Sq
open Go.Rx
end Go.Sq
namespace Go.Sq
open Go.Rx
theorem wf_pl {l : List (List Int)} (h : wf (.sl (.arr 16 (.int .i64))) l) : small l ∧ ∀ p ∈ l, p.length = 16 := ⟨small_of h.1, fun p hp => (h.2 p hp).1⟩
theorem pure_ELocal (x : denL [(false, .sl (.arr 16 (.int .i64)))]) (h : wfL _ x) : g_law12_EncoderLocal x = some true := law_Local (wf_pl h).1 (wf_pl h).2
end Go.Sq
