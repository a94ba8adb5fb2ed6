import Derived.Test.YtghhiloencpimaaGreatX1
import Derived.Test.YtghhiloencpimaaGreatX3
import Derived.ProofKit
import Derived.Test.YtghhiloencpimaaGreatF
import Derived.KernelRfl
set_option linter.unusedSimpArgs false
set_option linter.unusedVariables false
set_option linter.unusedSectionVars false
namespace Go.Sq
open Go.Rx
theorem l0A {X R : Type} {f : X → Option (X ⊕ R)} (μ : X → Nat) (Inv : X → Prop) (Q : R → Prop)
  (h : ∀ x, Inv x → (∃ y, f x = some (.inl y) ∧ Inv y ∧ μ y < μ x) ∨ ∃ r, f x = some (.inr r) ∧ Q r) : ∀ x, Inv x → ∃ r, a1A f x = some r ∧ Q r := by
 have key : ∀ n x, μ x ≤ n → Inv x → ∃ m r, m7A f m x = some r ∧ Q r := by
  intro n
  induction n with
  | zero =>
   intro x hn hx
   rcases h x hx with ⟨y, _, _, h3⟩ | ⟨r, h1, h2⟩
   ·omega
   ·exact ⟨1, r, by simp [m7A, h1], h2⟩
  | succ n ih =>
   intro x hn hx
   rcases h x hx with ⟨y, h1, h2, h3⟩ | ⟨r, h1, h2⟩
   ·obtain ⟨m, r, h4, h5⟩ := ih y (by omega) h2
    exact ⟨m + 1, r, by simp [m7A, h1, h4], h5⟩
   ·exact ⟨1, r, by simp [m7A, h1], h2⟩
 intro x hx
 obtain ⟨m, r, h1, h2⟩ := key (μ x) x (Nat.le_refl _) hx
 have mono : ∀ m k x (r : R), m7A f m x = some r → m7A f (m + k) x = some r := by
  intro m
  induction m with
  | zero => intro k x r h; cases h
  | succ m ih =>
   intro k x r h
   rw [show m + 1 + k = (m + k) + 1 from by omega]
   simp only [m7A] at h ⊢
   cases hf : f x with
   | none => rw [hf] at h; cases h
   | some z =>
    rw [hf] at h
    cases z with
    | inl y => exact ih k y r h
    | inr s => exact h
 refine ⟨r, ?_, h2⟩
 unfold a1A
 have he : ∃ n r, m7A f n x = some r := ⟨m, r, h1⟩
 rw [dif_pos he]
 congr 1
 have h3 := Classical.choose_spec (Classical.choose_spec he)
 have a := mono m (Classical.choose he) x r h1
 have b := mono (Classical.choose he) m x _ h3
 rw [Nat.add_comm] at b
 rw [a] at b
 exact (Option.some.inj b).symm
theorem b8C {n : Int} (h : 0 ≤ n) (h' : n < 256) : IntKind.u8.wrap n = n := by
 simp only [IntKind.wrap, IntKind.bits, IntKind.signed]; simp; omega
theorem t1B {n : Int} (h : 0 ≤ n) (h' : n < 4294967296) : IntKind.u32.wrap n = n := by
 simp only [IntKind.wrap, IntKind.bits, IntKind.signed]; simp; omega
theorem b5A {n : Int} (h : 0 ≤ n) (h' : n < 18446744073709551616) : IntKind.u64.wrap n = n := by
 simp only [IntKind.wrap, IntKind.bits, IntKind.signed]; simp; omega
theorem a3A {n : Int} (h : -9223372036854775808 ≤ n) (h' : n < 9223372036854775808) : IntKind.i64.wrap n = n := by
 simp only [IntKind.wrap, IntKind.bits, IntKind.signed]; simp; split <;> omega
theorem w8F {i : Int} {n : Nat} : a2A i n = true ↔ 0 ≤ i ∧ i < n := by simp [a2A]
theorem w9F {a b : Int} {n : Nat} : w0A a b n = true ↔ 0 ≤ a ∧ a ≤ b ∧ b ≤ n := by simp [w0A, and_assoc]
theorem n1B {b n : Nat} : f2A b n = true ↔ n * b ≤ 140737488355328 := by simp [f2A]
theorem l1E {a b : Nat} (ha : a < 2 ^ 8) (hb : b < 2 ^ 8) : d4A .or .u8 (a : Int) (b : Int) = ((a ||| b : Nat) : Int) := by
 have hor : a ||| b < 2 ^ 8 := Nat.or_lt_two_pow ha hb
 have ea : (BitVec.ofInt 8 (a : Int)).toNat = a := by simp; omega
 have eb : (BitVec.ofInt 8 (b : Int)).toNat = b := by simp; omega
 show IntKind.u8.wrap (((BitVec.ofInt 8 (a : Int) ||| BitVec.ofInt 8 (b : Int)).toNat : Nat) : Int) = _
 rw [BitVec.toNat_or, ea, eb]
 exact b8C (by omega) (by omega)
theorem l2E {a b : Nat} (ha : a < 2 ^ 64) (hb : b < 2 ^ 64) : d4A .or .u64 (a : Int) (b : Int) = ((a ||| b : Nat) : Int) := by
 have hor : a ||| b < 2 ^ 64 := Nat.or_lt_two_pow ha hb
 have ea : (BitVec.ofInt 64 (a : Int)).toNat = a := by simp; omega
 have eb : (BitVec.ofInt 64 (b : Int)).toNat = b := by simp; omega
 show IntKind.u64.wrap (((BitVec.ofInt 64 (a : Int) ||| BitVec.ofInt 64 (b : Int)).toNat : Nat) : Int) = _
 rw [BitVec.toNat_or, ea, eb]
 exact b5A (by omega) (by omega)
theorem r2C {a b : Nat} (ha : a < 2 ^ 64) (hb : b < 2 ^ 64) : d4A .and .u64 (a : Int) (b : Int) = ((a &&& b : Nat) : Int) := by
 have hor : a &&& b < 2 ^ 64 := Nat.and_lt_two_pow a hb
 have ea : (BitVec.ofInt 64 (a : Int)).toNat = a := by simp; omega
 have eb : (BitVec.ofInt 64 (b : Int)).toNat = b := by simp; omega
 show IntKind.u64.wrap (((BitVec.ofInt 64 (a : Int) &&& BitVec.ofInt 64 (b : Int)).toNat : Nat) : Int) = _
 rw [BitVec.toNat_and, ea, eb]
 exact b5A (by omega) (by omega)
theorem n2B {k : IntKind} {a n : Nat} (h : n ≤ k.bits) : c5A k (a : Int) (n : Int) = ((a >>> n : Nat) : Int) := by
 simp only [c5A, Int.toNat_natCast, Nat.min_eq_left h, Nat.shiftRight_eq_div_pow]
 rw [show ((2 : Int) ^ n) = ((2 ^ n : Nat) : Int) from by simp, Int.fdiv_eq_ediv_of_nonneg _ (Int.natCast_nonneg _)]
 simp
theorem l3E {a n : Nat} (h : n ≤ 8) : c9A .u8 (a : Int) (n : Int) = (((a <<< n) % 256 : Nat) : Int) := by
 simp only [c9A, Int.toNat_natCast, IntKind.bits, Nat.min_eq_left h, Nat.shiftLeft_eq, IntKind.wrap, IntKind.signed]
 simp
theorem q4D {a n : Nat} (h : n ≤ 64) : c9A .u64 (a : Int) (n : Int) = (((a <<< n) % 2 ^ 64 : Nat) : Int) := by
 simp only [c9A, Int.toNat_natCast, IntKind.bits, Nat.min_eq_left h, Nat.shiftLeft_eq, IntKind.wrap, IntKind.signed]
 simp
theorem q5D {a b : Nat} : (a : Int).tdiv (b : Int) = ((a / b : Nat) : Int) := by simp
theorem q6D {a b : Nat} : (a : Int).tmod (b : Int) = ((a % b : Nat) : Int) := rfl
section
variable {α : Type} {a b : α}
theorem dT {p : Prop} [Decidable p] (h : p) : (bif decide p then a else b) = a := by simp [h]
theorem dF {p : Prop} [Decidable p] (h : ¬ p) : (bif decide p then a else b) = b := by simp [h]
theorem wT {i : Int} {n : Nat} (h : 0 ≤ i) (h' : i < n) : (bif a2A i n then a else b) = a := by rw [w8F.2 ⟨h, h'⟩]; rfl
theorem gT {i j : Int} {n : Nat} (h : 0 ≤ i) (h' : i ≤ j) (h2 : j ≤ n) : (bif w0A i j n then a else b) = a := by rw [w9F.2 ⟨h, h', h2⟩]; rfl
theorem rT {k n : Nat} (h : n * k ≤ 140737488355328) : (bif f2A k n then a else b) = a := by rw [n1B.2 h]; rfl
theorem nT {x y : Int} (h : x ≠ y) : (bif x != y then a else b) = a := by rw [bne_iff_ne.2 h]; rfl
theorem nF {x y : Int} (h : x = y) : (bif x != y then a else b) = b := by rw [h, bne_self_eq_false]; rfl
theorem eT {x y : Int} (h : x = y) : (bif x == y then a else b) = a := by rw [beq_iff_eq.2 h]; rfl
theorem eF {x y : Int} (h : x ≠ y) : (bif x == y then a else b) = b := by rw [beq_false_of_ne h]; rfl
theorem cT {c : Bool} (h : c = true) : (bif c then a else b) = a := by rw [h]; rfl
theorem cF {c : Bool} (h : c = false) : (bif c then a else b) = b := by rw [h]; rfl
end
def n3B (f : Nat → Bool) : Nat → Nat
 | 0 => 0
 | n + 1 => n3B f n + (f n).toNat * 2 ^ n
theorem q7D (f : Nat → Bool) : ∀ n, n3B f n < 2 ^ n
 | 0 => by simp [n3B]
 | n + 1 => by
  have := q7D f n
  have h2 : (f n).toNat ≤ 1 := Bool.toNat_le _
  simp only [n3B, Nat.pow_succ]
  have : (f n).toNat * 2 ^ n ≤ 1 * 2 ^ n := Nat.mul_le_mul_right _ h2
  omega
theorem l4E (f : Nat → Bool) : ∀ n i, (n3B f n).testBit i = (decide (i < n) && f i)
 | 0, i => by simp [n3B]
 | n + 1, i => by
  have hlt := q7D f n
  simp only [n3B]
  rw [Nat.add_comm, Nat.mul_comm, Nat.testBit_two_pow_mul_add _ hlt, l4E f n i]
  by_cases h : i < n
  ·rw [if_pos h]; simp [h, Nat.lt_succ_of_lt h]
  ·rw [if_neg h]
   by_cases h' : i = n
   ·subst h'; cases f i <;> simp
   ·have : ¬ i < n + 1 := by omega
    simp only [this, decide_false, Bool.false_and]
    have hi : i - n ≠ 0 := by omega
    cases f n
    ·simp
    ·obtain ⟨k, hk⟩ : ∃ k, i - n = k + 1 := ⟨i - n - 1, by omega⟩
     rw [hk]
     simp [Nat.testBit, Nat.shiftRight_eq_div_pow]
     rw [Nat.div_eq_of_lt (Nat.one_lt_two_pow (by omega))]
end Go.Sq
namespace Go.Sq
open Go.Rx
def byt (l : List Bool) (k : Nat) : Nat := n3B (fun i => l.getD (8 * k + (7 - i)) false) 8
def pk (l : List Bool) : List Int := (List.range ((l.length + 7) / 8)).map fun k => ((byt l k : Nat) : Int)
theorem c7D (l : List Bool) (k : Nat) : byt l k < 256 := q7D _ 8
theorem b2B (l : List Bool) (k i : Nat) : (byt l k).testBit i = (decide (i < 8) && l.getD (8 * k + (7 - i)) false) := l4E _ 8 i
theorem m8A (l : List Bool) : (pk l).length = (l.length + 7) / 8 := by simp [pk]
theorem l5E {l : List Bool} {k : Nat} (h : l.length ≤ 8 * k) : byt l k = 0 := by
 apply Nat.eq_of_testBit_eq
 intro i
 rw [b2B, List.getD_eq_getElem?_getD, List.getElem?_eq_none (by omega)]
 simp
theorem n4B (l : List Bool) (k : Nat) : (pk l).getD k 0 = ((byt l k : Nat) : Int) := by
 rw [List.getD_eq_getElem?_getD]
 by_cases h : k < (l.length + 7) / 8
 ·rw [List.getElem?_eq_getElem (by rw [m8A]; exact h)]
  simp [pk]
 ·rw [List.getElem?_eq_none (by rw [m8A]; omega), l5E (by omega)]; rfl
def bytes (B : List Int) : Prop := ∀ x ∈ B, 0 ≤ x ∧ x ≤ 255
theorem q8D {B : List Int} (h : bytes B) (k : Nat) : 0 ≤ B.getD k 0 ∧ B.getD k 0 ≤ 255 := by
 rw [List.getD_eq_getElem?_getD]
 cases hk : B[k]? with
 | none => simp
 | some x => exact h x (List.mem_of_getElem? hk)
theorem m9A (l : List Bool) : bytes (pk l) := by
 intro x hx
 simp only [pk, List.mem_map] at hx
 obtain ⟨k, _, rfl⟩ := hx
 have := c7D l k
 omega
theorem x0F {L M : List Int} (h : L.length = M.length) (hg : ∀ k, k < L.length → L.getD k 0 = M.getD k 0) : L = M := by
 apply List.ext_getElem h
 intro k h1 h2
 have := hg k h1
 simpa [List.getD_eq_getElem?_getD, h1, h2] using this
theorem c8D {L : List Int} {l : List Bool} (h : L.length = (l.length + 7) / 8) (hg : ∀ k, k < L.length → L.getD k 0 = ((byt l k : Nat) : Int)) : L = pk l :=
 x0F (by rw [h, m8A]) fun k hk => by rw [hg k hk, n4B]
def bt (B : List Int) (i : Nat) : Bool := (B.getD (i / 8) 0).toNat.testBit (7 - i % 8)
theorem l6E (l : List Bool) (i : Nat) : bt (pk l) i = l.getD i false := by
 unfold bt
 rw [n4B, Int.toNat_natCast, b2B]
 have h1 : 7 - i % 8 < 8 := by omega
 have h2 : 8 * (i / 8) + (7 - (7 - i % 8)) = i := by omega
 rw [h2]; simp [h1]
def unp (B : List Int) (n : Nat) : List Bool := (List.range n).map (bt B)
theorem q9D (B : List Int) (n : Nat) : (unp B n).length = n := by simp [unp]
theorem x1F (B : List Int) (n i : Nat) : (unp B n).getD i false = (decide (i < n) && bt B i) := by
 by_cases h : i < n
 ·simp [unp, List.getD_eq_getElem?_getD, h]
 ·simp [unp, List.getD_eq_getElem?_getD, h]
def okB (B : List Int) (N : Int) : Prop := 0 ≤ N ∧ N ≤ 65536 ∧ (B.length : Int) = (N + 7) / 8 ∧ ∀ i : Nat, N ≤ i → i < 8 * B.length → bt B i = false
theorem j3B {B : List Int} {N : Int} (hB : bytes B) : okB B N ↔ ∃ l : List Bool, B = pk l ∧ N = l.length ∧ l.length ≤ 65536 := by
 constructor
 ·rintro ⟨h0, h1, h2, h3⟩
  refine ⟨unp B N.toNat, ?_, by rw [q9D]; omega, by rw [q9D]; omega⟩
  refine c8D (by rw [q9D]; omega) fun k hk => ?_
  have hx := q8D hB k
  have : (B.getD k 0).toNat = byt (unp B N.toNat) k := by
   apply Nat.eq_of_testBit_eq
   intro i
   rw [b2B, x1F]
   by_cases hi : i < 8
   ·have e1 : (8 * k + (7 - i)) / 8 = k := by omega
    have e2 : 7 - (8 * k + (7 - i)) % 8 = i := by omega
    have hb : bt B (8 * k + (7 - i)) = (B.getD k 0).toNat.testBit i := by unfold bt; rw [e1, e2]
    rw [← hb]
    by_cases hn : 8 * k + (7 - i) < N.toNat
    ·simp [hi, hn]
    ·rw [h3 _ (by omega) (by omega)]; simp
   ·rw [Nat.testBit_lt_two_pow (Nat.lt_of_lt_of_le (show (B.getD k 0).toNat < 2 ^ 8 by omega) (Nat.pow_le_pow_right (by omega) (by omega)))]
    simp [hi]
  omega
 ·rintro ⟨l, rfl, rfl, h⟩
  refine ⟨by omega, by omega, by rw [m8A]; omega, fun i h1 _ => ?_⟩
  rw [l6E, List.getD_eq_getElem?_getD, List.getElem?_eq_none (by omega)]; rfl
theorem r0D (a s : Nat) : (a >>> s) &&& 1 = (a.testBit s).toNat := by
 rw [Nat.and_one_is_mod, Nat.testBit_eq_decide_div_mod_eq, Nat.shiftRight_eq_div_pow]
 rcases Nat.mod_two_eq_zero_or_one (a / 2 ^ s) with h | h <;> simp [h]
end Go.Sq
namespace Go.Sq
open Go.Rx
theorem t2B {α : Type} (l m : List α) (i : Nat) (d : α) : (l ++ m).getD i d = if i < l.length then l.getD i d else m.getD (i - l.length) d := by
 simp only [List.getD_eq_getElem?_getD, List.getElem?_append]
 split <;> rfl
theorem r1D {α : Type} {l : List α} {i : Nat} {d : α} (h : l.length ≤ i) : l.getD i d = d := by
 rw [List.getD_eq_getElem?_getD, List.getElem?_eq_none h]; rfl
theorem r2D {L M : List Bool} (h : L.length = M.length) (hg : ∀ k, k < L.length → L.getD k false = M.getD k false) : L = M := by
 apply List.ext_getElem h
 intro k h1 h2
 have := hg k h1
 simpa [List.getD_eq_getElem?_getD, h1, h2] using this
theorem x2F {α : Type} (l : List α) (q i : Nat) (x d : α) : (l.set q x).getD i d = if q = i ∧ q < l.length then x else l.getD i d := by
 simp only [List.getD_eq_getElem?_getD, List.getElem?_set]
 by_cases h : q = i
 ·subst h
  by_cases h' : q < l.length
  ·simp [h']
  ·simp [h']
 ·simp [h]
def bn (v w : Nat) : List Bool := (List.range w).map fun i => v.testBit (w - 1 - i)
theorem w2A (v w : Nat) : (bn v w).length = w := by simp [bn]
theorem t3B (v w i : Nat) : (bn v w).getD i false = (decide (i < w) && v.testBit (w - 1 - i)) := by
 by_cases h : i < w
 ·simp [bn, List.getD_eq_getElem?_getD, h]
 ·simp [bn, List.getD_eq_getElem?_getD, h]
theorem l7E (v : Nat) : bn v 0 = [] := rfl
theorem l8E {v w k : Nat} (h : k ≤ w) : bn v w = bn (v >>> (w - k)) k ++ bn v (w - k) := by
 apply r2D
 ·simp only [List.length_append, w2A]; omega
 ·intro i hi
  rw [w2A] at hi
  rw [t2B, t3B, t3B, t3B, w2A, Nat.testBit_shiftRight]
  split
  ·rename_i h'
   simp only [hi, h', decide_true, Bool.true_and]
   congr 1; omega
  ·rename_i h'
   have : i - k < w - k := by omega
   simp only [hi, this, decide_true, Bool.true_and]
   congr 1; omega
theorem l9E (x : Nat) : bn x 1 = [x.testBit 0] := rfl
theorem m0E {l m : List Bool} {k : Nat} (h : 8 * (k + 1) ≤ l.length) : byt (l ++ m) k = byt l k := by
 apply Nat.eq_of_testBit_eq
 intro i
 rw [b2B, b2B, t2B, if_pos (by omega)]
theorem m1E {l : List Bool} {u k : Nat} (hk : 0 < k) (h : l.length % 8 + k ≤ 8) :
  pk (l ++ bn u k) = (if l.length % 8 = 0 then pk l ++ [0] else pk l).set (l.length / 8) ((byt l (l.length / 8) ||| ((u % 2 ^ k) <<< (8 - l.length % 8 - k)) : Nat) : Int) := by
 have hlen : (if l.length % 8 = 0 then pk l ++ [0] else pk l).length = l.length / 8 + 1 := by
  split
  ·rw [List.length_append, m8A, List.length_singleton]; omega
  ·rw [m8A]; omega
 symm
 apply c8D
 ·rw [List.length_set, hlen, List.length_append, w2A]; omega
 ·intro j hj
  rw [List.length_set, hlen] at hj
  rw [x2F, hlen]
  by_cases hq : l.length / 8 = j
  ·rw [if_pos ⟨hq, by omega⟩]
   congr 1
   apply Nat.eq_of_testBit_eq
   intro i
   rw [Nat.testBit_or, b2B, b2B, Nat.testBit_shiftLeft, Nat.testBit_mod_two_pow, t2B, t3B, hq]
   by_cases hi : i < 8
   ·simp only [hi, decide_true, Bool.true_and]
    by_cases h1 : 8 * j + (7 - i) < l.length
    ·rw [if_pos h1]
     have : ¬ (i ≥ 8 - l.length % 8 - k ∧ i - (8 - l.length % 8 - k) < k) := by omega
     rw [Bool.or_eq_left_iff_imp.2]
     intro h2
     simp only [Bool.and_eq_true, decide_eq_true_eq] at h2
     exact absurd ⟨h2.1, h2.2.1⟩ this
    ·rw [if_neg h1, r1D (by omega), Bool.false_or]
     by_cases h2 : i ≥ 8 - l.length % 8 - k
     ·have h3 : i - (8 - l.length % 8 - k) < k := by omega
      have h4 : 8 * j + (7 - i) - l.length < k := by omega
      simp only [h2, h3, h4, decide_true, Bool.true_and]
      congr 1; omega
     ·have h4 : ¬ 8 * j + (7 - i) - l.length < k := by omega
      simp [h2, h4]
   ·have : ¬ (i - (8 - l.length % 8 - k) < k) := by omega
    simp [hi, this]
  ·rw [if_neg (fun h => hq h.1), m0E (by omega)]
   split
   ·rw [t2B, if_pos (by rw [m8A]; omega), n4B]
   ·rw [n4B]
theorem m2E (l : List Bool) : (if l.length % 8 = 0 then pk l ++ [0] else pk l).getD (l.length / 8) 0 = ((byt l (l.length / 8) : Nat) : Int) := by
 split
 ·rw [t2B, if_neg (by rw [m8A]; omega), l5E (by omega), m8A]
  rw [show l.length / 8 - (l.length + 7) / 8 = 0 from by omega]; rfl
 ·rw [n4B]
theorem m3E (l : List Bool) : (if l.length % 8 = 0 then pk l ++ [0] else pk l).length = l.length / 8 + 1 := by
 split
 ·rw [List.length_append, m8A, List.length_singleton]; omega
 ·rw [m8A]; omega
theorem x3F {a k : Nat} (ha : a < 2 ^ 64) (hk : k < 64) : d4A .and .u64 (a : Int) (((2 ^ k - 1 : Nat)) : Int) = ((a % 2 ^ k : Nat) : Int) := by
 have : 2 ^ k < 2 ^ 64 := Nat.pow_lt_pow_right (by omega) hk
 rw [r2C ha (by omega), Nat.and_two_pow_sub_one_eq_mod]
theorem m4E {k : Nat} (hk : k < 64) : c9A .u64 1 (k : Int) = ((2 ^ k : Nat) : Int) := by
 have h := q4D (a := 1) (n := k) (by omega)
 have : 2 ^ k < 2 ^ 64 := Nat.pow_lt_pow_right (by omega) hk
 rw [show ((1 : Nat) : Int) = 1 from rfl] at h
 rw [h, Nat.shiftLeft_eq, Nat.one_mul, Nat.mod_eq_of_lt this]
theorem x4F {n : Nat} (hn : n < 2 ^ 60) : d4A .and .i64 (-(n : Int)) 7 = (((8 - n % 8) % 8 : Nat) : Int) := by
 have ea : (BitVec.ofInt 64 (-(n : Int))).toNat = (2 ^ 64 - n) % 2 ^ 64 := by simp; omega
 have eb : (BitVec.ofInt 64 (7 : Int)).toNat = 2 ^ 3 - 1 := by simp
 show IntKind.i64.wrap (((BitVec.ofInt 64 (-(n : Int)) &&& BitVec.ofInt 64 (7 : Int)).toNat : Nat) : Int) = _
 rw [BitVec.toNat_and, ea, eb, Nat.and_two_pow_sub_one_eq_mod]
 rw [a3A (by omega) (by omega)]
 congr 1; omega
end Go.Sq
namespace Go.Sq
open Go.Rx
def b3A {α : Type} (B : List α) : Prop := B.length ≤ 9223372036854775807
open Classical in
noncomputable def ck (B : List Int) (N : Int) : Int := if okB B N then 0 else 1
theorem x5F {x k : Nat} (hk : k ≤ 8) : (x <<< k) % 256 = 0 ↔ ∀ j, j < 8 - k → x.testBit j = false := by
 constructor
 ·intro h j hj
  have := congrArg (fun n => n.testBit (j + k)) h
  rw [show (256 : Nat) = 2 ^ 8 from rfl, Nat.testBit_mod_two_pow, Nat.testBit_shiftLeft] at this
  simp at this
  have := this (by omega)
  simpa using this
 ·intro h
  apply Nat.eq_of_testBit_eq
  intro i
  rw [show (256 : Nat) = 2 ^ 8 from rfl, Nat.testBit_mod_two_pow, Nat.testBit_shiftLeft]
  simp only [Nat.zero_testBit, Bool.and_eq_false_iff, decide_eq_false_iff_not]
  by_cases hi : i < 8
  ·by_cases hk' : k ≤ i
   ·right; right; exact h _ (by omega)
   ·right; left; omega
  ·left; exact hi
theorem e3B {B : List Int} {N : Int} (hB : bytes B) (hs : b3A B) : v9A (B, N) = some (ck B N) := by
 unfold b3A at hs
 unfold ck
 by_cases h1 : N < 0
 ·rw [if_neg fun h => by have := h.1; omega]
  simp (disch := omega) only [v9A, dT, dF, Option.bind_some, cond_true]
 by_cases h2 : N > 65536
 ·rw [if_neg fun h => by have := h.2.1; omega]
  simp (disch := omega) only [v9A, dT, dF, Option.bind_some, cond_true]
 obtain ⟨n, rfl⟩ : ∃ n : Nat, N = n := ⟨N.toNat, by omega⟩
 have e1 : (((n : Int) + 7).tdiv 8) = ((n + 7) / 8 : Nat) := by rw [Int.tdiv_eq_ediv_of_nonneg (by omega)]; omega
 have hm : (n : Int).tmod 8 = ((n % 8 : Nat) : Int) := by rw [Int.tmod_eq_emod_of_nonneg (by omega)]; omega
 by_cases h3 : B.length = (n + 7) / 8
 ·by_cases hk : n % 8 = 0
  ·rw [if_pos ⟨by omega, by omega, by omega, fun i h4 h5 => by omega⟩]
   simp (disch := omega) only [v9A, dT, dF, nF, Option.bind_some, cond_false, a3A, e1, hm]
  ·have e4 : ((B.length : Int) - 1).toNat = n / 8 := by omega
   have hx := q8D hB (n / 8)
   obtain ⟨x, hx'⟩ : ∃ x : Nat, B.getD (n / 8) 0 = x := ⟨(B.getD (n / 8) 0).toNat, by omega⟩
   have hx2 : x < 256 := by omega
   have hsh : c9A .u8 (x : Int) ((n % 8 : Nat) : Int) = (((x <<< (n % 8)) % 256 : Nat) : Int) := l3E (by omega)
   have key : okB B n ↔ (x <<< (n % 8)) % 256 = 0 := by
    rw [x5F (by omega)]
    constructor
    ·intro h j hj
     have := h.2.2.2 (8 * (n / 8) + (7 - j)) (by omega) (by omega)
     unfold bt at this
     rw [show (8 * (n / 8) + (7 - j)) / 8 = n / 8 from by omega, hx', show 7 - (8 * (n / 8) + (7 - j)) % 8 = j from by omega] at this
     simpa using this
    ·intro h
     refine ⟨by omega, by omega, by omega, fun i h4 h5 => ?_⟩
     unfold bt
     rw [show i / 8 = n / 8 from by omega, hx', Int.toNat_natCast]
     exact h _ (by omega)
   by_cases hz : (x <<< (n % 8)) % 256 = 0
   ·rw [if_pos (key.2 hz)]
    simp (disch := omega) only [v9A, dT, dF, nF, wT, Option.bind_some, cond_false, a3A, e1, hm, e4, hx', hsh]
   ·rw [if_neg fun h => hz (key.1 h)]
    simp (disch := omega) only [v9A, dT, dF, nF, nT, wT, Option.bind_some, cond_true, a3A, e1, hm, e4, hx', hsh]
 ·rw [if_neg fun h => h3 (by have := h.2.2.1; omega)]
  simp (disch := omega) only [v9A, dT, dF, nF, nT, wT, Option.bind_some, cond_true, a3A, e1, hm]
theorem m5E {B : List Int} {N : Int} (hB : bytes B) {i : Nat} (hi : i < 8 * B.length) (hi2 : i < 2 ^ 60) : z3B (B, N) i = some (((bt B i).toNat : Nat) : Int) := by
 have e1 : (i : Int).tdiv 8 = ((i / 8 : Nat) : Int) := q5D
 have e2 : (i : Int).tmod 8 = ((i % 8 : Nat) : Int) := q6D
 have hx := q8D hB (i / 8)
 obtain ⟨x, hx'⟩ : ∃ x : Nat, B.getD (i / 8) 0 = x := ⟨(B.getD (i / 8) 0).toNat, by omega⟩
 have e3 : (7 : Int) - ((i % 8 : Nat) : Int) = ((7 - i % 8 : Nat) : Int) := by omega
 have e4 : c5A .u8 (x : Int) ((7 - i % 8 : Nat) : Int) = ((x >>> (7 - i % 8) : Nat) : Int) := n2B (by simp only [IntKind.bits]; omega)
 have hlt : x >>> (7 - i % 8) ≤ x := by rw [Nat.shiftRight_eq_div_pow]; exact Nat.div_le_self _ _
 have e5 : d4A .and .u64 ((x >>> (7 - i % 8) : Nat) : Int) 1 = (((x >>> (7 - i % 8)) &&& 1 : Nat) : Int) := r2C (b := 1) (by omega) (by omega)
 rw [r0D] at e5
 generalize x >>> (7 - i % 8) = y at e4 hlt e5
 simp (disch := omega) only [z3B, e1, e2, e3, a3A, b5A, wT, dT, Int.toNat_natCast, hx', e4, e5]
 unfold bt
 rw [hx', Int.toNat_natCast]
theorem x6F {l : List Bool} {i : Nat} (hl : l.length ≤ 65536) (hi2 : i < 2 ^ 60) : r4B (pk l, l.length) i = some (((l.getD i false).toNat : Nat) : Int) := by
 by_cases h : i < l.length
 ·have e1 : (i : Int).tdiv 8 = ((i / 8 : Nat) : Int) := q5D
  have e2 : (i : Int).tmod 8 = ((i % 8 : Nat) : Int) := q6D
  have e3 : (7 : Int) - ((i % 8 : Nat) : Int) = ((7 - i % 8 : Nat) : Int) := by omega
  have hx := c7D l (i / 8)
  have e4 : c5A .u8 (byt l (i / 8) : Int) ((7 - i % 8 : Nat) : Int) = ((byt l (i / 8) >>> (7 - i % 8) : Nat) : Int) := n2B (by simp only [IntKind.bits]; omega)
  have hlt : byt l (i / 8) >>> (7 - i % 8) ≤ byt l (i / 8) := by rw [Nat.shiftRight_eq_div_pow]; exact Nat.div_le_self _ _
  have e5 : d4A .and .u64 ((byt l (i / 8) >>> (7 - i % 8) : Nat) : Int) 1 = (((byt l (i / 8) >>> (7 - i % 8)) &&& 1 : Nat) : Int) := r2C (b := 1) (by omega) (by omega)
  have hpl := m8A l
  rw [r0D] at e5
  generalize byt l (i / 8) >>> (7 - i % 8) = y at e4 hlt e5
  simp (disch := omega) only [r4B, e1, e2, e3, a3A, b5A, wT, dT, dF, Int.toNat_natCast, n4B, e4, e5]
  rw [b2B]
  have h1 : 7 - i % 8 < 8 := by omega
  have h2 : 8 * (i / 8) + (7 - (7 - i % 8)) = i := by omega
  rw [h2]; simp [h1]
 ·simp (disch := omega) only [r4B, dT]
  rw [r1D (by omega)]; rfl
theorem t4B {B : List Int} {N : Int} (hB : bytes B) (hs : b3A B) : y6A (B, N) = some (ck B N) := by
 unfold b3A at hs
 unfold ck
 by_cases h1 : N < 0
 ·rw [if_neg fun h => by have := h.1; omega]
  simp (disch := omega) only [y6A, dT, dF, Option.bind_some, cond_true]
 by_cases h2 : N > 65536
 ·rw [if_neg fun h => by have := h.2.1; omega]
  simp (disch := omega) only [y6A, dT, dF, Option.bind_some, cond_true]
 obtain ⟨n, rfl⟩ : ∃ n : Nat, N = n := ⟨N.toNat, by omega⟩
 have e1 : (((n : Int) + 7).tdiv 8) = ((n + 7) / 8 : Nat) := by rw [Int.tdiv_eq_ediv_of_nonneg (by omega)]; omega
 by_cases h3 : B.length = (n + 7) / 8
 ·have loop : ∃ r, a1A q8C ((n : Int), (B, (n : Int)), ()) = some r ∧ ((r = .inl () ∧ okB B n) ∨ (r = .inr (1, ()) ∧ ¬ okB B n)) := by
   refine l0A (fun x => (8 * (B.length : Int) - x.1).toNat) (fun x => ∃ i : Nat, x = ((i : Int), (B, (n : Int)), ()) ∧ n ≤ i ∧ (i ≤ 8 * B.length) ∧ ∀ j : Nat, n ≤ j → j < i → bt B j = false)
    (fun r => (r = (.inl () : Unit ⊕ (Int × Unit)) ∧ okB B n) ∨ (r = .inr (1, ()) ∧ ¬ okB B n)) ?_ _ ⟨n, rfl, Nat.le_refl _, by omega, fun j _ _ => by omega⟩
   rintro x ⟨i, rfl, h4, h5, h6⟩
   by_cases h7 : i < 8 * B.length
   ·have e2 := m5E (N := n) hB h7 (by omega)
    cases hb : bt B i with
    | false =>
     left
     refine ⟨((i : Int) + 1, (B, (n : Int)), ()), ?_, ⟨i + 1, by simp, by omega, by omega, fun j h8 h9 => ?_⟩, by simp only; omega⟩
     ·rw [hb] at e2
      simp (disch := omega) only [q8C, a3A, dT, e2, Option.bind_some, Bool.toNat_false, nF, Int.natCast_zero]
     ·rcases Nat.lt_or_eq_of_le (Nat.lt_succ_iff.1 h9) with h | rfl
      ·exact h6 j h8 h
      ·exact hb
    | true =>
     right
     refine ⟨.inr (1, ()), ?_, .inr ⟨rfl, fun h => by rw [h.2.2.2 i (by omega) h7] at hb; cases hb⟩⟩
     rw [hb] at e2
     simp (disch := omega) only [q8C, a3A, dT, e2, Option.bind_some, Bool.toNat_true, nT]
   ·right
    refine ⟨.inl (), ?_, .inl ⟨rfl, by omega, by omega, by omega, fun j h8 h9 => h6 j (by omega) (by omega)⟩⟩
    simp (disch := omega) only [q8C, a3A, dF]
  obtain ⟨r, h4, h5⟩ := loop
  rcases h5 with ⟨rfl, hok⟩ | ⟨rfl, hok⟩
  ·rw [if_pos hok]
   simp (disch := omega) only [y6A, dT, dF, nF, Option.bind_some, cond_false, a3A, e1, h4]
  ·rw [if_neg hok]
   simp (disch := omega) only [y6A, dT, dF, nF, Option.bind_some, cond_false, a3A, e1, h4]
 ·rw [if_neg fun h => h3 (by have := h.2.2.1; omega)]
  simp (disch := omega) only [y6A, dT, dF, nF, nT, wT, Option.bind_some, cond_true, a3A, e1]
end Go.Sq
namespace Go.Sq
open Go.Rx
theorem w3A {X R : Type} {f : X → Option (X ⊕ R)} {x : X} {r : R} (h : f x = some (.inr r)) : a1A f x = some r := by
 obtain ⟨s, h1, h2⟩ := l0A (f := f) (fun _ => 0) (fun y => y = x) (fun s => s = r) (fun y hy => by subst hy; exact .inr ⟨r, h, rfl⟩) x rfl
 rw [h1, h2]
theorem z2A {X R : Type} {f : X → Option (X ⊕ R)} {x y : X} (h : f x = some (.inl y)) : a1A f x = a1A f y := by
 cases hy : a1A f y with
 | some r =>
  obtain ⟨n, hn⟩ := c9D hy
  unfold a1A
  have he : ∃ n r, m7A f n x = some r := ⟨n + 1, r, by simp [m7A, h, hn]⟩
  rw [dif_pos he]
  have hx : a1A f x = some (Classical.choose (Classical.choose_spec he)) := by unfold a1A; rw [dif_pos he]
  obtain ⟨m, hm⟩ := c9D hx
  cases m with
  | zero => cases hm
  | succ m =>
   simp only [m7A, h] at hm
   have hy2 : a1A f y = some (Classical.choose (Classical.choose_spec he)) := by
    have he2 : ∃ n r, m7A f n y = some r := ⟨m, _, hm⟩
    have mono : ∀ m k x (r : R), m7A f m x = some r → m7A f (m + k) x = some r := by
     intro m
     induction m with
     | zero => intro k x r h; cases h
     | succ m ih =>
      intro k x r h
      rw [show m + 1 + k = (m + k) + 1 from by omega]
      simp only [m7A] at h ⊢
      cases hf : f x with
      | none => rw [hf] at h; cases h
      | some z =>
       rw [hf] at h
       cases z with
       | inl y => exact ih k y r h
       | inr s => exact h
    have a := mono m n y _ hm
    have b := mono n m y _ hn
    rw [Nat.add_comm] at b
    rw [a] at b
    rw [hy]; exact b.symm
   rw [← hy2, hy]
 | none =>
  cases hx : a1A f x with
  | none => rfl
  | some r =>
   obtain ⟨n, hn⟩ := c9D hx
   cases n with
   | zero => cases hn
   | succ n =>
    simp only [m7A, h] at hn
    unfold a1A at hy
    rw [dif_pos ⟨n, r, hn⟩] at hy
    cases hy
theorem m6E {x a : Nat} (ha : a < 256) {r k u : Nat} (h : r + k ≤ 8) (hx : x = (u % 2 ^ k) <<< (8 - r - k)) : x < 256 := by
 have h1 : u % 2 ^ k < 2 ^ k := Nat.mod_lt _ (Nat.two_pow_pos _)
 have h2 : 2 ^ k * 2 ^ (8 - r - k) = 2 ^ (8 - r) := by rw [← Nat.pow_add]; congr 1; omega
 have h3 : 2 ^ (8 - r) ≤ 2 ^ 8 := Nat.pow_le_pow_right (by omega) (by omega)
 rw [hx, Nat.shiftLeft_eq]
 have : (u % 2 ^ k) * 2 ^ (8 - r - k) < 2 ^ k * 2 ^ (8 - r - k) := Nat.mul_lt_mul_of_pos_right h1 (Nat.two_pow_pos _)
 omega
theorem x7F {l : List Bool} {b : Bool} (hl : l.length < 2 ^ 40) : l8C (pk l, l.length) b.toNat = some (pk (l ++ [b]), ((l.length + 1 : Nat) : Int)) := by
 have e1 : (l.length : Int).tdiv 8 = ((l.length / 8 : Nat) : Int) := q5D
 have e2 : (l.length : Int).tmod 8 = ((l.length % 8 : Nat) : Int) := q6D
 have e3 : (7 : Int) - ((l.length % 8 : Nat) : Int) = ((7 - l.length % 8 : Nat) : Int) := by omega
 have hb : b.toNat < 2 := by cases b <;> decide
 have e4 : c9A .u64 (b.toNat : Int) ((7 - l.length % 8 : Nat) : Int) = ((b.toNat <<< (7 - l.length % 8) : Nat) : Int) := by
  rw [q4D (by omega), Nat.mod_eq_of_lt]
  rw [Nat.shiftLeft_eq]
  have : 2 ^ (7 - l.length % 8) ≤ 2 ^ 7 := Nat.pow_le_pow_right (by omega) (by omega)
  have := Nat.mul_le_mul (show b.toNat ≤ 1 by omega) this
  omega
 have hp := m1E (l := l) (u := b.toNat) (k := 1) (by omega) (by omega)
 have hm : b.toNat % 2 ^ 1 = b.toNat := Nat.mod_eq_of_lt (by omega)
 have hlt : b.toNat <<< (7 - l.length % 8) < 256 := by
  refine m6E (a := 0) (by omega) (r := l.length % 8) (k := 1) (u := b.toNat) (by omega) ?_
  rw [hm]; congr 1; omega
 rw [hm, show 8 - l.length % 8 - 1 = 7 - l.length % 8 from by omega, l9E, show b.toNat.testBit 0 = b from by cases b <;> rfl] at hp
 have hB := c7D l (l.length / 8)
 have e5 := l1E hB hlt
 have hg := m2E l
 have hgl := m3E l
 have hpl := m8A l
 rw [hp]
 generalize b.toNat <<< (7 - l.length % 8) = y at e4 e5 hlt hp ⊢
 by_cases h : l.length % 8 = 0
 ·rw [if_pos h] at hg hgl ⊢
  simp (disch := omega) only [l8C, e1, e2, e3, e4, hg, e5, a3A, b5A, b8C, rT, eT, wT, dT, Option.bind_some, Int.toNat_natCast]
  rfl
 ·rw [if_neg h] at hg hgl ⊢
  simp (disch := omega) only [l8C, e1, e2, e3, e4, hg, e5, a3A, b5A, b8C, rT, eF, wT, dT, Option.bind_some, Int.toNat_natCast]
  rfl
theorem x8F (v i : Nat) : bn v (i + 1) = (v.testBit i) :: bn v i := by
 rw [l8E (k := 1) (by omega), l9E, Nat.testBit_shiftRight]
 simp
noncomputable def t5B (l : List Bool) (v w : Nat) : (List Int × Int) × Int :=
 if l.length + w > 65536 then (([], 0), 2) else ((pk (l ++ bn v w), ((l.length + w : Nat) : Int)), 0)
theorem j4B {l : List Bool} (h : l.length ≤ 65536) : ck (pk l) l.length = 0 := by
 unfold ck
 rw [if_pos ((j3B (m9A l)).2 ⟨l, rfl, rfl, h⟩)]
theorem r8A {l : List Bool} (h : l.length ≤ 65536) : b3A (pk l) := by unfold b3A; rw [m8A]; omega
theorem r3D {v i : Nat} (hv : v < 2 ^ 64) (hi : i ≤ 64) : c5A .u64 (v : Int) (i : Int) = ((v >>> i : Nat) : Int) := n2B (by simpa [IntKind.bits] using hi)
theorem m7E {v i : Nat} (hv : v < 2 ^ 64) : v >>> i < 2 ^ 64 := Nat.lt_of_le_of_lt (by rw [Nat.shiftRight_eq_div_pow]; exact Nat.div_le_self _ _) hv
theorem m8E {l : List Bool} {v w : Nat} (hl : l.length ≤ 65536) (hv : v < 2 ^ w) (hw : w ≤ 64) : b0B (pk l, l.length) v w = some (t5B l v w) := by
 have hv64 : v < 2 ^ 64 := Nat.lt_of_lt_of_le hv (Nat.pow_le_pow_right (by omega) hw)
 have e0 := t4B (N := l.length) (m9A l) (r8A hl)
 rw [j4B hl] at e0
 have e1 : c5A .u64 (v : Int) (w : Int) = 0 := by
  rw [r3D hv64 hw, Nat.shiftRight_eq_div_pow, Nat.div_eq_of_lt hv]; rfl
 have hpl := m8A l
 unfold t5B
 have pre : b0B (pk l, l.length) v w = (bif decide ((IntKind.i64.wrap ((l.length : Int) + w)) > 65536) then some (([], 0), 2) else
   (d5B (pk l, l.length)).bind fun y3 => (a1A (q9C) ((v : Int), (IntKind.i64.wrap ((w : Int) - 1)), ([], 0), (y3.1, y3.2), ())).bind fun j6 => some ((j6.2.1.1, j6.2.1.2), 0)) := by
  by_cases h : w < 64
  ·simp (disch := omega) only [b0B, e0, e1, nF, dT, dF, b5A, Option.bind_some, bne_self_eq_false, cond_false]
  ·simp (disch := omega) only [b0B, e0, e1, nF, dT, dF, b5A, Option.bind_some, bne_self_eq_false, cond_false]
 rw [pre]
 by_cases h : l.length + w > 65536
 ·rw [if_pos h]
  simp (disch := omega) only [a3A, dT]
 ·rw [if_neg h]
  have e2 : d5B (pk l, l.length) = some (pk l, (l.length : Int)) := by
   simp (disch := omega) only [d5B, rT]
  have loop : ∃ r, a1A (q9C) ((v : Int), (w : Int) - 1, ([], 0), (pk l, (l.length : Int)), ()) = some r ∧ r = (([], 0), (pk (l ++ bn v w), ((l.length + w : Nat) : Int)), ()) := by
   refine l0A (fun x => (x.2.1 + 1).toNat) (fun x => ∃ (i : Nat) (m : List Bool), x = ((v : Int), (i : Int) - 1, ([], 0), (pk m, (m.length : Int)), ()) ∧ i ≤ w ∧ m ++ bn v i = l ++ bn v w)
    (fun r => r = (([], 0), (pk (l ++ bn v w), ((l.length + w : Nat) : Int)), ())) ?_ _ ⟨w, l, rfl, Nat.le_refl _, rfl⟩
   rintro x ⟨i, m, rfl, h1, h2⟩
   have hlen : m.length + i = l.length + w := by have := congrArg List.length h2; simpa [w2A] using this
   cases i with
   | zero =>
    right
    rw [l7E, List.append_nil] at h2
    refine ⟨_, ?_, rfl⟩
    rw [← h2, show ((l.length + w : Nat) : Int) = (m.length : Int) from by omega]
    simp (disch := omega) only [q9C, dF]
   | succ i =>
    left
    have e3 := x7F (l := m) (b := v.testBit i) (by omega)
    have e4 := r0D v i
    have hs := m7E (i := i) hv64
    have e5 : d4A .and .u64 ((v >>> i : Nat) : Int) 1 = (((v >>> i) &&& 1 : Nat) : Int) := r2C (b := 1) hs (by omega)
    have e6 := r3D (i := i) hv64 (by omega)
    rw [e4] at e5
    have e7 : ((i + 1 : Nat) : Int) - 1 = (i : Int) := by omega
    refine ⟨((v : Int), (i : Int) - 1, ([], 0), (pk (m ++ [v.testBit i]), ((m ++ [v.testBit i]).length : Int)), ()), ?_, ⟨i, m ++ [v.testBit i], rfl, by omega, by rw [← h2, x8F]; simp⟩, by simp only; omega⟩
    simp (disch := omega) only [q9C, e7, b5A, a3A, dT, e6, e5, e3, Option.bind_some]
    simp
  obtain ⟨r, h1, rfl⟩ := loop
  simp (disch := omega) only [a3A, dF, e2, Option.bind_some, h1]
end Go.Sq
namespace Go.Sq
open Go.Rx
theorem x9F {l : List Bool} {v w : Nat} {z : List Int × Int} (hl : l.length < 2 ^ 40) (hv : v < 2 ^ 64) (hw : w ≤ 64) (hw0 : 0 < w) :
  ∃ k, 0 < k ∧ k ≤ w ∧ a2C ((v : Int), (w : Int), (pk l, (l.length : Int)), z, ()) =
   some (.inl ((v : Int), ((w - k : Nat) : Int), (pk (l ++ bn (v >>> (w - k)) k), ((l.length + k : Nat) : Int)), z, ())) := by
 have e0 : (0 : Int) - (l.length : Int) = -(l.length : Int) := by omega
 have e1 := x4F (n := l.length) (by omega)
 have hpl := m8A l
 obtain ⟨free, hfree⟩ : ∃ free, free = 8 - l.length % 8 := ⟨_, rfl⟩
 obtain ⟨k, hk⟩ : ∃ k, k = min free w := ⟨_, rfl⟩
 have hkif : (if (w : Int) < ((free : Nat) : Int) then (w : Int) else ((free : Nat) : Int)) = (k : Int) := by
  rw [hk]; split <;> omega
 refine ⟨k, by omega, by omega, ?_⟩
 have hp := m1E (l := l) (u := v >>> (w - k)) (k := k) (by omega) (by omega)
 have hB := c7D l (l.length / 8)
 have hlt : ((v >>> (w - k)) % 2 ^ k) <<< (8 - l.length % 8 - k) < 256 := m6E (a := 0) (by omega) (r := l.length % 8) (k := k) (by omega) rfl
 have e2 : (w : Int) - (k : Int) = ((w - k : Nat) : Int) := by omega
 have e3 : (free : Int) - (k : Int) = ((free - k : Nat) : Int) := by omega
 have e4 := r3D (i := w - k) hv (by omega)
 have hs := m7E (i := w - k) hv
 have e5 := m4E (k := k) (by omega)
 have hpow : 2 ^ k ≤ 2 ^ 8 := Nat.pow_le_pow_right (by omega) (by omega)
 have hpos := Nat.two_pow_pos k
 have e6 : ((2 ^ k : Nat) : Int) - 1 = ((2 ^ k - 1 : Nat) : Int) := by omega
 have e7 := x3F (a := v >>> (w - k)) (k := k) hs (by omega)
 have hmod : (v >>> (w - k)) % 2 ^ k < 2 ^ k := Nat.mod_lt _ hpos
 have e8 : c9A .u8 (((v >>> (w - k)) % 2 ^ k : Nat) : Int) ((free - k : Nat) : Int) = ((((v >>> (w - k)) % 2 ^ k) <<< (free - k) : Nat) : Int) := by
  rw [l3E (by omega), Nat.mod_eq_of_lt (by rw [hfree]; exact hlt)]
 rw [← hfree] at hp hlt
 have e9 := l1E hB hlt
 have hg := m2E l
 have hgl := m3E l
 rw [hp]
 generalize ((v >>> (w - k)) % 2 ^ k) = y at e7 e8 e9 hlt hmod ⊢
 generalize (y <<< (free - k)) = y2 at e8 e9 hlt ⊢
 generalize v >>> (w - k) = y3 at e4 hs e7
 generalize 2 ^ k = y4 at e5 e6 e7 hpow hpos hmod
 by_cases h : l.length % 8 = 0
 ·rw [if_pos h] at hg hgl ⊢
  have hfr : (8 : Int) = (free : Int) := by omega
  simp (disch := omega) only [a2C, dT, e0, a3A, e1, eT, rT, Option.bind_some]
  rw [hfr]
  simp (disch := omega) only [hkif, e2, e3, e4, e5, e6, e7, e8, e9, hg, dT, wT, a3A, b8C, b5A]
  have h5 : ((((pk l ++ [0]).length : Int) - 1).toNat) = l.length / 8 := by omega
  rw [h5, hg, e9]
  rfl
 ·rw [if_neg h] at hg hgl ⊢
  have hfr : (((8 - l.length % 8) % 8 : Nat) : Int) = (free : Int) := by omega
  simp (disch := omega) only [a2C, dT, e0, a3A, e1, eF, Option.bind_some]
  rw [hfr]
  simp (disch := omega) only [hkif, e2, e3, e4, e5, e6, e7, e8, e9, hg, dT, wT, a3A, b8C, b5A]
  have h5 : ((((pk l).length : Int) - 1).toNat) = l.length / 8 := by omega
  rw [h5, hg, e9]
  rfl
theorem y0F {l : List Bool} {v w : Nat} (hl : l.length < 2 ^ 39) (hv : v < 2 ^ 64) (hw : w ≤ 64) : z2C (pk l, l.length) v w = some (pk (l ++ bn v w), ((l.length + w : Nat) : Int)) := by
 have loop : ∃ r, a1A a2C ((v : Int), (w : Int), (pk l, (l.length : Int)), ([], 0), ()) = some r ∧ r = ((pk (l ++ bn v w), ((l.length + w : Nat) : Int)), ([], 0), ()) := by
  refine l0A (fun x => x.2.1.toNat) (fun x => ∃ (i : Nat) (m : List Bool), x = ((v : Int), (i : Int), (pk m, (m.length : Int)), ([], 0), ()) ∧ i ≤ w ∧ m ++ bn v i = l ++ bn v w)
   (fun r => r = ((pk (l ++ bn v w), ((l.length + w : Nat) : Int)), ([], 0), ())) ?_ _ ⟨w, l, rfl, Nat.le_refl _, rfl⟩
  rintro x ⟨i, m, rfl, h1, h2⟩
  have hlen : m.length + i = l.length + w := by have := congrArg List.length h2; simpa [w2A] using this
  rcases Nat.eq_zero_or_pos i with rfl | hi
  ·right
   rw [l7E, List.append_nil] at h2
   refine ⟨_, ?_, rfl⟩
   rw [← h2, show ((l.length + w : Nat) : Int) = (m.length : Int) from by omega]
   simp (disch := omega) only [a2C, dF]
  ·left
   obtain ⟨k, hk0, hk, hstep⟩ := x9F (l := m) (v := v) (w := i) (z := ([], 0)) (by omega) hv (by omega) hi
   refine ⟨_, hstep, ⟨i - k, m ++ bn (v >>> (i - k)) k, by rw [List.length_append, w2A], by omega, ?_⟩, by simp only; omega⟩
   rw [List.append_assoc, ← l8E hk, h2]
 obtain ⟨r, h1, rfl⟩ := loop
 simp only [z2C, h1, Option.bind_some]
end Go.Sq
namespace Go.Sq
open Go.Rx
def n5B : ByteArray := ByteArray.mk #[0, 1, 2, 2, 3, 3, 3, 3, 4, 4, 4, 4, 4, 4, 4, 4, 5, 5, 5, 5, 5, 5, 5, 5, 5, 5, 5, 5, 5, 5, 5, 5, 6, 6, 6, 6, 6, 6, 6, 6, 6, 6, 6, 6, 6, 6, 6, 6, 6, 6, 6, 6, 6, 6, 6, 6, 6, 6, 6, 6, 6, 6, 6, 6, 7, 7, 7, 7, 7, 7, 7, 7, 7, 7, 7, 7, 7, 7, 7, 7, 7, 7, 7, 7, 7, 7, 7, 7, 7, 7, 7, 7, 7, 7, 7, 7, 7, 7, 7, 7, 7, 7, 7, 7, 7, 7, 7, 7, 7, 7, 7, 7, 7, 7, 7, 7, 7, 7, 7, 7, 7, 7, 7, 7, 7, 7, 7, 7, 8, 8, 8, 8, 8, 8, 8, 8, 8, 8, 8, 8, 8, 8, 8, 8, 8, 8, 8, 8, 8, 8, 8, 8, 8, 8, 8, 8, 8, 8, 8, 8, 8, 8, 8, 8, 8, 8, 8, 8, 8, 8, 8, 8, 8, 8, 8, 8, 8, 8, 8, 8, 8, 8, 8, 8, 8, 8, 8, 8, 8, 8, 8, 8, 8, 8, 8, 8, 8, 8, 8, 8, 8, 8, 8, 8, 8, 8, 8, 8, 8, 8, 8, 8, 8, 8, 8, 8, 8, 8, 8, 8, 8, 8, 8, 8, 8, 8, 8, 8, 8, 8, 8, 8, 8, 8, 8, 8, 8, 8, 8, 8, 8, 8, 8, 8, 8, 8, 8, 8, 8, 8, 8, 8, 8, 8, 8, 8]
noncomputable def r3C (x m : Int) : Option Int := bif (a2A (IntKind.u8.wrap x) (n5B.size)) then
 some (IntKind.i64.wrap (m + (IntKind.i64.wrap ((n5B.data.getD (IntKind.u8.wrap x).toNat 0).toNat : Int))))
 else none
noncomputable def m9E (a0 : Int) : Option (Int) :=
 (bif (decide (a0 ≥ 4294967296)) then
 some ((c5A .u64 a0 32), 32, ())
 else
 some (a0, 0, ()) : Option ((Int × Int × Unit))).bind fun j1 =>
 (bif (decide (j1.1 ≥ 65536)) then
 some ((c5A .u64 j1.1 16), (IntKind.i64.wrap (j1.2.1 + 16)), ())
 else
 some (j1.1, j1.2.1, ()) : Option ((Int × Int × Unit))).bind fun j2 =>
 (bif (decide (j2.1 ≥ 256)) then
 some ((c5A .u64 j2.1 8), (IntKind.i64.wrap (j2.2.1 + 8)), ())
 else
 some (j2.1, j2.2.1, ()) : Option ((Int × Int × Unit))).bind fun j3 =>
 r3C j3.1 j3.2.1
theorem y1F (a : Int) : l5B a = m9E a := by kernel_rfl
theorem y2F : n5B.size = 256 := by kernel_rfl
set_option maxRecDepth 100000 in
theorem y3F : ∀ x, x < 256 → x < 2 ^ (n5B.data.getD x 0).toNat ∧ ((n5B.data.getD x 0).toNat = 0 ∨ 2 ^ ((n5B.data.getD x 0).toNat - 1) ≤ x) ∧ (n5B.data.getD x 0).toNat ≤ 8 := by decide +kernel
def b9C (x n : Nat) : Prop := x < 2 ^ n ∧ (n = 0 ∨ 2 ^ (n - 1) ≤ x)
theorem r4D {x n k : Nat} (h : b9C (x >>> k) n) (hx : 2 ^ k ≤ x) : b9C x (n + k) := by
 rw [Nat.shiftRight_eq_div_pow] at h
 obtain ⟨h1, h2⟩ := h
 have hp := Nat.two_pow_pos k
 have hge : 1 ≤ x / 2 ^ k := (Nat.le_div_iff_mul_le hp).2 (by omega)
 refine ⟨?_, ?_⟩
 ·rw [Nat.pow_add]; exact (Nat.div_lt_iff_lt_mul hp).1 h1
 ·right
  rcases h2 with h2 | h2
  ·subst h2; simp at h1; omega
  ·have hn : n ≠ 0 := by rintro rfl; simp at h1; omega
   rw [show n + k - 1 = (n - 1) + k from by omega, Nat.pow_add]
   exact (Nat.le_div_iff_mul_le hp).1 h2
theorem n0E {x m : Nat} (hx : x < 256) (hm : m ≤ 100) : ∃ n, r3C x m = some (((n + m : Nat)) : Int) ∧ b9C x n ∧ n ≤ 8 := by
 obtain ⟨h1, h2, h3⟩ := y3F x hx
 refine ⟨_, ?_, ⟨h1, h2⟩, h3⟩
 have e := b8C (n := (x : Int)) (by omega) (by omega)
 unfold r3C
 rw [e, y2F, Int.toNat_natCast]
 generalize (n5B.data.getD x 0).toNat = y at h3
 simp (disch := omega) only [wT, a3A]
 congr 1; omega
theorem n1E {x : Nat} (hx : x < 2 ^ 64) : ∃ n : Nat, l5B x = some (n : Int) ∧ b9C x n ∧ n ≤ 64 := by
 rw [y1F]
 have s2 : ∀ (x m : Nat), x < 2 ^ 16 → m ≤ 48 → ∃ n : Nat, ((bif (decide ((x : Int) ≥ 256)) then some ((c5A .u64 (x : Int) 8), (IntKind.i64.wrap ((m : Int) + 8)), ()) else some ((x : Int), (m : Int), ()) : Option ((Int × Int × Unit))).bind fun j3 =>
   r3C j3.1 j3.2.1) = some (((n + m : Nat)) : Int) ∧ b9C x n ∧ n ≤ 16 := by
  intro x m hx hm
  by_cases h : 256 ≤ x
  ·have e : c5A .u64 (x : Int) 8 = ((x >>> 8 : Nat) : Int) := n2B (n := 8) (by simp [IntKind.bits])
   have hs : x >>> 8 = x / 256 := by rw [Nat.shiftRight_eq_div_pow]
   obtain ⟨n, h1, h2, h3⟩ := n0E (x := x >>> 8) (m := m + 8) (by omega) (by omega)
   refine ⟨n + 8, ?_, r4D h2 (by simpa using h), by omega⟩
   rw [dT (by omega), e, Option.bind_some, a3A (n := (m : Int) + 8) (by omega) (by omega)]
   rw [show (m : Int) + 8 = ((m + 8 : Nat) : Int) from by omega, h1]
   exact congrArg (fun k : Nat => some (k : Int)) (by omega)
  ·obtain ⟨n, h1, h2, h3⟩ := n0E (x := x) (m := m) (by omega) (by omega)
   refine ⟨n, ?_, h2, by omega⟩
   rw [dF (by omega), Option.bind_some]
   exact h1
 have s1 : ∀ (x m : Nat), x < 2 ^ 32 → m ≤ 32 → ∃ n : Nat, ((bif (decide ((x : Int) ≥ 65536)) then some ((c5A .u64 (x : Int) 16), (IntKind.i64.wrap ((m : Int) + 16)), ()) else some ((x : Int), (m : Int), ()) : Option ((Int × Int × Unit))).bind fun j2 =>
   (bif (decide (j2.1 ≥ 256)) then some ((c5A .u64 j2.1 8), (IntKind.i64.wrap (j2.2.1 + 8)), ()) else some (j2.1, j2.2.1, ()) : Option ((Int × Int × Unit))).bind fun j3 =>
   r3C j3.1 j3.2.1) = some (((n + m : Nat)) : Int) ∧ b9C x n ∧ n ≤ 32 := by
  intro x m hx hm
  by_cases h : 65536 ≤ x
  ·have e : c5A .u64 (x : Int) 16 = ((x >>> 16 : Nat) : Int) := n2B (n := 16) (by simp [IntKind.bits])
   have hs : x >>> 16 = x / 65536 := by rw [Nat.shiftRight_eq_div_pow]
   obtain ⟨n, h1, h2, h3⟩ := s2 (x >>> 16) (m + 16) (by omega) (by omega)
   refine ⟨n + 16, ?_, r4D h2 (by simpa using h), by omega⟩
   rw [dT (by omega), e, Option.bind_some, a3A (n := (m : Int) + 16) (by omega) (by omega)]
   rw [show (m : Int) + 16 = ((m + 16 : Nat) : Int) from by omega]
   refine (Eq.trans h1 ?_)
   exact congrArg (fun k : Nat => some (k : Int)) (by omega)
  ·obtain ⟨n, h1, h2, h3⟩ := s2 x m (by omega) (by omega)
   refine ⟨n, ?_, h2, by omega⟩
   rw [dF (by omega), Option.bind_some]
   exact h1
 unfold m9E
 by_cases h : 4294967296 ≤ x
 ·have e : c5A .u64 (x : Int) 32 = ((x >>> 32 : Nat) : Int) := n2B (n := 32) (by simp [IntKind.bits])
  have hs : x >>> 32 = x / 4294967296 := by rw [Nat.shiftRight_eq_div_pow]
  obtain ⟨n, h1, h2, h3⟩ := s1 (x >>> 32) 32 (by omega) (by omega)
  refine ⟨n + 32, ?_, r4D h2 (by simpa using h), by omega⟩
  rw [dT (by omega), e, Option.bind_some]
  exact h1
 ·obtain ⟨n, h1, h2, h3⟩ := s1 x 0 (by omega) (by omega)
  refine ⟨n, ?_, h2, by omega⟩
  rw [dF (by omega), Option.bind_some]
  exact h1
theorem y4F {v : Nat} {w : Nat} (hv : v < 2 ^ 64) (hw : w ≤ 64) : z1C v w = some (decide (v < 2 ^ w)) := by
 obtain ⟨n, h1, h2, h3⟩ := n1E hv
 simp (disch := omega) only [z1C, dT, h1, Option.bind_some]
 congr 1
 rw [decide_eq_decide]
 constructor
 ·intro h
  exact Nat.lt_of_lt_of_le h2.1 (Nat.pow_le_pow_right (by omega) (by omega))
 ·intro h
  rcases h2.2 with h4 | h4
  ·omega
  ·have := (Nat.pow_lt_pow_iff_right (a := 2) (by omega)).1 (Nat.lt_of_le_of_lt h4 h)
   omega
theorem n2E {l : List Bool} {v w : Nat} (hl : l.length ≤ 65536) (hv : v < 2 ^ w) (hw : w ≤ 64) : u0A (pk l, l.length) v w = some (t5B l v w) := by
 have hv64 : v < 2 ^ 64 := Nat.lt_of_lt_of_le hv (Nat.pow_le_pow_right (by omega) hw)
 have e0 := e3B (N := l.length) (m9A l) (r8A hl)
 rw [j4B hl] at e0
 have e1 := y4F hv64 hw
 have hpl := m8A l
 have e2 : l8B (pk l) = some (pk l) := by
  simp only [l8B, List.nil_append]
  rw [rT (by omega)]
 have e3 := y0F (l := l) (v := v) (w := w) (by omega) hv64 hw
 unfold t5B
 by_cases h : l.length + w > 65536
 ·rw [if_pos h]
  simp (disch := omega) only [u0A, e0, e1, nF, Option.bind_some, hv, decide_true, Bool.not_true, cond_false, a3A, dT]
 ·rw [if_neg h]
  simp (disch := omega) only [u0A, e0, e1, nF, Option.bind_some, hv, decide_true, Bool.not_true, cond_false, a3A, dF, e2, e3]
end Go.Sq
namespace Go.Sq
open Go.Rx
def okF (C : List Int) : Prop := 2 ≤ C.length ∧ C.length ≤ 257 ∧ C.getD 0 0 = 0 ∧ C.getD (C.length - 1) 0 ≤ 16384 ∧ ∀ i, i + 1 < C.length → C.getD i 0 < C.getD (i + 1) 0
open Classical in
noncomputable def ckF (C : List Int) : Int := if okF C then 0 else 1
theorem y5F {α : Type} (l : List α) (k i : Nat) (d : α) : (l.drop k).getD i d = l.getD (k + i) d := by
 simp [List.getD_eq_getElem?_getD]
theorem r4C {C : List Int} (h : 1 ≤ C.length) (h2 : C.length < 2 ^ 62) : h7B C = some (C.getD (C.length - 1) 0) := by
 have e : ((C.length : Int) - 1).toNat = C.length - 1 := by omega
 simp (disch := omega) only [h7B, a3A, wT, e]
theorem c0C {C : List Int} (hs : b3A C) : y2A C = some (ckF C) := by
 unfold b3A at hs
 unfold ckF
 by_cases h1 : C.length < 2
 ·rw [if_neg fun h => by have := h.1; omega]
  simp (disch := omega) only [y2A, dT, Option.bind_some, cond_true]
 by_cases h2 : C.length > 257
 ·rw [if_neg fun h => by have := h.2.1; omega]
  simp (disch := omega) only [y2A, dT, dF, Option.bind_some, cond_true]
 by_cases h3 : C.getD 0 0 ≠ 0
 ·rw [if_neg fun h => h3 h.2.2.1]
  simp (disch := omega) only [y2A, dT, dF, wT, nT, Option.bind_some, cond_true]
 have h3 : C.getD 0 0 = 0 := Decidable.not_not.1 h3
 have hl := r4C (C := C) (by omega) (by omega)
 by_cases h4 : C.getD (C.length - 1) 0 > 16384
 ·rw [if_neg fun h => by have := h.2.2.2.1; omega]
  simp (disch := omega) only [y2A, dT, dF, wT, nF, h3, hl, Option.bind_some, cond_true]
 have et : (C.take (C.length : Int).toNat).drop 1 = C.drop 1 := by rw [Int.toNat_natCast, List.take_length]
 have eln : (C.drop 1).length = C.length - 1 := by simp
 have loop : ∃ r, a1A o2C (C.drop 1, ((C.drop 1).length : Int), 0, C, ()) = some r ∧ ((r = (.inl () : Unit ⊕ (Int × Unit)) ∧ okF C) ∨ (r = .inr (1, ()) ∧ ¬ okF C)) := by
  refine l0A (fun x => ((C.length : Int) - x.2.2.1).toNat) (fun x => ∃ i : Nat, x = (C.drop 1, ((C.drop 1).length : Int), (i : Int), C, ()) ∧ i ≤ C.length - 1 ∧ ∀ j, j < i → C.getD j 0 < C.getD (j + 1) 0)
   (fun r => (r = (.inl () : Unit ⊕ (Int × Unit)) ∧ okF C) ∨ (r = .inr (1, ()) ∧ ¬ okF C)) ?_ _ ⟨0, rfl, by omega, fun j hj => by omega⟩
  rintro x ⟨i, rfl, h5, h6⟩
  have eg := y5F C 1 i 0
  rw [Nat.add_comm] at eg
  by_cases h7 : i < C.length - 1
  ·by_cases h8 : C.getD (i + 1) 0 ≤ C.getD i 0
   ·right
    refine ⟨_, ?_, .inr ⟨rfl, fun h => by have := h.2.2.2.2 i (by omega); omega⟩⟩
    simp (disch := omega) only [o2C, dT, wT, Int.toNat_natCast, eg]
   ·left
    refine ⟨(C.drop 1, ((C.drop 1).length : Int), ((i + 1 : Nat) : Int), C, ()), ?_, ⟨i + 1, rfl, by omega, fun j hj => ?_⟩, by simp only; omega⟩
    ·simp (disch := omega) only [o2C, dT, dF, wT, Int.toNat_natCast, eg, a3A]
     rfl
    ·rcases Nat.lt_or_eq_of_le (Nat.lt_succ_iff.1 hj) with h | rfl
     ·exact h6 j h
     ·omega
  ·right
   refine ⟨_, ?_, .inl ⟨rfl, by omega, by omega, h3, by omega, fun j hj => h6 j (by omega)⟩⟩
   simp (disch := omega) only [o2C, dF]
 obtain ⟨r, h5, h6⟩ := loop
 rcases h6 with ⟨rfl, hok⟩ | ⟨rfl, hok⟩
 ·rw [if_pos hok]
  simp (disch := omega) only [y2A, dF, wT, nF, gT, h3, hl, Option.bind_some, et, h5]
 ·rw [if_neg hok]
  simp (disch := omega) only [y2A, dF, wT, nF, gT, h3, hl, Option.bind_some, et, h5]
theorem c1C {C : List Int} (hs : b3A C) : y5A C = some (ckF C) := by
 unfold b3A at hs
 unfold ckF
 by_cases h1 : C.length < 2
 ·rw [if_neg fun h => by have := h.1; omega]
  simp (disch := omega) only [y5A, dT, Option.bind_some, cond_true]
 by_cases h2 : C.length > 257
 ·rw [if_neg fun h => by have := h.2.1; omega]
  simp (disch := omega) only [y5A, dT, dF, Option.bind_some, cond_true]
 by_cases h3 : C.getD 0 0 ≠ 0
 ·rw [if_neg fun h => h3 h.2.2.1]
  simp (disch := omega) only [y5A, dT, dF, wT, nT, Option.bind_some, cond_true]
 have h3 : C.getD 0 0 = 0 := Decidable.not_not.1 h3
 have hl : ((C.length : Int) - 1).toNat = C.length - 1 := by omega
 by_cases h4 : C.getD (C.length - 1) 0 > 16384
 ·rw [if_neg fun h => by have := h.2.2.2.1; omega]
  simp (disch := omega) only [y5A, dT, dF, wT, nF, h3, hl, a3A, Option.bind_some, cond_true]
 have loop : ∃ r, a1A q7C ((C.length : Int), 1, C, ()) = some r ∧ ((r = (.inl () : Unit ⊕ (Int × Unit)) ∧ okF C) ∨ (r = .inr (1, ()) ∧ ¬ okF C)) := by
  refine l0A (fun x => ((C.length : Int) - x.2.1).toNat) (fun x => ∃ i : Nat, x = ((C.length : Int), ((i + 1 : Nat) : Int), C, ()) ∧ i ≤ C.length - 1 ∧ ∀ j, j < i → C.getD j 0 < C.getD (j + 1) 0)
   (fun r => (r = (.inl () : Unit ⊕ (Int × Unit)) ∧ okF C) ∨ (r = .inr (1, ()) ∧ ¬ okF C)) ?_ _ ⟨0, rfl, by omega, fun j hj => by omega⟩
  rintro x ⟨i, rfl, h5, h6⟩
  have e1 : ((i + 1 : Nat) : Int) - 1 = (i : Int) := by omega
  by_cases h7 : i < C.length - 1
  ·by_cases h8 : C.getD (i + 1) 0 ≤ C.getD i 0
   ·right
    refine ⟨_, ?_, .inr ⟨rfl, fun h => by have := h.2.2.2.2 i (by omega); omega⟩⟩
    simp (disch := omega) only [q7C, dT, wT, Int.toNat_natCast, e1, a3A]
   ·left
    refine ⟨((C.length : Int), ((i + 1 + 1 : Nat) : Int), C, ()), ?_, ⟨i + 1, rfl, by omega, fun j hj => ?_⟩, by simp only; omega⟩
    ·simp (disch := omega) only [q7C, dT, dF, wT, Int.toNat_natCast, e1, a3A]
     rfl
    ·rcases Nat.lt_or_eq_of_le (Nat.lt_succ_iff.1 hj) with h | rfl
     ·exact h6 j h
     ·omega
  ·right
   refine ⟨_, ?_, .inl ⟨rfl, by omega, by omega, h3, by omega, fun j hj => h6 j (by omega)⟩⟩
   simp (disch := omega) only [q7C, dF]
 obtain ⟨r, h5, h6⟩ := loop
 rcases h6 with ⟨rfl, hok⟩ | ⟨rfl, hok⟩
 ·rw [if_pos hok]
  simp (disch := omega) only [y5A, dF, wT, nF, h3, hl, a3A, Option.bind_some, h5]
 ·rw [if_neg hok]
  simp (disch := omega) only [y5A, dF, wT, nF, h3, hl, a3A, Option.bind_some, h5]
end Go.Sq
namespace Go.Sq
open Go.Rx
theorem e4B {C : List Int} (h : okF C) : ckF C = 0 := by unfold ckF; rw [if_pos h]
theorem c2C {C : List Int} (h : ¬ okF C) : ckF C = 1 := by unfold ckF; rw [if_neg h]
open Classical in
noncomputable def j5B (C : List Int) (s : Int) : Int × Int × Int :=
 if okF C ∧ 0 ≤ s ∧ s + 2 ≤ C.length then (C.getD s.toNat 0, (C.getD (s.toNat + 1) 0, 0)) else (0, (0, 1))
theorem n3E {C : List Int} {s : Int} (hs : b3A C) (hr : s < 2 ^ 63) : r2B C s = some (j5B C s) := by
 have hc := c0C hs
 unfold b3A at hs
 unfold j5B
 by_cases h0 : okF C
 ·have hl := h0.2.1
  rw [e4B h0] at hc
  by_cases h1 : 0 ≤ s ∧ s + 2 ≤ C.length
  ·rw [if_pos ⟨h0, h1⟩]
   have e : (s + 1).toNat = s.toNat + 1 := by omega
   simp (disch := omega) only [r2B, hc, nF, dF, wT, a3A, Option.bind_some, e]
  ·rw [if_neg fun h => h1 h.2]
   by_cases h2 : s < 0
   ·simp (disch := omega) only [r2B, hc, nF, dT, Option.bind_some, cond_true]
   ·simp (disch := omega) only [r2B, hc, nF, dF, dT, a3A, Option.bind_some]
 ·rw [if_neg fun h => h0 h.1]
  rw [c2C h0] at hc
  simp (disch := omega) only [r2B, hc, nT, Option.bind_some, cond_true]
theorem r5D {C : List Int} {s : Int} (hs : b3A C) (hr : s < 2 ^ 63) : m3B C s = some (j5B C s) := by
 have hc := c1C hs
 unfold b3A at hs
 unfold j5B
 by_cases h0 : okF C
 ·have hl := h0.2.1
  rw [e4B h0] at hc
  by_cases h1 : 0 ≤ s ∧ s + 2 ≤ C.length
  ·rw [if_pos ⟨h0, h1⟩]
   have e : (s + 1).toNat = s.toNat + 1 := by omega
   simp (disch := omega) only [m3B, hc, nF, dF, wT, a3A, Option.bind_some, e]
  ·rw [if_neg fun h => h1 h.2]
   by_cases h2 : s < 0
   ·simp (disch := omega) only [m3B, hc, nF, dT, Option.bind_some, cond_true]
   ·simp (disch := omega) only [m3B, hc, nF, dF, dT, a3A, Option.bind_some]
 ·rw [if_neg fun h => h0 h.1]
  rw [c2C h0] at hc
  simp (disch := omega) only [m3B, hc, nT, Option.bind_some, cond_true]
open Classical in
noncomputable def c2A (C : List Int) : Int := if okF C then C.getD (C.length - 1) 0 else 0
theorem n4E {C : List Int} (hs : b3A C) : y5B C = some (c2A C) := by
 have hc := c0C hs
 unfold c2A
 by_cases h0 : okF C
 ·have hl := h0.2.1
  have h2 := h0.1
  rw [e4B h0] at hc
  rw [if_pos h0]
  have e := r4C (C := C) (by omega) (by omega)
  simp (disch := omega) only [y5B, hc, nF, e, Option.bind_some]
 ·rw [c2C h0] at hc
  rw [if_neg h0]
  simp (disch := omega) only [y5B, hc, nT, Option.bind_some]
theorem r6D {C : List Int} (hs : b3A C) : s1B C = some (c2A C) := by
 have hc := c1C hs
 unfold c2A
 by_cases h0 : okF C
 ·have hl := h0.2.1
  have h2 := h0.1
  rw [e4B h0] at hc
  rw [if_pos h0]
  have e : ((C.length : Int) - 1).toNat = C.length - 1 := by omega
  simp (disch := omega) only [s1B, hc, nF, wT, a3A, e, Option.bind_some]
 ·rw [c2C h0] at hc
  rw [if_neg h0]
  simp (disch := omega) only [s1B, hc, nT, Option.bind_some]
theorem t2A {C : List Int} (h : okF C) : ∀ {i j : Nat}, i ≤ j → j < C.length → C.getD i 0 ≤ C.getD j 0 := by
 intro i j hij
 induction j with
 | zero => intro _; rw [Nat.le_zero.1 hij]; exact Int.le_refl _
 | succ j ih =>
  intro hj
  rcases Nat.lt_or_eq_of_le hij with h' | rfl
  ·have := ih (Nat.lt_succ_iff.1 h') (by omega)
   have := h.2.2.2.2 j hj
   omega
  ·exact Int.le_refl _
theorem n5E {C : List Int} (h : okF C) {i j : Nat} (hij : i < j) (hj : j < C.length) : C.getD i 0 < C.getD j 0 := by
 have h1 := h.2.2.2.2 i (by omega)
 have h2 := t2A h (i := i + 1) (j := j) hij hj
 omega
def e5B (C : List Int) (x : Int) (s : Nat) : Prop := s + 1 < C.length ∧ C.getD s 0 ≤ x ∧ x < C.getD (s + 1) 0
theorem r9A {C : List Int} (h : okF C) : c2A C = C.getD (C.length - 1) 0 ∧ 1 ≤ c2A C ∧ c2A C ≤ 16384 := by
 have : c2A C = C.getD (C.length - 1) 0 := by unfold c2A; rw [if_pos h]
 refine ⟨this, ?_, by rw [this]; exact h.2.2.2.1⟩
 have h1 := n5E h (i := 0) (j := C.length - 1) (by have := h.1; omega) (by have := h.1; omega)
 rw [h.2.2.1] at h1
 omega
theorem y6F {C : List Int} (h : okF C) {x : Int} (h0 : 0 ≤ x) (h1 : x < c2A C) : ∃ s, e5B C x s := by
 have h2 := h.1
 have key : ∀ n, n < C.length → x < C.getD n 0 → ∃ s, e5B C x s := by
  intro n
  induction n with
  | zero => intro _ hx; rw [h.2.2.1] at hx; omega
  | succ n ih =>
   intro hn hx
   by_cases h3 : x < C.getD n 0
   ·exact ih (by omega) h3
   ·exact ⟨n, hn, by omega, hx⟩
 exact key (C.length - 1) (by omega) (by rw [← (r9A h).1]; exact h1)
theorem y7F {C : List Int} {x : Int} {s : Nat} (h : okF C) (hs : e5B C x s) : b5D C x = some ((s : Int), 0) := by
 have hl := h.2.1
 have hsm : b3A C := by unfold b3A; omega
 have hc := c1C hsm
 rw [e4B h] at hc
 have ht := r6D hsm
 have htot := r9A h
 have h0 : 0 ≤ x := by
  have := t2A h (i := 0) (j := s) (by omega) (by have := hs.1; omega)
  rw [h.2.2.1] at this
  have := hs.2.1; omega
 have h1 : x < c2A C := by
  have := t2A h (i := s + 1) (j := C.length - 1) (by have := hs.1; omega) (by have := h.1; omega)
  rw [htot.1]; have := hs.2.2; omega
 have loop : ∃ r, a1A c6D (x, 0, C, ()) = some r ∧ r = ((s : Int), ()) := by
  refine l0A (fun y => ((C.length : Int) - y.2.1).toNat) (fun y => ∃ i : Nat, y = (x, (i : Int), C, ()) ∧ i ≤ s) (fun r => r = ((s : Int), ())) ?_ _ ⟨0, rfl, Nat.zero_le _⟩
  rintro y ⟨i, rfl, h3⟩
  have hs1 := hs.1
  have e : ((i : Int) + 1).toNat = i + 1 := by omega
  rcases Nat.lt_or_eq_of_le h3 with h4 | h4
  ·have h5 := t2A h (i := i + 1) (j := s) h4 (by omega)
   have h6 := hs.2.1
   left
   refine ⟨(x, ((i + 1 : Nat) : Int), C, ()), ?_, ⟨i + 1, rfl, h4⟩, by simp only; omega⟩
   simp (disch := omega) only [c6D, wT, a3A, e, dT]
   rfl
  ·subst h4
   have h6 := hs.2.2
   right
   refine ⟨_, ?_, rfl⟩
   simp (disch := omega) only [c6D, wT, a3A, e, dF]
 obtain ⟨r, h3, rfl⟩ := loop
 simp (disch := omega) only [b5D, hc, nF, dF, ht, Option.bind_some, h3]
theorem n6E {a b : Int} : z4C a b = some (decide (a < b)) := by
 simp only [z4C, z3C, bne_self_eq_false, Option.bind_some, cond_false]
theorem y8F {C : List Int} {x : Int} {s : Nat} (h : okF C) (hs : e5B C x s) :
  j2C C x = some (if C.getD s 0 = x then ((s : Int), true) else (((s + 1 : Nat) : Int), false)) := by
 have hl := h.2.1
 have hs1 := hs.1
 obtain ⟨p, hp⟩ : ∃ p : Nat, p = if C.getD s 0 = x then s else s + 1 := ⟨_, rfl⟩
 have hpl : p < C.length := by rw [hp]; split <;> omega
 have below : ∀ i, i < p → C.getD i 0 < x := by
  intro i hi
  rw [hp] at hi
  split at hi
  ·rename_i e; rw [← e]; exact n5E h hi (by omega)
  ·rename_i e
   have := t2A h (i := i) (j := s) (by omega) (by omega)
   have := hs.2.1; omega
 have above : ∀ i, p ≤ i → i < C.length → x ≤ C.getD i 0 := by
  intro i hi hil
  rw [hp] at hi
  split at hi
  ·rename_i e; rw [← e]; exact t2A h hi hil
  ·have := t2A h (i := s + 1) (j := i) hi hil
   have := hs.2.2; omega
 have loop : ∃ r, a1A o4C (C, x, (C.length : Int), 0, (C.length : Int), ()) = some r ∧ r = (C, x, (C.length : Int), (p : Int), ()) := by
  refine l0A (fun y => (y.2.2.2.2.1 - y.2.2.2.1).toNat) (fun y => ∃ i j : Nat, y = (C, x, (C.length : Int), (i : Int), (j : Int), ()) ∧ i ≤ p ∧ p ≤ j ∧ j ≤ C.length) (fun r => r = (C, x, (C.length : Int), (p : Int), ())) ?_ _ ⟨0, C.length, rfl, Nat.zero_le _, by omega, Nat.le_refl _⟩
  rintro y ⟨i, j, rfl, h3, h4, h5⟩
  by_cases h6 : i < j
  ·have e1 : (i : Int) + (j : Int) = ((i + j : Nat) : Int) := by omega
   have e2 : c5A .u64 ((i + j : Nat) : Int) 1 = (((i + j) >>> 1 : Nat) : Int) := n2B (n := 1) (by simp [IntKind.bits])
   have e3 : (i + j) >>> 1 = (i + j) / 2 := by rw [Nat.shiftRight_eq_div_pow]
   rw [e3] at e2
   by_cases h7 : C.getD ((i + j) / 2) 0 < x
   ·left
    have h8 : (i + j) / 2 < p := by
     rcases Nat.lt_or_ge ((i + j) / 2) p with h | h
     ·exact h
     ·have := above _ h (by omega); omega
    refine ⟨(C, x, (C.length : Int), (((i + j) / 2 + 1 : Nat) : Int), (j : Int), ()), ?_, ⟨_, j, rfl, by omega, h4, h5⟩, by simp only; omega⟩
    simp (disch := omega) only [o4C, dT, a3A, b5A, e1, e2, wT, Int.toNat_natCast, n6E, Option.bind_some]
    rfl
   ·left
    have h8 : p ≤ (i + j) / 2 := by
     rcases Nat.lt_or_ge ((i + j) / 2) p with h | h
     ·have := below _ h; omega
     ·exact h
    refine ⟨(C, x, (C.length : Int), (i : Int), (((i + j) / 2 : Nat) : Int), ()), ?_, ⟨i, _, rfl, h3, h8, by omega⟩, by simp only; omega⟩
    simp (disch := omega) only [o4C, dT, dF, a3A, b5A, e1, e2, wT, Int.toNat_natCast, n6E, Option.bind_some]
  ·right
   refine ⟨_, ?_, rfl⟩
   have : i = p := by omega
   subst this
   simp (disch := omega) only [o4C, dF]
 obtain ⟨r, h3, rfl⟩ := loop
 by_cases hc : C.getD s 0 = x
 ·rw [if_pos hc]
  have hps : p = s := by rw [hp, if_pos hc]
  subst hps
  simp (disch := omega) only [j2C, h3, Option.bind_some, dT, wT, Int.toNat_natCast, eT]
 ·rw [if_neg hc]
  have hps : p = s + 1 := by rw [hp, if_neg hc]
  have hne : C.getD p 0 ≠ x := by rw [hps]; have := hs.2.2; omega
  rw [← hps]
  simp (disch := omega) only [j2C, h3, Option.bind_some, dT, wT, Int.toNat_natCast, eF, z5C, bne_self_eq_false, cond_false]
theorem y9F {C : List Int} {x : Int} {s : Nat} (h : okF C) (hs : e5B C x s) : j3C C x = some ((s : Int), 0) := by
 have hl := h.2.1
 have hsm : b3A C := by unfold b3A; omega
 have hc := c0C hsm
 rw [e4B h] at hc
 have ht := r4C (C := C) (by have := h.1; omega) (by omega)
 have htot := r9A h
 have hs1 := hs.1
 have h0 : 0 ≤ x := by
  have := t2A h (i := 0) (j := s) (by omega) (by omega)
  rw [h.2.2.1] at this
  have := hs.2.1; omega
 have h1 : x < C.getD (C.length - 1) 0 := by
  have := t2A h (i := s + 1) (j := C.length - 1) (by omega) (by have := h.1; omega)
  have := hs.2.2; omega
 have hb := y8F h hs
 split at hb
 ·simp (disch := omega) only [j3C, hc, nF, dF, ht, Option.bind_some, hb, Bool.not_true, cond_false]
 ·have e : ((s + 1 : Nat) : Int) - 1 = (s : Int) := by omega
  simp (disch := omega) only [j3C, hc, nF, dF, ht, Option.bind_some, hb, Bool.not_false, cond_true, a3A, e]
end Go.Sq
namespace Go.Sq
open Go.Rx
theorem z0F (k : Nat) : bn 0 k = List.replicate k false := by
 apply r2D
 ·simp [w2A]
 ·intro i hi
  rw [w2A] at hi
  rw [t3B, Nat.zero_testBit, Bool.and_false, List.getD_eq_getElem?_getD, List.getElem?_replicate, if_pos hi]; rfl
theorem z1F (k : Nat) : bn (2 ^ k - 1) k = List.replicate k true := by
 apply r2D
 ·simp [w2A]
 ·intro i hi
  rw [w2A] at hi
  have h : k - 1 - i < k := by omega
  rw [t3B, Nat.testBit_two_pow_sub_one, List.getD_eq_getElem?_getD, List.getElem?_replicate, if_pos hi]
  simp [hi, h]
theorem z2F (b : Bool) : bn b.toNat 1 = [b] := by cases b <;> rfl
def g0A (l : List Bool) (b : Bool) (n : Nat) : List Bool := l ++ b :: List.replicate n (!b)
theorem o0A (l : List Bool) (b : Bool) (n : Nat) : (g0A l b n).length = l.length + n + 1 := by simp [g0A]; omega
noncomputable def z3A (l : List Bool) (b : Bool) (n : Nat) : (List Int × Int) × Int :=
 if l.length + n + 1 > 65536 then (([], 0), 2) else ((pk (g0A l b n), ((l.length + n + 1 : Nat) : Int)), 0)
theorem r7D {l : List Bool} {b : Bool} : t5B l b.toNat 1 = if l.length + 1 > 65536 then (([], 0), 2) else ((pk (l ++ [b]), ((l.length + 1 : Nat) : Int)), 0) := by
 unfold t5B; rw [z2F]
theorem c3C (b : Bool) : b.toNat < 2 := by cases b <;> decide
theorem n7E (b : Bool) : (1 : Int) - ((b.toNat : Nat) : Int) = (((!b).toNat : Nat) : Int) := by cases b <;> rfl
theorem n8E {l : List Bool} {b : Bool} {n : Nat} (hl : l.length ≤ 65536) (hn : n < 2 ^ 40) : m4B (pk l, l.length) b.toNat n = some (z3A l b n) := by
 have hb := c3C b
 have hb2 := c3C (!b)
 have e0 := m8E (l := l) (v := b.toNat) (w := 1) hl (by omega) (by omega)
 rw [r7D] at e0
 have nb := n7E b
 unfold z3A
 by_cases h0 : l.length + 1 > 65536
 ·rw [if_pos h0] at e0
  rw [if_pos (by omega)]
  have e0' : b0B (pk l, (l.length : Int)) ((b.toNat : Nat) : Int) 1 = some (([], 0), 2) := e0
  have : a1A e2B ((b.toNat : Int), (n : Int), 2, ([], 0), ([], 0), ()) = some (2, ([], 0), ([], 0), ()) := by
   apply w3A
   by_cases hz : 0 < n
   ·simp (disch := omega) only [e2B, dT, Option.bind_some]; rfl
   ·simp (disch := omega) only [e2B, dF, Option.bind_some, cond_false]
  simp only [m4B, e0', Option.bind_some, this]
 ·rw [if_neg h0] at e0
  have e0' : b0B (pk l, (l.length : Int)) ((b.toNat : Nat) : Int) 1 = some ((pk (l ++ [b]), ((l.length + 1 : Nat) : Int)), 0) := e0
  have loop : ∃ r, a1A e2B ((b.toNat : Int), (n : Int), 0, (pk (l ++ [b]), ((l.length + 1 : Nat) : Int)), ([], 0), ()) = some r ∧
    r = (if l.length + n + 1 > 65536 then (2, ([], 0), ([], 0), ()) else (0, (pk (g0A l b n), ((l.length + n + 1 : Nat) : Int)), ([], 0), ())) := by
   refine l0A (fun x => (x.2.1 + 1 - x.2.2.1).toNat) (fun x => (∃ (i : Nat) (m : List Bool), x = ((b.toNat : Int), (i : Int), 0, (pk m, (m.length : Int)), ([], 0), ()) ∧ m.length ≤ 65536 ∧ m ++ List.replicate i (!b) = g0A l b n) ∨
     (∃ i : Int, x = ((b.toNat : Int), i, 2, ([], 0), ([], 0), ()) ∧ l.length + n + 1 > 65536))
    (fun r => r = (if l.length + n + 1 > 65536 then (2, ([], 0), ([], 0), ()) else (0, (pk (g0A l b n), ((l.length + n + 1 : Nat) : Int)), ([], 0), ()))) ?_ _
    (.inl ⟨n, l ++ [b], by simp, by simp; omega, by simp [g0A]⟩)
   rintro x (⟨i, m, rfl, h1, h2⟩ | ⟨i, rfl, h1⟩)
   ·have hlen : m.length + i = l.length + n + 1 := by have := congrArg List.length h2; rw [o0A] at this; simpa using this
    rcases Nat.eq_zero_or_pos i with rfl | hi
    ·right
     refine ⟨_, ?_, rfl⟩
     have : m = g0A l b n := by simpa using h2
     rw [if_neg (by omega), ← this, show ((l.length + n + 1 : Nat) : Int) = (m.length : Int) from by omega]
     simp (disch := omega) only [e2B, dF, Option.bind_some, cond_false]
    ·left
     have e1 := m8E (l := m) (v := (!b).toNat) (w := 1) h1 (by omega) (by omega)
     rw [r7D] at e1
     by_cases h3 : m.length + 1 > 65536
     ·rw [if_pos h3] at e1
      have e1' : b0B (pk m, (m.length : Int)) (((!b).toNat : Nat) : Int) 1 = some (([], 0), 2) := e1
      refine ⟨((b.toNat : Int), (i : Int) - 1, 2, ([], 0), ([], 0), ()), ?_, .inr ⟨_, rfl, by omega⟩, by simp only; omega⟩
      simp (disch := omega) only [e2B, dT, eT, Option.bind_some, nb, b5A, a3A, e1']
     ·rw [if_neg h3] at e1
      have e1' : b0B (pk m, (m.length : Int)) (((!b).toNat : Nat) : Int) 1 = some ((pk (m ++ [!b]), ((m.length + 1 : Nat) : Int)), 0) := e1
      refine ⟨((b.toNat : Int), ((i - 1 : Nat) : Int), 0, (pk (m ++ [!b]), ((m ++ [!b]).length : Int)), ([], 0), ()), ?_, .inl ⟨i - 1, m ++ [!b], rfl, by simp; omega, ?_⟩, by simp only; omega⟩
      ·simp (disch := omega) only [e2B, dT, eT, Option.bind_some, nb, b5A, a3A, e1']
       rw [show (i : Int) - 1 = ((i - 1 : Nat) : Int) from by omega]
       simp
      ·rw [← h2]
       obtain ⟨j, rfl⟩ : ∃ j, i = j + 1 := ⟨i - 1, by omega⟩
       simp [List.replicate_succ]
   ·right
    refine ⟨_, ?_, rfl⟩
    rw [if_pos h1]
    by_cases hi : 0 < i
    ·simp (disch := omega) only [e2B, dT, Option.bind_some]; rfl
    ·simp (disch := omega) only [e2B, dF, Option.bind_some, cond_false]
  obtain ⟨r, h1, h2⟩ := loop
  simp only [m4B, e0', Option.bind_some, h1, h2]
  split <;> rfl
theorem z3F {b : Bool} {n : Nat} {l : List Bool} {x y wt : Int} (hn : l.length + n ≤ 65536) :
  a1A d9B ((b.toNat : Int), (n : Int), ((x, y), (wt, ((pk l, (l.length : Int)), 0))), ()) = some ((b.toNat : Int), ((x, y), (wt, ((pk (l ++ List.replicate n (!b)), ((l.length + n : Nat) : Int)), 0))), ()) := by
 have hb := c3C b
 have hb2 := c3C (!b)
 have nb := n7E b
 have loop : ∃ r, a1A d9B ((b.toNat : Int), (n : Int), ((x, y), (wt, ((pk l, (l.length : Int)), 0))), ()) = some r ∧ r = ((b.toNat : Int), ((x, y), (wt, ((pk (l ++ List.replicate n (!b)), ((l.length + n : Nat) : Int)), 0))), ()) := by
  refine l0A (fun s => s.2.1.toNat) (fun s => ∃ (i : Int) (m : List Bool), s = ((b.toNat : Int), i, ((x, y), (wt, ((pk m, (m.length : Int)), 0))), ()) ∧ i ≤ 65536 ∧ m ++ List.replicate i.toNat (!b) = l ++ List.replicate n (!b))
   (fun r => r = ((b.toNat : Int), ((x, y), (wt, ((pk (l ++ List.replicate n (!b)), ((l.length + n : Nat) : Int)), 0))), ())) ?_ _ ⟨n, l, rfl, by omega, by simp⟩
  rintro s ⟨i, m, rfl, h1, h2⟩
  have hlen : m.length + i.toNat = l.length + n := by have := congrArg List.length h2; simpa using this
  by_cases hi : 0 < i
  ·left
   obtain ⟨k, hk⟩ : ∃ k : Nat, (k : Int) = if 32 < i then 32 else i := ⟨(if 32 < i then 32 else i).toNat, by split <;> omega⟩
   have hk1 : 0 < k ∧ k ≤ 32 ∧ (k : Int) ≤ i ∧ (i - 32).toNat = i.toNat - k := by split at hk <;> omega
   have hpow : 2 ^ k ≤ 2 ^ 32 := Nat.pow_le_pow_right (by omega) (by omega)
   have hpos := Nat.two_pow_pos k
   have e2 := m4E (k := k) (by omega)
   obtain ⟨v, hv⟩ : ∃ v : Nat, v = (!b).toNat * (2 ^ k - 1) := ⟨_, rfl⟩
   have hvlt : v < 2 ^ k := by
    rw [hv]
    cases b
    ·show 1 * (2 ^ k - 1) < 2 ^ k; omega
    ·show 0 * (2 ^ k - 1) < 2 ^ k; omega
   have hbn : bn v k = List.replicate k (!b) := by
    rw [hv]
    cases b
    ·simp [z1F]
    ·simp [z0F]
   have e3 : (((!b).toNat : Nat) : Int) * (((2 ^ k : Nat) : Int) - 1) = (v : Int) := by
    rw [hv, show ((2 ^ k : Nat) : Int) - 1 = ((2 ^ k - 1 : Nat) : Int) from by omega, Int.natCast_mul]
   have e4 := n2E (l := m) (v := v) (w := k) (by omega) hvlt (by omega)
   unfold t5B at e4
   rw [if_neg (by omega), hbn] at e4
   refine ⟨((b.toNat : Int), i - 32, ((x, y), (wt, ((pk (m ++ List.replicate k (!b)), ((m ++ List.replicate k (!b)).length : Int)), 0))), ()), ?_, ⟨i - 32, m ++ List.replicate k (!b), rfl, by omega, ?_⟩, by simp only; omega⟩
   ·generalize 2 ^ k = y4 at e2 e3 hpow hpos hvlt
    simp (disch := omega) only [d9B, dT, eT, Option.bind_some, ← hk, nb, b5A, a3A, e2, e3, e4]
    simp
   ·rw [← h2, hk1.2.2.2, List.append_assoc, List.replicate_append_replicate]
    congr 2; omega
  ·right
   refine ⟨_, ?_, rfl⟩
   have h0 : i.toNat = 0 := by omega
   rw [h0] at h2
   have hm : m = l ++ List.replicate n (!b) := by simpa using h2
   rw [← hm, show ((l.length + n : Nat) : Int) = (m.length : Int) from by omega]
   simp (disch := omega) only [d9B, dF, Option.bind_some, cond_false]
 obtain ⟨r, h1, h2⟩ := loop
 rw [h1, h2]
end Go.Sq
namespace Go.Sq
open Go.Rx
def j3A : Nat → Int → Int → Nat → List Bool → Option (Int × Int × Nat × List Bool)
 | 0, _, _, _, _ => none
 | n + 1, lo, hi, w, l =>
  if hi < 2147483648 then (if l.length + w + 1 > 65536 then none else j3A n (2 * lo) (2 * hi + 1) 0 (g0A l false w))
  else if lo ≥ 2147483648 then (if l.length + w + 1 > 65536 then none else j3A n (2 * (lo - 2147483648)) (2 * (hi - 2147483648) + 1) 0 (g0A l true w))
  else if lo ≥ 1073741824 ∧ hi < 3221225472 then j3A n (2 * (lo - 1073741824)) (2 * (hi - 1073741824) + 1) (w + 1) l
  else some (lo, hi, w, l)
def l1A (n : Nat) (lo hi : Int) : Prop := 0 ≤ lo ∧ lo ≤ hi ∧ hi < 4294967296 ∧ 4294967296 ≤ (hi - lo + 1) * 2 ^ n
theorem n6B {lo hi : Int} (h0 : 0 ≤ lo) (h1 : lo ≤ hi) (h2 : hi < 4294967296) : l1A 32 lo hi := ⟨h0, h1, h2, by
 have : (1 : Int) * 2 ^ 32 ≤ (hi - lo + 1) * 2 ^ 32 := Int.mul_le_mul_of_nonneg_right (by omega) (by decide)
 simpa using this⟩
theorem n7A {n : Nat} {lo hi lo' hi' : Int} (h : l1A (n + 1) lo hi) (hl : 0 ≤ lo') (hh : hi' < 4294967296) (hw : hi' - lo' + 1 = 2 * (hi - lo + 1)) : l1A n lo' hi' := by
 obtain ⟨h1, h2, h3, h4⟩ := h
 refine ⟨hl, by omega, hh, ?_⟩
 rw [hw]
 rw [Int.pow_succ] at h4
 have : (hi - lo + 1) * (2 ^ n * 2) = 2 * (hi - lo + 1) * 2 ^ n := by rw [Int.mul_comm (2 ^ n) 2, ← Int.mul_assoc, Int.mul_comm (hi - lo + 1) 2]
 omega
theorem t3A {lo hi : Int} (h : l1A 0 lo hi) : lo = 0 ∧ hi = 4294967295 := by
 obtain ⟨h1, h2, h3, h4⟩ := h
 simp at h4
 omega
theorem r8D {lo hi : Int} : d0B (lo, hi) = some (if hi < 2147483648 then (0, 0) else if lo ≥ 2147483648 then (2147483648, 1) else if lo ≥ 1073741824 ∧ hi < 3221225472 then (1073741824, 2) else (0, 3)) := by
 by_cases h1 : hi < 2147483648
 ·rw [if_pos h1]
  simp (disch := omega) only [d0B, dT]
 rw [if_neg h1]
 by_cases h2 : lo ≥ 2147483648
 ·rw [if_pos h2]
  simp (disch := omega) only [d0B, dT, dF]
 rw [if_neg h2]
 by_cases h3 : lo ≥ 1073741824 ∧ hi < 3221225472
 ·rw [if_pos h3]
  simp (disch := omega) only [d0B, dT, dF, Option.bind_some]
 ·rw [if_neg h3]
  by_cases h4 : lo ≥ 1073741824
  ·simp (disch := omega) only [d0B, dT, dF, Option.bind_some]
  ·simp (disch := omega) only [d0B, dF, Option.bind_some, cond_false]
theorem e6B {x : Int} (h0 : 0 ≤ x) (h1 : x < 9223372036854775808) : c9A .u64 x 1 = 2 * x := by
 obtain ⟨n, rfl⟩ : ∃ n : Nat, x = n := ⟨x.toNat, by omega⟩
 have := q4D (a := n) (n := 1) (by omega)
 rw [show ((1 : Nat) : Int) = 1 from rfl] at this
 rw [this, Nat.shiftLeft_eq]
 omega
theorem or1 {x : Int} (h0 : 0 ≤ x) (h1 : x < 4611686018427387904) : d4A .or .u64 (2 * x) 1 = 2 * x + 1 := by
 obtain ⟨n, rfl⟩ : ∃ n : Nat, x = n := ⟨x.toNat, by omega⟩
 have := l2E (a := 2 * n) (b := 1) (by omega) (by omega)
 rw [show ((2 * n : Nat) : Int) = 2 * (n : Int) from by omega, show ((1 : Nat) : Int) = 1 from rfl] at this
 rw [this]
 have h : 2 * n ||| 1 = 2 * n + 1 := by
  apply Nat.eq_of_testBit_eq
  intro i
  rw [Nat.testBit_or]
  cases i with
  | zero => simp
  | succ i => simp [Nat.testBit_succ, show (2 * n + 1) / 2 = n from by omega]
 rw [h]; omega
theorem n9E {R : Type} {b : Bool} {l : List Bool} {w : Nat} {x y wt : Int} (h : l.length + w + 1 ≤ 65536) (K : Int × ((Int × Int) × Int × (List Int × Int) × Int) × Unit → Option R) :
  ((u0A (pk l, (l.length : Int)) ((b.toNat : Nat) : Int) 1).bind fun y9 => (a1A d9B (((b.toNat : Nat) : Int), (w : Int), ((x, y), (wt, ((y9.1.1, y9.1.2), y9.2))), ())).bind K) =
   K (((b.toNat : Nat) : Int), ((x, y), (wt, ((pk (g0A l b w), ((l.length + w + 1 : Nat) : Int)), 0))), ()) := by
 have hb := c3C b
 have e1 := n2E (l := l) (v := b.toNat) (w := 1) (by omega) (by omega) (by omega)
 rw [r7D, if_neg (by omega)] at e1
 have e2 := z3F (b := b) (n := w) (l := l ++ [b]) (x := x) (y := y) (wt := wt) (by simp; omega)
 have e3 : l ++ [b] ++ List.replicate w (!b) = g0A l b w := by simp [g0A]
 have e4 : (l ++ [b]).length = l.length + 1 := by simp
 rw [e3, e4, show l.length + 1 + w = l.length + w + 1 from by omega] at e2
 have e1' : u0A (pk l, (l.length : Int)) ((b.toNat : Nat) : Int) 1 = some ((pk (l ++ [b]), ((l.length + 1 : Nat) : Int)), 0) := e1
 rw [e1', Option.bind_some, e2, Option.bind_some]
theorem o0E {R : Type} {l : List Bool} {w : Nat} {x y wt : Int} (h : l.length + w + 1 ≤ 65536) (K : Int × ((Int × Int) × Int × (List Int × Int) × Int) × Unit → Option R) :
  ((u0A (pk l, (l.length : Int)) 0 1).bind fun y9 => (a1A d9B (0, (w : Int), ((x, y), (wt, ((y9.1.1, y9.1.2), y9.2))), ())).bind K) =
   K (0, ((x, y), (wt, ((pk (g0A l false w), ((l.length + w + 1 : Nat) : Int)), 0))), ()) := n9E (b := false) h K
theorem o1E {R : Type} {l : List Bool} {w : Nat} {x y wt : Int} (h : l.length + w + 1 ≤ 65536) (K : Int × ((Int × Int) × Int × (List Int × Int) × Int) × Unit → Option R) :
  ((u0A (pk l, (l.length : Int)) 1 1).bind fun y9 => (a1A d9B (1, (w : Int), ((x, y), (wt, ((y9.1.1, y9.1.2), y9.2))), ())).bind K) =
   K (1, ((x, y), (wt, ((pk (g0A l true w), ((l.length + w + 1 : Nat) : Int)), 0))), ()) := n9E (b := true) h K
abbrev o2E := (((Int × Int) × Int × (List Int × Int) × Int) × Unit)
theorem z4F {n : Nat} {lo hi : Int} {w : Nat} {l : List Bool} (hr : l1A n lo hi) (hl : l.length ≤ 65536) (hn : n ≤ 32) (hw : w ≤ 65600) :
    ∃ r, a1A j0B (((lo, hi), ((w : Int), ((pk l, (l.length : Int)), 0))), ()) = some r ∧
      ((∃ s : (Int × Int) × Int × (List Int × Int) × Int, r = .inl (s, ()) ∧ s.2.2.2 = 2 ∧ j3A (n + 1) lo hi w l = none) ∨
       ∃ (lo' hi' : Int) (w' : Nat) (l' : List Bool), r = .inr (((lo', hi'), ((w' : Int), ((pk l', ((l'.length : Nat) : Int)), 0))), ()) ∧ j3A (n + 1) lo hi w l = some (lo', hi', w', l')) := by
  let W := j3A (n + 1) lo hi w l
  refine l0A (fun x => if x.1.2.2.2 = 0 then (8589934592 - (x.1.1.2 - x.1.1.1)).toNat + 1 else 0)
    (fun x => (∃ (n : Nat) (lo hi : Int) (w : Nat) (l : List Bool), x = (((lo, hi), ((w : Int), ((pk l, (l.length : Int)), 0))), ()) ∧ l1A n lo hi ∧ l.length ≤ 65536 ∧ w + n ≤ 65632 ∧ j3A (n + 1) lo hi w l = W) ∨
      (∃ s : (Int × Int) × Int × (List Int × Int) × Int, x = (s, ()) ∧ s.2.2.2 = 2 ∧ W = none))
    (fun r => (∃ s : (Int × Int) × Int × (List Int × Int) × Int, r = (.inl (s, ()) : o2E ⊕ o2E) ∧ s.2.2.2 = 2 ∧ W = none) ∨
       ∃ (lo' hi' : Int) (w' : Nat) (l' : List Bool), r = .inr (((lo', hi'), ((w' : Int), ((pk l', ((l'.length : Nat) : Int)), 0))), ()) ∧ W = some (lo', hi', w', l')) ?_ _ (.inl ⟨n, lo, hi, w, l, rfl, hr, hl, by omega, rfl⟩)
  rintro x (⟨n, lo, hi, w, l, rfl, hr, hl, hw, hW⟩ | ⟨⟨⟨a, b⟩, c, ⟨d, e⟩, f⟩, rfl, h1, h2⟩)
  · have hm := r8D (lo := lo) (hi := hi)
    obtain ⟨r1, r2, r3, r4⟩ := hr
    have hr : l1A n lo hi := ⟨r1, r2, r3, r4⟩
    rw [j3A] at hW
    by_cases h1 : hi < 2147483648
    · rw [if_pos h1] at hm hW
      left
      obtain ⟨k, rfl⟩ : ∃ k, n = k + 1 := by
        cases n with
        | zero => have := t3A hr; omega
        | succ k => exact ⟨k, rfl⟩
      by_cases h4 : l.length + w + 1 > 65536
      · rw [if_pos h4] at hW
        refine ⟨(((2 * lo, 2 * hi + 1), ((w : Int), ((pk l, (l.length : Int)), 2))), ()), ?_, .inr ⟨_, rfl, rfl, hW.symm⟩, by simp⟩
        simp (disch := omega) only [j0B, eT, eF, dT, hm, Option.bind_some, a3A, b5A, e6B, or1, Int.sub_zero]
      · rw [if_neg h4] at hW
        refine ⟨(((2 * lo, 2 * hi + 1), (((0 : Nat) : Int), ((pk (g0A l false w), ((g0A l false w).length : Int)), 0))), ()), ?_, .inl ⟨k, _, _, 0, _, rfl, n7A hr (by omega) (by omega) (by omega), by rw [o0A]; omega, by omega, hW⟩, by simp; omega⟩
        simp (disch := omega) only [j0B, eT, eF, dF, hm, Option.bind_some, a3A, b5A, e6B, or1, o0E, o0A, Int.sub_zero]
        rfl
    rw [if_neg h1] at hm hW
    by_cases h2 : lo ≥ 2147483648
    · rw [if_pos h2] at hm hW
      left
      obtain ⟨k, rfl⟩ : ∃ k, n = k + 1 := by
        cases n with
        | zero => have := t3A hr; omega
        | succ k => exact ⟨k, rfl⟩
      by_cases h4 : l.length + w + 1 > 65536
      · rw [if_pos h4] at hW
        refine ⟨(((2 * (lo - 2147483648), 2 * (hi - 2147483648) + 1), ((w : Int), ((pk l, (l.length : Int)), 2))), ()), ?_, .inr ⟨_, rfl, rfl, hW.symm⟩, by simp⟩
        simp (disch := omega) only [j0B, eT, eF, dT, hm, Option.bind_some, a3A, b5A, e6B, or1, Int.sub_zero]
      · rw [if_neg h4] at hW
        refine ⟨(((2 * (lo - 2147483648), 2 * (hi - 2147483648) + 1), (((0 : Nat) : Int), ((pk (g0A l true w), ((g0A l true w).length : Int)), 0))), ()), ?_, .inl ⟨k, _, _, 0, _, rfl, n7A hr (by omega) (by omega) (by omega), by rw [o0A]; omega, by omega, hW⟩, by simp; omega⟩
        simp (disch := omega) only [j0B, eT, eF, dF, hm, Option.bind_some, a3A, b5A, e6B, or1, o1E, o0A, Int.sub_zero]
        rfl
    rw [if_neg h2] at hm hW
    by_cases h3 : lo ≥ 1073741824 ∧ hi < 3221225472
    · rw [if_pos h3] at hm hW
      left
      obtain ⟨k, rfl⟩ : ∃ k, n = k + 1 := by
        cases n with
        | zero => have := t3A hr; omega
        | succ k => exact ⟨k, rfl⟩
      refine ⟨(((2 * (lo - 1073741824), 2 * (hi - 1073741824) + 1), (((w + 1 : Nat) : Int), ((pk l, (l.length : Int)), 0))), ()), ?_, .inl ⟨k, _, _, w + 1, _, rfl, n7A hr (by omega) (by omega) (by omega), hl, by omega, hW⟩, by simp; omega⟩
      simp (disch := omega) only [j0B, eT, eF, dF, hm, Option.bind_some, a3A, b5A, e6B, or1]
      rfl
    · rw [if_neg h3] at hm hW
      right
      refine ⟨_, ?_, .inr ⟨lo, hi, w, l, rfl, hW.symm⟩⟩
      simp (disch := omega) only [j0B, eT, hm, Option.bind_some]
  · right
    refine ⟨.inl (((a, b), c, (d, e), f), ()), ?_, .inl ⟨_, rfl, h1, h2⟩⟩
    have h1 : f = 2 := h1
    subst h1
    simp (disch := omega) only [j0B, eF]
end Go.Sq
namespace Go.Sq
open Go.Rx
noncomputable def t4A (W : Option (Int × Int × Nat × List Bool)) : Int × (Int × Int × Int × List Int × Int) × Unit :=
 match W with
 | none => (2, (0, (0, (0, ([], 0)))), ())
 | some (lo, hi, w, l) => if w > 65536 then (2, (0, (0, (0, ([], 0)))), ()) else (0, (IntKind.u32.wrap lo, (IntKind.u32.wrap hi, ((w : Int), (pk l, (l.length : Int))))), ())
theorem o3E {l : List Bool} {w : Nat} (hl : l.length ≤ 65536) (hw : w < 2 ^ 40) : m4B (pk l, (l.length : Int)) 0 (w : Int) = some (z3A l false w) := n8E (b := false) hl hw
theorem o4E {l : List Bool} {w : Nat} (hl : l.length ≤ 65536) (hw : w < 2 ^ 40) : m4B (pk l, (l.length : Int)) 1 (w : Int) = some (z3A l true w) := n8E (b := true) hl hw
theorem z5F {n : Nat} {lo hi : Int} {w : Nat} {l : List Bool} (hr : l1A n lo hi) (hl : l.length ≤ 65536) (hn : n ≤ 32) (hw : w ≤ 65600) :
  a1A y9A (lo, hi, (0, (0, (0, ([], 0)))), (0, (0, ((w : Int), (pk l, (l.length : Int))))), ()) = some (t4A (j3A (n + 1) lo hi w l)) := by
 let W := j3A (n + 1) lo hi w l
 have loop : ∃ r, a1A y9A (lo, hi, (0, (0, (0, ([], 0)))), (0, (0, ((w : Int), (pk l, (l.length : Int))))), ()) = some r ∧ r = t4A W := by
  refine l0A (fun x => (8589934592 - (x.2.1 - x.1)).toNat)
   (fun x => ∃ (n : Nat) (lo hi : Int) (w : Nat) (l : List Bool), x = (lo, hi, (0, (0, (0, ([], 0)))), (0, (0, ((w : Int), (pk l, (l.length : Int))))), ()) ∧ l1A n lo hi ∧ l.length ≤ 65536 ∧ w + n ≤ 65632 ∧ j3A (n + 1) lo hi w l = W)
   (fun r => r = t4A W) ?_ _ ⟨n, lo, hi, w, l, rfl, hr, hl, by omega, rfl⟩
  rintro x ⟨n, lo, hi, w, l, rfl, hr, hl, hw, hW⟩
  obtain ⟨r1, r2, r3, r4⟩ := hr
  have hr : l1A n lo hi := ⟨r1, r2, r3, r4⟩
  rw [j3A] at hW
  by_cases h1 : hi < 2147483648
  ·rw [if_pos h1] at hW
   obtain ⟨k, rfl⟩ : ∃ k, n = k + 1 := by
    cases n with
    | zero => have := t3A hr; omega
    | succ k => exact ⟨k, rfl⟩
   have e := o3E (l := l) (w := w) hl (by omega)
   unfold z3A at e
   by_cases h4 : l.length + w + 1 > 65536
   ·rw [if_pos h4] at hW e
    right
    refine ⟨_, ?_, rfl⟩
    rw [← hW]
    simp (disch := omega) only [y9A, dT, nT, Option.bind_some, e, t4A]
   ·rw [if_neg h4] at hW e
    left
    refine ⟨(2 * lo, 2 * hi + 1, (0, (0, (0, ([], 0)))), (0, (0, (((0 : Nat) : Int), (pk (g0A l false w), ((g0A l false w).length : Int))))), ()), ?_, ⟨k, _, _, 0, _, rfl, n7A hr (by omega) (by omega) (by omega), by rw [o0A]; omega, by omega, hW⟩, by simp; omega⟩
    simp (disch := omega) only [y9A, dT, nF, Option.bind_some, e, b5A, Int.sub_zero, o0A]
    rfl
  rw [if_neg h1] at hW
  by_cases h2 : lo ≥ 2147483648
  ·rw [if_pos h2] at hW
   obtain ⟨k, rfl⟩ : ∃ k, n = k + 1 := by
    cases n with
    | zero => have := t3A hr; omega
    | succ k => exact ⟨k, rfl⟩
   have e := o4E (l := l) (w := w) hl (by omega)
   unfold z3A at e
   by_cases h4 : l.length + w + 1 > 65536
   ·rw [if_pos h4] at hW e
    right
    refine ⟨_, ?_, rfl⟩
    rw [← hW]
    simp (disch := omega) only [y9A, dT, dF, nT, Option.bind_some, e, t4A]
   ·rw [if_neg h4] at hW e
    left
    refine ⟨(2 * (lo - 2147483648), 2 * (hi - 2147483648) + 1, (0, (0, (0, ([], 0)))), (0, (0, (((0 : Nat) : Int), (pk (g0A l true w), ((g0A l true w).length : Int))))), ()), ?_, ⟨k, _, _, 0, _, rfl, n7A hr (by omega) (by omega) (by omega), by rw [o0A]; omega, by omega, hW⟩, by simp; omega⟩
    simp (disch := omega) only [y9A, dT, dF, nF, Option.bind_some, e, b5A, Int.sub_zero, o0A]
    rfl
  rw [if_neg h2] at hW
  by_cases h3 : lo ≥ 1073741824 ∧ hi < 3221225472
  ·rw [if_pos h3] at hW
   obtain ⟨k, rfl⟩ : ∃ k, n = k + 1 := by
    cases n with
    | zero => have := t3A hr; omega
    | succ k => exact ⟨k, rfl⟩
   left
   refine ⟨(2 * (lo - 1073741824), 2 * (hi - 1073741824) + 1, (0, (0, (0, ([], 0)))), (0, (0, (((w + 1 : Nat) : Int), (pk l, (l.length : Int))))), ()), ?_, ⟨k, _, _, w + 1, _, rfl, n7A hr (by omega) (by omega) (by omega), hl, by omega, hW⟩, by simp; omega⟩
   simp (disch := omega) only [y9A, dT, dF, Option.bind_some, b5A, a3A]
   rfl
  ·rw [if_neg h3] at hW
   right
   refine ⟨_, ?_, rfl⟩
   rw [← hW]
   unfold t4A
   by_cases h5 : lo ≥ 1073741824
   ·by_cases h6 : w > 65536
    ·simp (disch := omega) only [y9A, dT, dF, Option.bind_some, if_pos h6]
    ·simp (disch := omega) only [y9A, dT, dF, Option.bind_some, if_neg h6]
   ·by_cases h6 : w > 65536
    ·simp (disch := omega) only [y9A, dT, dF, Option.bind_some, cond_false, if_pos h6]
    ·simp (disch := omega) only [y9A, dT, dF, Option.bind_some, cond_false, if_neg h6]
 obtain ⟨r, h1, rfl⟩ := loop
 exact h1
end Go.Sq
namespace Go.Sq
open Go.Rx
def d5A (lo hi : Int) : Prop := lo < hi ∧ 2147483648 ≤ hi ∧ lo < 2147483648 ∧ ¬ (1073741824 ≤ lo ∧ hi < 3221225472)
instance (lo hi : Int) : Decidable (d5A lo hi) := inferInstanceAs (Decidable (_ ∧ _ ∧ _ ∧ _))
theorem t6B {lo hi : Int} : d1B (lo, hi) = some (decide (d5A lo hi)) := by
 have hm := r8D (lo := lo) (hi := hi)
 by_cases h0 : lo < hi
 ·split at hm
  ·simp (disch := omega) only [d1B, hm, dT, Option.bind_some]
   rw [decide_eq_false (show ¬ d5A lo hi by unfold d5A; omega)]; rfl
  ·split at hm
   ·simp (disch := omega) only [d1B, hm, dT, Option.bind_some]
    rw [decide_eq_false (show ¬ d5A lo hi by unfold d5A; omega)]; rfl
   ·split at hm
    ·simp (disch := omega) only [d1B, hm, dT, Option.bind_some]
     rw [decide_eq_false (show ¬ d5A lo hi by unfold d5A; omega)]; rfl
    ·simp (disch := omega) only [d1B, hm, dT, Option.bind_some]
     rw [decide_eq_true (show d5A lo hi by unfold d5A; omega)]; rfl
 ·rw [decide_eq_false (show ¬ d5A lo hi by unfold d5A; omega)]
  simp (disch := omega) only [d1B, hm, dF, Option.bind_some]
theorem r9D {lo hi : Int} (hh : hi < 4294967296) : d3B lo hi = some (decide (d5A lo hi)) := by
 by_cases h0 : lo < hi
 ·by_cases h1 : 2147483648 ≤ hi
  ·by_cases h2 : lo < 2147483648
   ·by_cases h3 : 1073741824 ≤ lo
    ·by_cases h4 : hi < 3221225472
     ·rw [decide_eq_false (show ¬ d5A lo hi by unfold d5A; omega)]
      simp (disch := omega) only [d3B, dT, dF, Option.bind_some, h4, decide_true, Bool.not_true]
     ·rw [decide_eq_true (show d5A lo hi by unfold d5A; omega)]
      simp (disch := omega) only [d3B, dT, dF, Option.bind_some, h4, decide_false, Bool.not_false]
    ·rw [decide_eq_true (show d5A lo hi by unfold d5A; omega)]
     simp (disch := omega) only [d3B, dT, dF, Option.bind_some]
   ·rw [decide_eq_false (show ¬ d5A lo hi by unfold d5A; omega)]
    simp (disch := omega) only [d3B, dT, dF, Option.bind_some]
  ·rw [decide_eq_false (show ¬ d5A lo hi by unfold d5A; omega)]
   simp (disch := omega) only [d3B, dF, Option.bind_some]
 ·rw [decide_eq_false (show ¬ d5A lo hi by unfold d5A; omega)]
  simp (disch := omega) only [d3B, dT, Option.bind_some, cond_true]
abbrev i3A := Int × Int × Int × List Int × Int
def okE (e : i3A) : Prop := d5A e.1 e.2.1 ∧ 0 ≤ e.2.2.1 ∧ e.2.2.1 ≤ 65536 ∧ okB e.2.2.2.1 e.2.2.2.2
def wfE (e : i3A) : Prop := (0 ≤ e.1 ∧ e.1 < 4294967296) ∧ (0 ≤ e.2.1 ∧ e.2.1 < 4294967296) ∧ bytes e.2.2.2.1 ∧ b3A e.2.2.2.1
open Classical in
theorem o5E {e : i3A} (h : wfE e) : d4B e = some (decide (okE e)) := by
 obtain ⟨lo, hi, w, B, N⟩ := e
 obtain ⟨h1, h2, h3, h4⟩ := h
 have h1 : 0 ≤ lo ∧ lo < 4294967296 := h1
 have h2 : 0 ≤ hi ∧ hi < 4294967296 := h2
 have hw := r9D (lo := lo) (hi := hi) (by omega)
 have hc := t4B (N := N) h3 h4
 have e1 := b5A (n := lo) (by omega) (by omega)
 have e2 := b5A (n := hi) (by omega) (by omega)
 by_cases g : d5A lo hi
 ·rw [decide_eq_true g] at hw
  by_cases g1 : 0 ≤ w
  ·by_cases g2 : w ≤ 65536
   ·simp (disch := omega) only [d4B, e1, e2, hw, hc, Option.bind_some, dT, cond_true]
    by_cases g3 : okB B N
    ·rw [decide_eq_true (show okE (lo, hi, w, B, N) from ⟨g, g1, g2, g3⟩)]
     unfold ck; rw [if_pos g3]; rfl
    ·rw [decide_eq_false (show ¬ okE (lo, hi, w, B, N) from fun h => g3 h.2.2.2)]
     unfold ck; rw [if_neg g3]; rfl
   ·rw [decide_eq_false (show ¬ okE (lo, hi, w, B, N) from fun h => g2 h.2.2.1)]
    simp (disch := omega) only [d4B, e1, e2, hw, Option.bind_some, dT, dF, cond_true]
  ·rw [decide_eq_false (show ¬ okE (lo, hi, w, B, N) from fun h => g1 h.2.1)]
   simp (disch := omega) only [d4B, e1, e2, hw, Option.bind_some, dF, cond_true]
 ·rw [decide_eq_false g] at hw
  rw [decide_eq_false (show ¬ okE (lo, hi, w, B, N) from fun h => g h.1)]
  simp (disch := omega) only [d4B, e1, e2, hw, Option.bind_some, cond_false]
theorem s0D {e : i3A} (h : wfE e) (ho : okE e) : d4B e = some true := by
 have := o5E h
 simpa [ho] using this
theorem o6E {e : i3A} (h : wfE e) (ho : ¬ okE e) : d4B e = some false := by
 have := o5E h
 simpa [ho] using this
def i4A (lo hi a t : Int) : Int := lo + (hi - lo + 1) * a / t
def i5A (lo hi b t : Int) : Int := lo + (hi - lo + 1) * b / t - 1
theorem n7B {r a b t : Int} (hr : t ≤ r) (hr2 : r ≤ 4294967296) (ha : 0 ≤ a) (hab : a < b) (hb : b ≤ t) (ht : 1 ≤ t) (ht2 : t ≤ 16384) :
  0 ≤ r * a ∧ r * a ≤ 70368744177664 ∧ 0 ≤ r * b ∧ r * b ≤ 70368744177664 ∧ 0 ≤ r * a / t ∧ r * a / t + 1 ≤ r * b / t ∧ r * b / t ≤ r := by
 have h1 : 0 ≤ r * a := Int.mul_nonneg (by omega) ha
 have h2 : r * b ≤ r * t := Int.mul_le_mul_of_nonneg_left hb (by omega)
 have h3 : r * (a + 1) ≤ r * b := Int.mul_le_mul_of_nonneg_left (by omega) (by omega)
 have h4 : r * t ≤ 4294967296 * 16384 := Int.mul_le_mul hr2 ht2 (by omega) (by omega)
 rw [Int.mul_add, Int.mul_one] at h3
 have h5 : r * a / t + 1 = (r * a + t) / t := by rw [Int.add_ediv_of_dvd_right (Int.dvd_refl t), Int.ediv_self (by omega)]
 have h6 : (r * a + t) / t ≤ r * b / t := Int.ediv_le_ediv (by omega) (by omega)
 have h7 : r * b / t ≤ r * t / t := Int.ediv_le_ediv (by omega) h2
 rw [Int.mul_ediv_cancel _ (by omega)] at h7
 exact ⟨h1, by omega, by omega, by omega, Int.ediv_nonneg h1 (by omega), by omega, h7⟩
theorem t7B {lo hi : Int} (h : d5A lo hi) : 1073741824 ≤ hi - lo + 1 := by unfold d5A at h; omega
theorem c4C {C : List Int} {s : Int} (h : okF C) (h0 : 0 ≤ s) (h1 : s + 2 ≤ C.length) : 0 ≤ C.getD s.toNat 0 ∧ C.getD s.toNat 0 < C.getD (s.toNat + 1) 0 ∧ C.getD (s.toNat + 1) 0 ≤ c2A C := by
 have h2 := t2A h (i := 0) (j := s.toNat) (by omega) (by omega)
 rw [h.2.2.1] at h2
 have h3 := h.2.2.2.2 s.toNat (by omega)
 have h4 := t2A h (i := s.toNat + 1) (j := C.length - 1) (by omega) (by omega)
 rw [(r9A h).1]
 exact ⟨h2, h3, h4⟩
end Go.Sq
namespace Go.Sq
open Go.Rx
def r0A (C : List Int) (s : Int) : Prop := okF C ∧ 0 ≤ s ∧ s + 2 ≤ C.length
noncomputable def n8B (r : Int × i3A × Unit) : i3A × Int := (r.2.1, r.1)
noncomputable def e7B (lo hi : Int) (w : Nat) (l : List Bool) (C : List Int) (s : Int) : i3A × Int :=
 n8B (t4A (j3A 33 (i4A lo hi (C.getD s.toNat 0) (c2A C)) (i5A lo hi (C.getD (s.toNat + 1) 0) (c2A C)) w l))
theorem o7E {l : List Int} (h : l.length ≤ 140737488355328) : l8B l = some l := by
 simp only [l8B, List.nil_append]
 rw [rT (by omega)]
theorem s1D {l : List Bool} (h : l.length ≤ 65536) : y6B (pk l, (l.length : Int)) = some (pk l, (l.length : Int)) := by
 have hpl := m8A l
 simp only [y6B, o7E (l := pk l) (by omega), Option.bind_some]
theorem s2D {l : List Bool} (h : l.length ≤ 65536) : d5B (pk l, (l.length : Int)) = some (pk l, (l.length : Int)) := by
 have hpl := m8A l
 simp (disch := omega) only [d5B, rT]
theorem c5C : ∀ {n : Nat} {lo hi : Int} {w : Nat} {l : List Bool} {lo' hi' : Int} {w' : Nat} {l' : List Bool}, l.length ≤ 65536 → j3A n lo hi w l = some (lo', hi', w', l') → l'.length ≤ 65536 ∧ w' ≤ w + n
 | 0, _, _, _, _, _, _, _, _, _, h => nomatch h
 | n + 1, lo, hi, w, l, lo', hi', w', l', hl, h => by
  rw [j3A] at h
  split at h
  ·split at h
   ·cases h
   ·have := c5C (by rw [o0A]; omega) h; omega
  ·split at h
   ·split at h
    ·cases h
    ·have := c5C (by rw [o0A]; omega) h; omega
   ·split at h
    ·have := c5C hl h; omega
    ·cases h; omega
theorem o8E {lo hi : Int} {w : Nat} {l : List Bool} {C : List Int} {s : Int} (hlo : 0 ≤ lo) (hhi : hi < 4294967296) (hg : d5A lo hi) (hw : w ≤ 65536) (hl : l.length ≤ 65536) (hs : r0A C s) :
  s9A (lo, (hi, ((w : Int), (pk l, (l.length : Int))))) C s = some (e7B lo hi w l C s) := by
 obtain ⟨hF, h0, h1⟩ := hs
 have hF2 := hF.2.1
 have hsm : b3A C := by unfold b3A; omega
 have hgl := hg.1
 have e1 := b5A (n := lo) (by omega) (by omega)
 have e2 := b5A (n := hi) (by omega) (by omega)
 have hgd := t6B (lo := lo) (hi := hi)
 rw [decide_eq_true hg] at hgd
 have hc := e3B (N := l.length) (m9A l) (r8A hl)
 rw [j4B hl] at hc
 have hsp := n3E (s := s) hsm (by omega)
 unfold j5B at hsp
 rw [if_pos ⟨hF, h0, h1⟩] at hsp
 have ht := n4E hsm
 obtain ⟨_, ht1, ht2⟩ := r9A hF
 obtain ⟨a0, a1, a2⟩ := c4C hF h0 h1
 have hgw := t7B hg
 unfold e7B
 generalize C.getD s.toNat 0 = a at hsp a0 a1 ⊢
 generalize C.getD (s.toNat + 1) 0 = b at hsp a1 a2 ⊢
 generalize c2A C = t at ht ht1 ht2 a2 ⊢
 obtain ⟨f1, f2, f3, f4, f5, f6, f7⟩ := n7B (r := hi - lo + 1) (a := a) (b := b) (t := t) (by omega) (by omega) a0 a1 a2 ht1 ht2
 have d1 : ((hi - lo + 1) * a).tdiv t = (hi - lo + 1) * a / t := Int.tdiv_eq_ediv_of_nonneg f1
 have d2 : ((hi - lo + 1) * b).tdiv t = (hi - lo + 1) * b / t := Int.tdiv_eq_ediv_of_nonneg f3
 have hL : i4A lo hi a t = lo + (hi - lo + 1) * a / t := rfl
 have hH : i5A lo hi b t = lo + (hi - lo + 1) * b / t - 1 := rfl
 rw [hL, hH]
 generalize (hi - lo + 1) * a / t = qa at *
 generalize (hi - lo + 1) * b / t = qb at *
 obtain ⟨r, hit, hr⟩ := z4F (n := 32) (lo := lo + qa) (hi := lo + qb - 1) (w := w) (l := l) (n6B (by omega) (by omega) (by omega)) hl (by omega) (by omega)
 have eg : ∀ {α : Type} (x y : α), (bif (!((0 : Int) == 0)) then x else y) = y := fun x y => rfl
 have e0 : (0 : Int) ≤ (w : Int) := by omega
 rcases hr with ⟨⟨⟨x1, x2⟩, x3, ⟨x4, x5⟩, x6⟩, rfl, hx, hW⟩ | ⟨lo', hi', w', l', rfl, hW⟩
 ·have hx : x6 = 2 := hx
  subst hx
  rw [hW]
  simp (disch := omega) only [s9A, e1, e2, hgd, hc, hsp, ht, cond_true, dT, Option.bind_some, eg, nF, nT, b5A, d1, d2, hit, eF, cond_false, t4A, n8B]
 ·have hlen := c5C hl hW
  rw [hW]
  by_cases h5 : w' > 65536
  ·simp (disch := omega) only [s9A, e1, e2, hgd, hc, hsp, ht, cond_true, dT, Option.bind_some, eg, nF, nT, b5A, d1, d2, hit, eT, cond_false, t4A, n8B, if_pos h5]
  ·simp (disch := omega) only [s9A, e1, e2, hgd, hc, hsp, ht, cond_true, dT, dF, Option.bind_some, eg, nF, nT, b5A, d1, d2, hit, eT, cond_false, t4A, n8B, if_neg h5, s1D hlen.1]
theorem z6F {lo hi : Int} {w : Nat} {l : List Bool} {C : List Int} {s : Int} (hlo : 0 ≤ lo) (hhi : hi < 4294967296) (hg : d5A lo hi) (hw : w ≤ 65536) (hl : l.length ≤ 65536) (hs : r0A C s) :
  i4B (lo, (hi, ((w : Int), (pk l, (l.length : Int))))) C s = some (e7B lo hi w l C s) := by
 obtain ⟨hF, h0, h1⟩ := hs
 have hF2 := hF.2.1
 have hsm : b3A C := by unfold b3A; omega
 have hgl := hg.1
 have e1 := b5A (n := lo) (by omega) (by omega)
 have e2 := b5A (n := hi) (by omega) (by omega)
 have hce := s0D (e := (lo, (hi, ((w : Int), (pk l, (l.length : Int)))))) ⟨by simp only; omega, by simp only; omega, m9A l, r8A hl⟩ ⟨hg, by simp only; omega, by simp only; omega, (j3B (m9A l)).2 ⟨l, rfl, rfl, hl⟩⟩
 have hsp := r5D (s := s) hsm (by omega)
 unfold j5B at hsp
 rw [if_pos ⟨hF, h0, h1⟩] at hsp
 have ht := r6D hsm
 obtain ⟨_, ht1, ht2⟩ := r9A hF
 obtain ⟨a0, a1, a2⟩ := c4C hF h0 h1
 have hgw := t7B hg
 unfold e7B
 generalize C.getD s.toNat 0 = a at hsp a0 a1 ⊢
 generalize C.getD (s.toNat + 1) 0 = b at hsp a1 a2 ⊢
 generalize c2A C = t at ht ht1 ht2 a2 ⊢
 obtain ⟨f1, f2, f3, f4, f5, f6, f7⟩ := n7B (r := hi - lo + 1) (a := a) (b := b) (t := t) (by omega) (by omega) a0 a1 a2 ht1 ht2
 have d1 : ((hi - lo + 1) * a).tdiv t = (hi - lo + 1) * a / t := Int.tdiv_eq_ediv_of_nonneg f1
 have d2 : ((hi - lo + 1) * b).tdiv t = (hi - lo + 1) * b / t := Int.tdiv_eq_ediv_of_nonneg f3
 have hL : i4A lo hi a t = lo + (hi - lo + 1) * a / t := rfl
 have hH : i5A lo hi b t = lo + (hi - lo + 1) * b / t - 1 := rfl
 rw [hL, hH]
 generalize (hi - lo + 1) * a / t = qa at *
 generalize (hi - lo + 1) * b / t = qb at *
 have hit := z5F (n := 32) (lo := lo + qa) (hi := lo + qb - 1) (w := w) (l := l) (n6B (by omega) (by omega) (by omega)) hl (by omega) (by omega)
 simp (disch := omega) only [i4B, l7C, e1, e2, hce, hsp, ht, Bool.not_true, cond_false, Option.bind_some, nF, nT, b5A, d1, d2, s2D hl, hit, n8B]
theorem o9E {e : i3A} {C : List Int} {s : Int} (he : wfE e) (hC : b3A C) (hs : s < 2 ^ 63) (h : ¬ (okE e ∧ r0A C s)) : s9A e C s = some ((0, (0, (0, ([], 0)))), 1) := by
 obtain ⟨lo, hi, w, B, N⟩ := e
 obtain ⟨h1, h2, h3, h4⟩ := he
 have h1 : 0 ≤ lo ∧ lo < 4294967296 := h1
 have h2 : 0 ≤ hi ∧ hi < 4294967296 := h2
 have e1 := b5A (n := lo) (by omega) (by omega)
 have e2 := b5A (n := hi) (by omega) (by omega)
 have hgd := t6B (lo := lo) (hi := hi)
 have h3 : bytes B := h3
 have h4 : b3A B := h4
 have hc := e3B (N := N) h3 h4
 have hsp := n3E hC hs
 unfold j5B at hsp
 have eg : ∀ {α : Type} (x y : α), (bif (!((1 : Int) == 0)) then x else y) = x := fun x y => rfl
 have eg0 : ∀ {α : Type} (x y : α), (bif (!((0 : Int) == 0)) then x else y) = y := fun x y => rfl
 by_cases g : d5A lo hi
 ·rw [decide_eq_true g] at hgd
  by_cases g1 : 0 ≤ w
  ·by_cases g2 : w ≤ 65536
   ·unfold ck at hc
    by_cases g3 : okB B N
    ·rw [if_pos g3] at hc
     rw [if_neg (show ¬ (okF C ∧ 0 ≤ s ∧ s + 2 ≤ C.length) from fun hh => h ⟨⟨g, g1, g2, g3⟩, hh⟩)] at hsp
     simp (disch := omega) only [s9A, e1, e2, hgd, hc, hsp, cond_true, dT, Option.bind_some, eg0, nT]
    ·rw [if_neg g3] at hc
     simp (disch := omega) only [s9A, e1, e2, hgd, hc, hsp, cond_true, dT, Option.bind_some, eg]
   ·simp (disch := omega) only [s9A, e1, e2, hgd, hsp, cond_true, dT, dF, Option.bind_some, Bool.not_false]
  ·simp (disch := omega) only [s9A, e1, e2, hgd, hsp, cond_true, dF, Option.bind_some, Bool.not_false]
 ·rw [decide_eq_false g] at hgd
  simp (disch := omega) only [s9A, e1, e2, hgd, hsp, cond_true, cond_false, Option.bind_some, Bool.not_false]
theorem z7F {e : i3A} {C : List Int} {s : Int} (he : wfE e) (hC : b3A C) (hs : s < 2 ^ 63) (h : ¬ (okE e ∧ r0A C s)) : i4B e C s = some ((0, (0, (0, ([], 0)))), 1) := by
 have hsp := r5D hC hs
 unfold j5B at hsp
 by_cases g : okE e
 ·have hce := s0D he g
  rw [if_neg (show ¬ (okF C ∧ 0 ≤ s ∧ s + 2 ≤ C.length) from fun hh => h ⟨g, hh⟩)] at hsp
  simp (disch := omega) only [i4B, hce, hsp, cond_true, cond_false, Bool.not_true, Option.bind_some, nT]
 ·have hce := o6E he g
  simp (disch := omega) only [i4B, hce, hsp, cond_true, Bool.not_false, Option.bind_some]
theorem z8F {e : i3A} {C : List Int} {s : Int} (he : wfE e) (hC : b3A C) (hs : s < 2 ^ 63) : ∃ r, s9A e C s = some r ∧ i4B e C s = some r ∧
  ((r = ((0, (0, (0, ([], 0)))), 1) ∧ ¬ (okE e ∧ r0A C s)) ∨ ∃ (lo hi : Int) (w : Nat) (l : List Bool), e = (lo, (hi, ((w : Int), (pk l, (l.length : Int))))) ∧ okE e ∧ r0A C s ∧ w ≤ 65536 ∧ l.length ≤ 65536 ∧ r = e7B lo hi w l C s) := by
 by_cases h : okE e ∧ r0A C s
 ·obtain ⟨lo, hi, w, B, N⟩ := e
  obtain ⟨⟨g1, g2, g3, g4⟩, h2⟩ := h
  have g2 : 0 ≤ w := g2
  have g3 : w ≤ 65536 := g3
  obtain ⟨l, hB, hN, hl⟩ := (j3B he.2.2.1).1 g4
  have hB : B = pk l := hB
  have hN : N = l.length := hN
  subst hB; subst hN
  obtain ⟨n, rfl⟩ : ∃ n : Nat, w = n := ⟨w.toNat, by omega⟩
  have a1 : 0 ≤ lo := he.1.1
  have a2 : hi < 4294967296 := he.2.1.2
  exact ⟨_, o8E a1 a2 g1 (by omega) hl h2, z6F a1 a2 g1 (by omega) hl h2, .inr ⟨lo, hi, n, l, rfl, ⟨g1, g2, g3, g4⟩, h2, by omega, hl, rfl⟩⟩
 ·exact ⟨_, o9E he hC hs h, z7F he hC hs h, .inl ⟨rfl, h⟩⟩
end Go.Sq
namespace Go.Sq
open Go.Rx
theorem z9F : k9E = d9B := rfl
theorem a0G : l0E = d9B := rfl
theorem p0E {lo hi : Int} {w : Nat} {l : List Bool} (hlo : 0 ≤ lo) (hhi : hi < 4294967296) (hg : d5A lo hi) (hw : w ≤ 65536) (hl : l.length ≤ 65536) :
  t0A (lo, (hi, ((w : Int), (pk l, (l.length : Int))))) = some (z3A l (decide (1073741824 ≤ lo)) (w + 1)) := by
 have hgl := hg.1
 have e1 := b5A (n := lo) (by omega) (by omega)
 have e2 := b5A (n := hi) (by omega) (by omega)
 have hgd := t6B (lo := lo) (hi := hi)
 rw [decide_eq_true hg] at hgd
 have hc := e3B (N := l.length) (m9A l) (r8A hl)
 rw [j4B hl] at hc
 have eg : ∀ {α : Type} (x y : α), (bif (!((0 : Int) == 0)) then x else y) = y := fun x y => rfl
 unfold z3A
 by_cases h1 : lo < 1073741824
 ·rw [decide_eq_false (by omega)]
  by_cases h2 : l.length + (w + 1) + 1 > 65536
  ·rw [if_pos h2]
   simp (disch := omega) only [t0A, e1, e2, hgd, hc, cond_true, dT, Option.bind_some, eg, a3A]
  ·rw [if_neg h2]
   have e3 := fun (K : Int × ((Int × Int) × Int × (List Int × Int) × Int) × Unit → Option ((List Int × Int) × Int)) => o0E (l := l) (w := w + 1) (x := lo) (y := hi) (wt := (w : Int) + 1) (by omega) K
   have ew : ((w + 1 : Nat) : Int) = (w : Int) + 1 := by omega
   rw [ew] at e3
   simp (disch := omega) only [t0A, e1, e2, hgd, hc, cond_true, dT, dF, Option.bind_some, eg, a3A, z9F, e3, nF]
 ·rw [decide_eq_true (by omega)]
  by_cases h2 : l.length + (w + 1) + 1 > 65536
  ·rw [if_pos h2]
   simp (disch := omega) only [t0A, e1, e2, hgd, hc, cond_true, dT, dF, Option.bind_some, eg, a3A]
  ·rw [if_neg h2]
   have e3 := fun (K : Int × ((Int × Int) × Int × (List Int × Int) × Int) × Unit → Option ((List Int × Int) × Int)) => o1E (l := l) (w := w + 1) (x := lo) (y := hi) (wt := (w : Int) + 1) (by omega) K
   have ew : ((w + 1 : Nat) : Int) = (w : Int) + 1 := by omega
   rw [ew] at e3
   simp (disch := omega) only [t0A, e1, e2, hgd, hc, cond_true, dT, dF, Option.bind_some, eg, a3A, a0G, e3, nF]
theorem a1G {lo hi : Int} {w : Nat} {l : List Bool} (hlo : 0 ≤ lo) (hhi : hi < 4294967296) (hg : d5A lo hi) (hw : w ≤ 65536) (hl : l.length ≤ 65536) :
  i5B (lo, (hi, ((w : Int), (pk l, (l.length : Int))))) = some (z3A l (decide (1073741824 ≤ lo)) (w + 1)) := by
 have hgl := hg.1
 have hce := s0D (e := (lo, (hi, ((w : Int), (pk l, (l.length : Int)))))) ⟨by simp only; omega, by simp only; omega, m9A l, r8A hl⟩ ⟨hg, by simp only; omega, by simp only; omega, (j3B (m9A l)).2 ⟨l, rfl, rfl, hl⟩⟩
 have ew : ((w + 1 : Nat) : Int) = (w : Int) + 1 := by omega
 by_cases h1 : lo < 1073741824
 ·rw [decide_eq_false (by omega)]
  have e := o3E (l := l) (w := w + 1) hl (by omega)
  rw [ew] at e
  simp (disch := omega) only [i5B, hce, Bool.not_true, cond_false, dT, Option.bind_some, a3A, e]
 ·rw [decide_eq_true (by omega)]
  have e := o4E (l := l) (w := w + 1) hl (by omega)
  rw [ew] at e
  simp (disch := omega) only [i5B, hce, Bool.not_true, cond_false, dF, Option.bind_some, a3A, e]
theorem a2G {e : i3A} (he : wfE e) (h : ¬ okE e) : t0A e = some (([], 0), 1) := by
 obtain ⟨lo, hi, w, B, N⟩ := e
 obtain ⟨h1, h2, h3, h4⟩ := he
 have h1 : 0 ≤ lo ∧ lo < 4294967296 := h1
 have h2 : 0 ≤ hi ∧ hi < 4294967296 := h2
 have e1 := b5A (n := lo) (by omega) (by omega)
 have e2 := b5A (n := hi) (by omega) (by omega)
 have hgd := t6B (lo := lo) (hi := hi)
 have h3 : bytes B := h3
 have h4 : b3A B := h4
 have hc := e3B (N := N) h3 h4
 have eg : ∀ {α : Type} (x y : α), (bif (!((1 : Int) == 0)) then x else y) = x := fun x y => rfl
 by_cases g : d5A lo hi
 ·rw [decide_eq_true g] at hgd
  by_cases g1 : 0 ≤ w
  ·by_cases g2 : w ≤ 65536
   ·unfold ck at hc
    rw [if_neg (fun g3 => h ⟨g, g1, g2, g3⟩)] at hc
    simp (disch := omega) only [t0A, e1, e2, hgd, hc, cond_true, dT, Option.bind_some, eg]
   ·simp (disch := omega) only [t0A, e1, e2, hgd, cond_true, dT, dF, Option.bind_some, Bool.not_false]
  ·simp (disch := omega) only [t0A, e1, e2, hgd, cond_true, dF, Option.bind_some, Bool.not_false]
 ·rw [decide_eq_false g] at hgd
  simp (disch := omega) only [t0A, e1, e2, hgd, cond_true, cond_false, Option.bind_some, Bool.not_false]
theorem a3G {e : i3A} (he : wfE e) (h : ¬ okE e) : i5B e = some (([], 0), 1) := by
 have hce := o6E he h
 simp (disch := omega) only [i5B, hce, Bool.not_false, cond_true, Option.bind_some]
theorem a4G {e : i3A} (he : wfE e) : ∃ r, t0A e = some r ∧ i5B e = some r ∧ ((r = (([], 0), 1) ∧ ¬ okE e) ∨
  ∃ (lo hi : Int) (w : Nat) (l : List Bool), e = (lo, (hi, ((w : Int), (pk l, (l.length : Int))))) ∧ okE e ∧ w ≤ 65536 ∧ l.length ≤ 65536 ∧ r = z3A l (decide (1073741824 ≤ lo)) (w + 1)) := by
 by_cases h : okE e
 ·obtain ⟨lo, hi, w, B, N⟩ := e
  obtain ⟨g1, g2, g3, g4⟩ := h
  have g2 : 0 ≤ w := g2
  have g3 : w ≤ 65536 := g3
  obtain ⟨l, hB, hN, hl⟩ := (j3B he.2.2.1).1 g4
  have hB : B = pk l := hB
  have hN : N = l.length := hN
  subst hB; subst hN
  obtain ⟨n, rfl⟩ : ∃ n : Nat, w = n := ⟨w.toNat, by omega⟩
  have a1 : 0 ≤ lo := he.1.1
  have a2 : hi < 4294967296 := he.2.1.2
  exact ⟨_, p0E a1 a2 g1 (by omega) hl, a1G a1 a2 g1 (by omega) hl, .inr ⟨lo, hi, n, l, rfl, ⟨g1, g2, g3, g4⟩, by omega, hl, rfl⟩⟩
 ·exact ⟨_, a2G he h, a3G he h, .inl ⟨rfl, h⟩⟩
end Go.Sq
