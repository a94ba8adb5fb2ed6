/- Parts of a proof: evaluation of Go code over typed values, and what it computes. -/
import Derived.Test.YtojdkfikpacakaaGreatX1
import Derived.Test.YtojdkfikpacakaaGreatX3
import Derived.ProofKit
import Derived.Test.YtojdkfikpacakaaGreatF
import Derived.KernelRfl
set_option linter.unusedSimpArgs false
set_option linter.unusedVariables false
set_option linter.unusedSectionVars false
namespace Go.Sq
open Go.Rx
theorem iter_ex {X R : Type} {f : X → Option (X ⊕ R)} (μ : X → Nat) (Inv : X → Prop) (Q : R → Prop)
  (h : ∀ x, Inv x → (∃ y, f x = some (.inl y) ∧ Inv y ∧ μ y < μ x) ∨ ∃ r, f x = some (.inr r) ∧ Q r) : ∀ x, Inv x → ∃ r, iter f x = some r ∧ Q r := by
 have key : ∀ n x, μ x ≤ n → Inv x → ∃ m r, iterN f m x = some r ∧ Q r := by
  intro n
  induction n with
  | zero =>
   intro x hn hx
   rcases h x hx with ⟨y, _, _, h3⟩ | ⟨r, h1, h2⟩
   ·omega
   ·exact ⟨1, r, by simp [iterN, h1], h2⟩
  | succ n ih =>
   intro x hn hx
   rcases h x hx with ⟨y, h1, h2, h3⟩ | ⟨r, h1, h2⟩
   ·obtain ⟨m, r, h4, h5⟩ := ih y (by omega) h2
    exact ⟨m + 1, r, by simp [iterN, h1, h4], h5⟩
   ·exact ⟨1, r, by simp [iterN, h1], h2⟩
 intro x hx
 obtain ⟨m, r, h1, h2⟩ := key (μ x) x (Nat.le_refl _) hx
 have mono : ∀ m k x (r : R), iterN f m x = some r → iterN f (m + k) x = some r := by
  intro m
  induction m with
  | zero => intro k x r h; cases h
  | succ m ih =>
   intro k x r h
   rw [show m + 1 + k = (m + k) + 1 from by omega]
   simp only [iterN] at h ⊢
   cases hf : f x with
   | none => rw [hf] at h; cases h
   | some z =>
    rw [hf] at h
    cases z with
    | inl y => exact ih k y r h
    | inr s => exact h
 refine ⟨r, ?_, h2⟩
 unfold iter
 have he : ∃ n r, iterN f n x = some r := ⟨m, r, h1⟩
 rw [dif_pos he]
 congr 1
 have h3 := Classical.choose_spec (Classical.choose_spec he)
 have a := mono m (Classical.choose he) x r h1
 have b := mono (Classical.choose he) m x _ h3
 rw [Nat.add_comm] at b
 rw [a] at b
 exact (Option.some.inj b).symm
theorem wrap_u8 {n : Int} (h : 0 ≤ n) (h' : n < 256) : IntKind.u8.wrap n = n := by
 simp only [IntKind.wrap, IntKind.bits, IntKind.signed]; simp; omega
theorem wrap_u32 {n : Int} (h : 0 ≤ n) (h' : n < 4294967296) : IntKind.u32.wrap n = n := by
 simp only [IntKind.wrap, IntKind.bits, IntKind.signed]; simp; omega
theorem wrap_u64 {n : Int} (h : 0 ≤ n) (h' : n < 18446744073709551616) : IntKind.u64.wrap n = n := by
 simp only [IntKind.wrap, IntKind.bits, IntKind.signed]; simp; omega
theorem wrap_i64 {n : Int} (h : -9223372036854775808 ≤ n) (h' : n < 9223372036854775808) : IntKind.i64.wrap n = n := by
 simp only [IntKind.wrap, IntKind.bits, IntKind.signed]; simp; split <;> omega
theorem within_iff {i : Int} {n : Nat} : within i n = true ↔ 0 ≤ i ∧ i < n := by simp [within]
theorem cutG_iff {a b : Int} {n : Nat} : cutG a b n = true ↔ 0 ≤ a ∧ a ≤ b ∧ b ≤ n := by simp [cutG, and_assoc]
theorem room_iff {b n : Nat} : room b n = true ↔ n * b ≤ 140737488355328 := by simp [room]
theorem or_nat8 {a b : Nat} (ha : a < 2 ^ 8) (hb : b < 2 ^ 8) : bitsI .or .u8 (a : Int) (b : Int) = ((a ||| b : Nat) : Int) := by
 have hor : a ||| b < 2 ^ 8 := Nat.or_lt_two_pow ha hb
 have ea : (BitVec.ofInt 8 (a : Int)).toNat = a := by simp; omega
 have eb : (BitVec.ofInt 8 (b : Int)).toNat = b := by simp; omega
 show IntKind.u8.wrap (((BitVec.ofInt 8 (a : Int) ||| BitVec.ofInt 8 (b : Int)).toNat : Nat) : Int) = _
 rw [BitVec.toNat_or, ea, eb]
 exact wrap_u8 (by omega) (by omega)
theorem or_nat64 {a b : Nat} (ha : a < 2 ^ 64) (hb : b < 2 ^ 64) : bitsI .or .u64 (a : Int) (b : Int) = ((a ||| b : Nat) : Int) := by
 have hor : a ||| b < 2 ^ 64 := Nat.or_lt_two_pow ha hb
 have ea : (BitVec.ofInt 64 (a : Int)).toNat = a := by simp; omega
 have eb : (BitVec.ofInt 64 (b : Int)).toNat = b := by simp; omega
 show IntKind.u64.wrap (((BitVec.ofInt 64 (a : Int) ||| BitVec.ofInt 64 (b : Int)).toNat : Nat) : Int) = _
 rw [BitVec.toNat_or, ea, eb]
 exact wrap_u64 (by omega) (by omega)
theorem and_nat64 {a b : Nat} (ha : a < 2 ^ 64) (hb : b < 2 ^ 64) : bitsI .and .u64 (a : Int) (b : Int) = ((a &&& b : Nat) : Int) := by
 have hor : a &&& b < 2 ^ 64 := Nat.and_lt_two_pow a hb
 have ea : (BitVec.ofInt 64 (a : Int)).toNat = a := by simp; omega
 have eb : (BitVec.ofInt 64 (b : Int)).toNat = b := by simp; omega
 show IntKind.u64.wrap (((BitVec.ofInt 64 (a : Int) &&& BitVec.ofInt 64 (b : Int)).toNat : Nat) : Int) = _
 rw [BitVec.toNat_and, ea, eb]
 exact wrap_u64 (by omega) (by omega)
theorem shr_nat {k : IntKind} {a n : Nat} (h : n ≤ k.bits) : shrI k (a : Int) (n : Int) = ((a >>> n : Nat) : Int) := by
 simp only [shrI, Int.toNat_natCast, Nat.min_eq_left h, Nat.shiftRight_eq_div_pow]
 rw [show ((2 : Int) ^ n) = ((2 ^ n : Nat) : Int) from by simp, Int.fdiv_eq_ediv_of_nonneg _ (Int.natCast_nonneg _)]
 simp
theorem shl_nat8 {a n : Nat} (h : n ≤ 8) : shlI .u8 (a : Int) (n : Int) = (((a <<< n) % 256 : Nat) : Int) := by
 simp only [shlI, Int.toNat_natCast, IntKind.bits, Nat.min_eq_left h, Nat.shiftLeft_eq, IntKind.wrap, IntKind.signed]
 simp
theorem shl_nat64 {a n : Nat} (h : n ≤ 64) : shlI .u64 (a : Int) (n : Int) = (((a <<< n) % 2 ^ 64 : Nat) : Int) := by
 simp only [shlI, Int.toNat_natCast, IntKind.bits, Nat.min_eq_left h, Nat.shiftLeft_eq, IntKind.wrap, IntKind.signed]
 simp
theorem tdiv_nat {a b : Nat} : (a : Int).tdiv (b : Int) = ((a / b : Nat) : Int) := by simp
theorem tmod_nat {a b : Nat} : (a : Int).tmod (b : Int) = ((a % b : Nat) : Int) := rfl
section
variable {α : Type} {a b : α}
theorem dT {p : Prop} [Decidable p] (h : p) : (bif decide p then a else b) = a := by simp [h]
theorem dF {p : Prop} [Decidable p] (h : ¬ p) : (bif decide p then a else b) = b := by simp [h]
theorem wT {i : Int} {n : Nat} (h : 0 ≤ i) (h' : i < n) : (bif within i n then a else b) = a := by rw [within_iff.2 ⟨h, h'⟩]; rfl
theorem gT {i j : Int} {n : Nat} (h : 0 ≤ i) (h' : i ≤ j) (h2 : j ≤ n) : (bif cutG i j n then a else b) = a := by rw [cutG_iff.2 ⟨h, h', h2⟩]; rfl
theorem rT {k n : Nat} (h : n * k ≤ 140737488355328) : (bif room k n then a else b) = a := by rw [room_iff.2 h]; rfl
theorem nT {x y : Int} (h : x ≠ y) : (bif x != y then a else b) = a := by rw [bne_iff_ne.2 h]; rfl
theorem nF {x y : Int} (h : x = y) : (bif x != y then a else b) = b := by rw [h, bne_self_eq_false]; rfl
theorem eT {x y : Int} (h : x = y) : (bif x == y then a else b) = a := by rw [beq_iff_eq.2 h]; rfl
theorem eF {x y : Int} (h : x ≠ y) : (bif x == y then a else b) = b := by rw [beq_false_of_ne h]; rfl
theorem cT {c : Bool} (h : c = true) : (bif c then a else b) = a := by rw [h]; rfl
theorem cF {c : Bool} (h : c = false) : (bif c then a else b) = b := by rw [h]; rfl
end
def ofBits (f : Nat → Bool) : Nat → Nat
 | 0 => 0
 | n + 1 => ofBits f n + (f n).toNat * 2 ^ n
theorem ofBits_lt (f : Nat → Bool) : ∀ n, ofBits f n < 2 ^ n
 | 0 => by simp [ofBits]
 | n + 1 => by
  have := ofBits_lt f n
  have h2 : (f n).toNat ≤ 1 := Bool.toNat_le _
  simp only [ofBits, Nat.pow_succ]
  have : (f n).toNat * 2 ^ n ≤ 1 * 2 ^ n := Nat.mul_le_mul_right _ h2
  omega
theorem ofBits_test (f : Nat → Bool) : ∀ n i, (ofBits f n).testBit i = (decide (i < n) && f i)
 | 0, i => by simp [ofBits]
 | n + 1, i => by
  have hlt := ofBits_lt f n
  simp only [ofBits]
  rw [Nat.add_comm, Nat.mul_comm, Nat.testBit_two_pow_mul_add _ hlt, ofBits_test f n i]
  by_cases h : i < n
  ·rw [if_pos h]; simp [h, Nat.lt_succ_of_lt h]
  ·rw [if_neg h]
   by_cases h' : i = n
   ·subst h'; cases f i <;> simp
   ·have : ¬ i < n + 1 := by omega
    simp only [this, decide_false, Bool.false_and]
    have hi : i - n ≠ 0 := by omega
    cases f n
    ·simp
    ·obtain ⟨k, hk⟩ : ∃ k, i - n = k + 1 := ⟨i - n - 1, by omega⟩
     rw [hk]
     simp [Nat.testBit, Nat.shiftRight_eq_div_pow]
     rw [Nat.div_eq_of_lt (Nat.one_lt_two_pow (by omega))]
end Go.Sq
namespace Go.Sq
open Go.Rx
def byt (l : List Bool) (k : Nat) : Nat := ofBits (fun i => l.getD (8 * k + (7 - i)) false) 8
def pk (l : List Bool) : List Int := (List.range ((l.length + 7) / 8)).map fun k => ((byt l k : Nat) : Int)
theorem byt_lt (l : List Bool) (k : Nat) : byt l k < 256 := ofBits_lt _ 8
theorem byt_test (l : List Bool) (k i : Nat) : (byt l k).testBit i = (decide (i < 8) && l.getD (8 * k + (7 - i)) false) := ofBits_test _ 8 i
theorem pk_len (l : List Bool) : (pk l).length = (l.length + 7) / 8 := by simp [pk]
theorem byt_out {l : List Bool} {k : Nat} (h : l.length ≤ 8 * k) : byt l k = 0 := by
 apply Nat.eq_of_testBit_eq
 intro i
 rw [byt_test, List.getD_eq_getElem?_getD, List.getElem?_eq_none (by omega)]
 simp
theorem pk_get (l : List Bool) (k : Nat) : (pk l).getD k 0 = ((byt l k : Nat) : Int) := by
 rw [List.getD_eq_getElem?_getD]
 by_cases h : k < (l.length + 7) / 8
 ·rw [List.getElem?_eq_getElem (by rw [pk_len]; exact h)]
  simp [pk]
 ·rw [List.getElem?_eq_none (by rw [pk_len]; omega), byt_out (by omega)]; rfl
def bytes (B : List Int) : Prop := ∀ x ∈ B, 0 ≤ x ∧ x ≤ 255
theorem bytes_get {B : List Int} (h : bytes B) (k : Nat) : 0 ≤ B.getD k 0 ∧ B.getD k 0 ≤ 255 := by
 rw [List.getD_eq_getElem?_getD]
 cases hk : B[k]? with
 | none => simp
 | some x => exact h x (List.mem_of_getElem? hk)
theorem pk_bytes (l : List Bool) : bytes (pk l) := by
 intro x hx
 simp only [pk, List.mem_map] at hx
 obtain ⟨k, _, rfl⟩ := hx
 have := byt_lt l k
 omega
theorem ext_getD {L M : List Int} (h : L.length = M.length) (hg : ∀ k, k < L.length → L.getD k 0 = M.getD k 0) : L = M := by
 apply List.ext_getElem h
 intro k h1 h2
 have := hg k h1
 simpa [List.getD_eq_getElem?_getD, h1, h2] using this
theorem pk_ext {L : List Int} {l : List Bool} (h : L.length = (l.length + 7) / 8) (hg : ∀ k, k < L.length → L.getD k 0 = ((byt l k : Nat) : Int)) : L = pk l :=
 ext_getD (by rw [h, pk_len]) fun k hk => by rw [hg k hk, pk_get]
def bt (B : List Int) (i : Nat) : Bool := (B.getD (i / 8) 0).toNat.testBit (7 - i % 8)
theorem bt_pk (l : List Bool) (i : Nat) : bt (pk l) i = l.getD i false := by
 unfold bt
 rw [pk_get, Int.toNat_natCast, byt_test]
 have h1 : 7 - i % 8 < 8 := by omega
 have h2 : 8 * (i / 8) + (7 - (7 - i % 8)) = i := by omega
 rw [h2]; simp [h1]
def unp (B : List Int) (n : Nat) : List Bool := (List.range n).map (bt B)
theorem unp_len (B : List Int) (n : Nat) : (unp B n).length = n := by simp [unp]
theorem unp_get (B : List Int) (n i : Nat) : (unp B n).getD i false = (decide (i < n) && bt B i) := by
 by_cases h : i < n
 ·simp [unp, List.getD_eq_getElem?_getD, h]
 ·simp [unp, List.getD_eq_getElem?_getD, h]
def okB (B : List Int) (N : Int) : Prop := 0 ≤ N ∧ N ≤ 65536 ∧ (B.length : Int) = (N + 7) / 8 ∧ ∀ i : Nat, N ≤ i → i < 8 * B.length → bt B i = false
theorem okB_iff {B : List Int} {N : Int} (hB : bytes B) : okB B N ↔ ∃ l : List Bool, B = pk l ∧ N = l.length ∧ l.length ≤ 65536 := by
 constructor
 ·rintro ⟨h0, h1, h2, h3⟩
  refine ⟨unp B N.toNat, ?_, by rw [unp_len]; omega, by rw [unp_len]; omega⟩
  refine pk_ext (by rw [unp_len]; omega) fun k hk => ?_
  have hx := bytes_get hB k
  have : (B.getD k 0).toNat = byt (unp B N.toNat) k := by
   apply Nat.eq_of_testBit_eq
   intro i
   rw [byt_test, unp_get]
   by_cases hi : i < 8
   ·have e1 : (8 * k + (7 - i)) / 8 = k := by omega
    have e2 : 7 - (8 * k + (7 - i)) % 8 = i := by omega
    have hb : bt B (8 * k + (7 - i)) = (B.getD k 0).toNat.testBit i := by unfold bt; rw [e1, e2]
    rw [← hb]
    by_cases hn : 8 * k + (7 - i) < N.toNat
    ·simp [hi, hn]
    ·rw [h3 _ (by omega) (by omega)]; simp
   ·rw [Nat.testBit_lt_two_pow (Nat.lt_of_lt_of_le (show (B.getD k 0).toNat < 2 ^ 8 by omega) (Nat.pow_le_pow_right (by omega) (by omega)))]
    simp [hi]
  omega
 ·rintro ⟨l, rfl, rfl, h⟩
  refine ⟨by omega, by omega, by rw [pk_len]; omega, fun i h1 _ => ?_⟩
  rw [bt_pk, List.getD_eq_getElem?_getD, List.getElem?_eq_none (by omega)]; rfl
theorem and_one (a s : Nat) : (a >>> s) &&& 1 = (a.testBit s).toNat := by
 rw [Nat.and_one_is_mod, Nat.testBit_eq_decide_div_mod_eq, Nat.shiftRight_eq_div_pow]
 rcases Nat.mod_two_eq_zero_or_one (a / 2 ^ s) with h | h <;> simp [h]
end Go.Sq
namespace Go.Sq
open Go.Rx
theorem getD_app {α : Type} (l m : List α) (i : Nat) (d : α) : (l ++ m).getD i d = if i < l.length then l.getD i d else m.getD (i - l.length) d := by
 simp only [List.getD_eq_getElem?_getD, List.getElem?_append]
 split <;> rfl
theorem getD_out {α : Type} {l : List α} {i : Nat} {d : α} (h : l.length ≤ i) : l.getD i d = d := by
 rw [List.getD_eq_getElem?_getD, List.getElem?_eq_none h]; rfl
theorem ext_getDb {L M : List Bool} (h : L.length = M.length) (hg : ∀ k, k < L.length → L.getD k false = M.getD k false) : L = M := by
 apply List.ext_getElem h
 intro k h1 h2
 have := hg k h1
 simpa [List.getD_eq_getElem?_getD, h1, h2] using this
theorem getD_set {α : Type} (l : List α) (q i : Nat) (x d : α) : (l.set q x).getD i d = if q = i ∧ q < l.length then x else l.getD i d := by
 simp only [List.getD_eq_getElem?_getD, List.getElem?_set]
 by_cases h : q = i
 ·subst h
  by_cases h' : q < l.length
  ·simp [h']
  ·simp [h']
 ·simp [h]
def bn (v w : Nat) : List Bool := (List.range w).map fun i => v.testBit (w - 1 - i)
theorem bn_len (v w : Nat) : (bn v w).length = w := by simp [bn]
theorem bn_get (v w i : Nat) : (bn v w).getD i false = (decide (i < w) && v.testBit (w - 1 - i)) := by
 by_cases h : i < w
 ·simp [bn, List.getD_eq_getElem?_getD, h]
 ·simp [bn, List.getD_eq_getElem?_getD, h]
theorem bn_zero (v : Nat) : bn v 0 = [] := rfl
theorem bn_split {v w k : Nat} (h : k ≤ w) : bn v w = bn (v >>> (w - k)) k ++ bn v (w - k) := by
 apply ext_getDb
 ·simp only [List.length_append, bn_len]; omega
 ·intro i hi
  rw [bn_len] at hi
  rw [getD_app, bn_get, bn_get, bn_get, bn_len, Nat.testBit_shiftRight]
  split
  ·rename_i h'
   simp only [hi, h', decide_true, Bool.true_and]
   congr 1; omega
  ·rename_i h'
   have : i - k < w - k := by omega
   simp only [hi, this, decide_true, Bool.true_and]
   congr 1; omega
theorem bn_one (x : Nat) : bn x 1 = [x.testBit 0] := rfl
theorem byt_app_low {l m : List Bool} {k : Nat} (h : 8 * (k + 1) ≤ l.length) : byt (l ++ m) k = byt l k := by
 apply Nat.eq_of_testBit_eq
 intro i
 rw [byt_test, byt_test, getD_app, if_pos (by omega)]
theorem pk_part {l : List Bool} {u k : Nat} (hk : 0 < k) (h : l.length % 8 + k ≤ 8) :
  pk (l ++ bn u k) = (if l.length % 8 = 0 then pk l ++ [0] else pk l).set (l.length / 8) ((byt l (l.length / 8) ||| ((u % 2 ^ k) <<< (8 - l.length % 8 - k)) : Nat) : Int) := by
 have hlen : (if l.length % 8 = 0 then pk l ++ [0] else pk l).length = l.length / 8 + 1 := by
  split
  ·rw [List.length_append, pk_len, List.length_singleton]; omega
  ·rw [pk_len]; omega
 symm
 apply pk_ext
 ·rw [List.length_set, hlen, List.length_append, bn_len]; omega
 ·intro j hj
  rw [List.length_set, hlen] at hj
  rw [getD_set, hlen]
  by_cases hq : l.length / 8 = j
  ·rw [if_pos ⟨hq, by omega⟩]
   congr 1
   apply Nat.eq_of_testBit_eq
   intro i
   rw [Nat.testBit_or, byt_test, byt_test, Nat.testBit_shiftLeft, Nat.testBit_mod_two_pow, getD_app, bn_get, hq]
   by_cases hi : i < 8
   ·simp only [hi, decide_true, Bool.true_and]
    by_cases h1 : 8 * j + (7 - i) < l.length
    ·rw [if_pos h1]
     have : ¬ (i ≥ 8 - l.length % 8 - k ∧ i - (8 - l.length % 8 - k) < k) := by omega
     rw [Bool.or_eq_left_iff_imp.2]
     intro h2
     simp only [Bool.and_eq_true, decide_eq_true_eq] at h2
     exact absurd ⟨h2.1, h2.2.1⟩ this
    ·rw [if_neg h1, getD_out (by omega), Bool.false_or]
     by_cases h2 : i ≥ 8 - l.length % 8 - k
     ·have h3 : i - (8 - l.length % 8 - k) < k := by omega
      have h4 : 8 * j + (7 - i) - l.length < k := by omega
      simp only [h2, h3, h4, decide_true, Bool.true_and]
      congr 1; omega
     ·have h4 : ¬ 8 * j + (7 - i) - l.length < k := by omega
      simp [h2, h4]
   ·have : ¬ (i - (8 - l.length % 8 - k) < k) := by omega
    simp [hi, this]
  ·rw [if_neg (fun h => hq h.1), byt_app_low (by omega)]
   split
   ·rw [getD_app, if_pos (by rw [pk_len]; omega), pk_get]
   ·rw [pk_get]
theorem grown_get (l : List Bool) : (if l.length % 8 = 0 then pk l ++ [0] else pk l).getD (l.length / 8) 0 = ((byt l (l.length / 8) : Nat) : Int) := by
 split
 ·rw [getD_app, if_neg (by rw [pk_len]; omega), byt_out (by omega), pk_len]
  rw [show l.length / 8 - (l.length + 7) / 8 = 0 from by omega]; rfl
 ·rw [pk_get]
theorem grown_len (l : List Bool) : (if l.length % 8 = 0 then pk l ++ [0] else pk l).length = l.length / 8 + 1 := by
 split
 ·rw [List.length_append, pk_len, List.length_singleton]; omega
 ·rw [pk_len]; omega
theorem and_mask {a k : Nat} (ha : a < 2 ^ 64) (hk : k < 64) : bitsI .and .u64 (a : Int) (((2 ^ k - 1 : Nat)) : Int) = ((a % 2 ^ k : Nat) : Int) := by
 have : 2 ^ k < 2 ^ 64 := Nat.pow_lt_pow_right (by omega) hk
 rw [and_nat64 ha (by omega), Nat.and_two_pow_sub_one_eq_mod]
theorem shl_one {k : Nat} (hk : k < 64) : shlI .u64 1 (k : Int) = ((2 ^ k : Nat) : Int) := by
 have h := shl_nat64 (a := 1) (n := k) (by omega)
 have : 2 ^ k < 2 ^ 64 := Nat.pow_lt_pow_right (by omega) hk
 rw [show ((1 : Nat) : Int) = 1 from rfl] at h
 rw [h, Nat.shiftLeft_eq, Nat.one_mul, Nat.mod_eq_of_lt this]
theorem and7 {n : Nat} (hn : n < 2 ^ 60) : bitsI .and .i64 (-(n : Int)) 7 = (((8 - n % 8) % 8 : Nat) : Int) := by
 have ea : (BitVec.ofInt 64 (-(n : Int))).toNat = (2 ^ 64 - n) % 2 ^ 64 := by simp; omega
 have eb : (BitVec.ofInt 64 (7 : Int)).toNat = 2 ^ 3 - 1 := by simp
 show IntKind.i64.wrap (((BitVec.ofInt 64 (-(n : Int)) &&& BitVec.ofInt 64 (7 : Int)).toNat : Nat) : Int) = _
 rw [BitVec.toNat_and, ea, eb, Nat.and_two_pow_sub_one_eq_mod]
 rw [wrap_i64 (by omega) (by omega)]
 congr 1; omega
end Go.Sq
namespace Go.Sq
open Go.Rx
def small {α : Type} (B : List α) : Prop := B.length ≤ 9223372036854775807
open Classical in
noncomputable def ck (B : List Int) (N : Int) : Int := if okB B N then 0 else 1
theorem shl_zero {x k : Nat} (hk : k ≤ 8) : (x <<< k) % 256 = 0 ↔ ∀ j, j < 8 - k → x.testBit j = false := by
 constructor
 ·intro h j hj
  have := congrArg (fun n => n.testBit (j + k)) h
  rw [show (256 : Nat) = 2 ^ 8 from rfl, Nat.testBit_mod_two_pow, Nat.testBit_shiftLeft] at this
  simp at this
  have := this (by omega)
  simpa using this
 ·intro h
  apply Nat.eq_of_testBit_eq
  intro i
  rw [show (256 : Nat) = 2 ^ 8 from rfl, Nat.testBit_mod_two_pow, Nat.testBit_shiftLeft]
  simp only [Nat.zero_testBit, Bool.and_eq_false_iff, decide_eq_false_iff_not]
  by_cases hi : i < 8
  ·by_cases hk' : k ≤ i
   ·right; right; exact h _ (by omega)
   ·right; left; omega
  ·left; exact hi
theorem bits_Check_eq {B : List Int} {N : Int} (hB : bytes B) (hs : small B) : g_bits_Check (B, N) = some (ck B N) := by
 unfold small at hs
 unfold ck
 by_cases h1 : N < 0
 ·rw [if_neg fun h => by have := h.1; omega]
  simp (disch := omega) only [g_bits_Check, dT, dF, Option.bind_some, cond_true]
 by_cases h2 : N > 65536
 ·rw [if_neg fun h => by have := h.2.1; omega]
  simp (disch := omega) only [g_bits_Check, dT, dF, Option.bind_some, cond_true]
 obtain ⟨n, rfl⟩ : ∃ n : Nat, N = n := ⟨N.toNat, by omega⟩
 have e1 : (((n : Int) + 7).tdiv 8) = ((n + 7) / 8 : Nat) := by rw [Int.tdiv_eq_ediv_of_nonneg (by omega)]; omega
 have hm : (n : Int).tmod 8 = ((n % 8 : Nat) : Int) := by rw [Int.tmod_eq_emod_of_nonneg (by omega)]; omega
 by_cases h3 : B.length = (n + 7) / 8
 ·by_cases hk : n % 8 = 0
  ·rw [if_pos ⟨by omega, by omega, by omega, fun i h4 h5 => by omega⟩]
   simp (disch := omega) only [g_bits_Check, dT, dF, nF, Option.bind_some, cond_false, wrap_i64, e1, hm]
  ·have e4 : ((B.length : Int) - 1).toNat = n / 8 := by omega
   have hx := bytes_get hB (n / 8)
   obtain ⟨x, hx'⟩ : ∃ x : Nat, B.getD (n / 8) 0 = x := ⟨(B.getD (n / 8) 0).toNat, by omega⟩
   have hx2 : x < 256 := by omega
   have hsh : shlI .u8 (x : Int) ((n % 8 : Nat) : Int) = (((x <<< (n % 8)) % 256 : Nat) : Int) := shl_nat8 (by omega)
   have key : okB B n ↔ (x <<< (n % 8)) % 256 = 0 := by
    rw [shl_zero (by omega)]
    constructor
    ·intro h j hj
     have := h.2.2.2 (8 * (n / 8) + (7 - j)) (by omega) (by omega)
     unfold bt at this
     rw [show (8 * (n / 8) + (7 - j)) / 8 = n / 8 from by omega, hx', show 7 - (8 * (n / 8) + (7 - j)) % 8 = j from by omega] at this
     simpa using this
    ·intro h
     refine ⟨by omega, by omega, by omega, fun i h4 h5 => ?_⟩
     unfold bt
     rw [show i / 8 = n / 8 from by omega, hx', Int.toNat_natCast]
     exact h _ (by omega)
   by_cases hz : (x <<< (n % 8)) % 256 = 0
   ·rw [if_pos (key.2 hz)]
    simp (disch := omega) only [g_bits_Check, dT, dF, nF, wT, Option.bind_some, cond_false, wrap_i64, e1, hm, e4, hx', hsh]
   ·rw [if_neg fun h => hz (key.1 h)]
    simp (disch := omega) only [g_bits_Check, dT, dF, nF, nT, wT, Option.bind_some, cond_true, wrap_i64, e1, hm, e4, hx', hsh]
 ·rw [if_neg fun h => h3 (by have := h.2.2.1; omega)]
  simp (disch := omega) only [g_bits_Check, dT, dF, nF, nT, wT, Option.bind_some, cond_true, wrap_i64, e1, hm]
theorem r01_bit_eq {B : List Int} {N : Int} (hB : bytes B) {i : Nat} (hi : i < 8 * B.length) (hi2 : i < 2 ^ 60) : g_r01_bit (B, N) i = some (((bt B i).toNat : Nat) : Int) := by
 have e1 : (i : Int).tdiv 8 = ((i / 8 : Nat) : Int) := tdiv_nat
 have e2 : (i : Int).tmod 8 = ((i % 8 : Nat) : Int) := tmod_nat
 have hx := bytes_get hB (i / 8)
 obtain ⟨x, hx'⟩ : ∃ x : Nat, B.getD (i / 8) 0 = x := ⟨(B.getD (i / 8) 0).toNat, by omega⟩
 have e3 : (7 : Int) - ((i % 8 : Nat) : Int) = ((7 - i % 8 : Nat) : Int) := by omega
 have e4 : shrI .u8 (x : Int) ((7 - i % 8 : Nat) : Int) = ((x >>> (7 - i % 8) : Nat) : Int) := shr_nat (by simp only [IntKind.bits]; omega)
 have hlt : x >>> (7 - i % 8) ≤ x := by rw [Nat.shiftRight_eq_div_pow]; exact Nat.div_le_self _ _
 have e5 : bitsI .and .u64 ((x >>> (7 - i % 8) : Nat) : Int) 1 = (((x >>> (7 - i % 8)) &&& 1 : Nat) : Int) := and_nat64 (b := 1) (by omega) (by omega)
 rw [and_one] at e5
 generalize x >>> (7 - i % 8) = y at e4 hlt e5
 simp (disch := omega) only [g_r01_bit, e1, e2, e3, wrap_i64, wrap_u64, wT, dT, Int.toNat_natCast, hx', e4, e5]
 unfold bt
 rw [hx', Int.toNat_natCast]
theorem coder_bit_eq {l : List Bool} {i : Nat} (hl : l.length ≤ 65536) (hi2 : i < 2 ^ 60) : g_coder_bit (pk l, l.length) i = some (((l.getD i false).toNat : Nat) : Int) := by
 by_cases h : i < l.length
 ·have e1 : (i : Int).tdiv 8 = ((i / 8 : Nat) : Int) := tdiv_nat
  have e2 : (i : Int).tmod 8 = ((i % 8 : Nat) : Int) := tmod_nat
  have e3 : (7 : Int) - ((i % 8 : Nat) : Int) = ((7 - i % 8 : Nat) : Int) := by omega
  have hx := byt_lt l (i / 8)
  have e4 : shrI .u8 (byt l (i / 8) : Int) ((7 - i % 8 : Nat) : Int) = ((byt l (i / 8) >>> (7 - i % 8) : Nat) : Int) := shr_nat (by simp only [IntKind.bits]; omega)
  have hlt : byt l (i / 8) >>> (7 - i % 8) ≤ byt l (i / 8) := by rw [Nat.shiftRight_eq_div_pow]; exact Nat.div_le_self _ _
  have e5 : bitsI .and .u64 ((byt l (i / 8) >>> (7 - i % 8) : Nat) : Int) 1 = (((byt l (i / 8) >>> (7 - i % 8)) &&& 1 : Nat) : Int) := and_nat64 (b := 1) (by omega) (by omega)
  have hpl := pk_len l
  rw [and_one] at e5
  generalize byt l (i / 8) >>> (7 - i % 8) = y at e4 hlt e5
  simp (disch := omega) only [g_coder_bit, e1, e2, e3, wrap_i64, wrap_u64, wT, dT, dF, Int.toNat_natCast, pk_get, e4, e5]
  rw [byt_test]
  have h1 : 7 - i % 8 < 8 := by omega
  have h2 : 8 * (i / 8) + (7 - (7 - i % 8)) = i := by omega
  rw [h2]; simp [h1]
 ·simp (disch := omega) only [g_coder_bit, dT]
  rw [getD_out (by omega)]; rfl
theorem r01_Check_eq {B : List Int} {N : Int} (hB : bytes B) (hs : small B) : g_r01_Check (B, N) = some (ck B N) := by
 unfold small at hs
 unfold ck
 by_cases h1 : N < 0
 ·rw [if_neg fun h => by have := h.1; omega]
  simp (disch := omega) only [g_r01_Check, dT, dF, Option.bind_some, cond_true]
 by_cases h2 : N > 65536
 ·rw [if_neg fun h => by have := h.2.1; omega]
  simp (disch := omega) only [g_r01_Check, dT, dF, Option.bind_some, cond_true]
 obtain ⟨n, rfl⟩ : ∃ n : Nat, N = n := ⟨N.toNat, by omega⟩
 have e1 : (((n : Int) + 7).tdiv 8) = ((n + 7) / 8 : Nat) := by rw [Int.tdiv_eq_ediv_of_nonneg (by omega)]; omega
 by_cases h3 : B.length = (n + 7) / 8
 ·have loop : ∃ r, iter g_r01_Check_r1 ((n : Int), (B, (n : Int)), ()) = some r ∧ ((r = .inl () ∧ okB B n) ∨ (r = .inr (1, ()) ∧ ¬ okB B n)) := by
   refine iter_ex (fun x => (8 * (B.length : Int) - x.1).toNat) (fun x => ∃ i : Nat, x = ((i : Int), (B, (n : Int)), ()) ∧ n ≤ i ∧ (i ≤ 8 * B.length) ∧ ∀ j : Nat, n ≤ j → j < i → bt B j = false)
    (fun r => (r = (.inl () : Unit ⊕ (Int × Unit)) ∧ okB B n) ∨ (r = .inr (1, ()) ∧ ¬ okB B n)) ?_ _ ⟨n, rfl, Nat.le_refl _, by omega, fun j _ _ => by omega⟩
   rintro x ⟨i, rfl, h4, h5, h6⟩
   by_cases h7 : i < 8 * B.length
   ·have e2 := r01_bit_eq (N := n) hB h7 (by omega)
    cases hb : bt B i with
    | false =>
     left
     refine ⟨((i : Int) + 1, (B, (n : Int)), ()), ?_, ⟨i + 1, by simp, by omega, by omega, fun j h8 h9 => ?_⟩, by simp only; omega⟩
     ·rw [hb] at e2
      simp (disch := omega) only [g_r01_Check_r1, wrap_i64, dT, e2, Option.bind_some, Bool.toNat_false, nF, Int.natCast_zero]
     ·rcases Nat.lt_or_eq_of_le (Nat.lt_succ_iff.1 h9) with h | rfl
      ·exact h6 j h8 h
      ·exact hb
    | true =>
     right
     refine ⟨.inr (1, ()), ?_, .inr ⟨rfl, fun h => by rw [h.2.2.2 i (by omega) h7] at hb; cases hb⟩⟩
     rw [hb] at e2
     simp (disch := omega) only [g_r01_Check_r1, wrap_i64, dT, e2, Option.bind_some, Bool.toNat_true, nT]
   ·right
    refine ⟨.inl (), ?_, .inl ⟨rfl, by omega, by omega, by omega, fun j h8 h9 => h6 j (by omega) (by omega)⟩⟩
    simp (disch := omega) only [g_r01_Check_r1, wrap_i64, dF]
  obtain ⟨r, h4, h5⟩ := loop
  rcases h5 with ⟨rfl, hok⟩ | ⟨rfl, hok⟩
  ·rw [if_pos hok]
   simp (disch := omega) only [g_r01_Check, dT, dF, nF, Option.bind_some, cond_false, wrap_i64, e1, h4]
  ·rw [if_neg hok]
   simp (disch := omega) only [g_r01_Check, dT, dF, nF, Option.bind_some, cond_false, wrap_i64, e1, h4]
 ·rw [if_neg fun h => h3 (by have := h.2.2.1; omega)]
  simp (disch := omega) only [g_r01_Check, dT, dF, nF, nT, wT, Option.bind_some, cond_true, wrap_i64, e1]
end Go.Sq
namespace Go.Sq
open Go.Rx
theorem iter_inr {X R : Type} {f : X → Option (X ⊕ R)} {x : X} {r : R} (h : f x = some (.inr r)) : iter f x = some r := by
 obtain ⟨s, h1, h2⟩ := iter_ex (f := f) (fun _ => 0) (fun y => y = x) (fun s => s = r) (fun y hy => by subst hy; exact .inr ⟨r, h, rfl⟩) x rfl
 rw [h1, h2]
theorem iter_inl {X R : Type} {f : X → Option (X ⊕ R)} {x y : X} (h : f x = some (.inl y)) : iter f x = iter f y := by
 cases hy : iter f y with
 | some r =>
  obtain ⟨n, hn⟩ := iter_some hy
  unfold iter
  have he : ∃ n r, iterN f n x = some r := ⟨n + 1, r, by simp [iterN, h, hn]⟩
  rw [dif_pos he]
  have hx : iter f x = some (Classical.choose (Classical.choose_spec he)) := by unfold iter; rw [dif_pos he]
  obtain ⟨m, hm⟩ := iter_some hx
  cases m with
  | zero => cases hm
  | succ m =>
   simp only [iterN, h] at hm
   have hy2 : iter f y = some (Classical.choose (Classical.choose_spec he)) := by
    have he2 : ∃ n r, iterN f n y = some r := ⟨m, _, hm⟩
    have mono : ∀ m k x (r : R), iterN f m x = some r → iterN f (m + k) x = some r := by
     intro m
     induction m with
     | zero => intro k x r h; cases h
     | succ m ih =>
      intro k x r h
      rw [show m + 1 + k = (m + k) + 1 from by omega]
      simp only [iterN] at h ⊢
      cases hf : f x with
      | none => rw [hf] at h; cases h
      | some z =>
       rw [hf] at h
       cases z with
       | inl y => exact ih k y r h
       | inr s => exact h
    have a := mono m n y _ hm
    have b := mono n m y _ hn
    rw [Nat.add_comm] at b
    rw [a] at b
    rw [hy]; exact b.symm
   rw [← hy2, hy]
 | none =>
  cases hx : iter f x with
  | none => rfl
  | some r =>
   obtain ⟨n, hn⟩ := iter_some hx
   cases n with
   | zero => cases hn
   | succ n =>
    simp only [iterN, h] at hn
    unfold iter at hy
    rw [dif_pos ⟨n, r, hn⟩] at hy
    cases hy
theorem part_lt {x a : Nat} (ha : a < 256) {r k u : Nat} (h : r + k ≤ 8) (hx : x = (u % 2 ^ k) <<< (8 - r - k)) : x < 256 := by
 have h1 : u % 2 ^ k < 2 ^ k := Nat.mod_lt _ (Nat.two_pow_pos _)
 have h2 : 2 ^ k * 2 ^ (8 - r - k) = 2 ^ (8 - r) := by rw [← Nat.pow_add]; congr 1; omega
 have h3 : 2 ^ (8 - r) ≤ 2 ^ 8 := Nat.pow_le_pow_right (by omega) (by omega)
 rw [hx, Nat.shiftLeft_eq]
 have : (u % 2 ^ k) * 2 ^ (8 - r - k) < 2 ^ k * 2 ^ (8 - r - k) := Nat.mul_lt_mul_of_pos_right h1 (Nat.two_pow_pos _)
 omega
theorem push_eq {l : List Bool} {b : Bool} (hl : l.length < 2 ^ 40) : g_r01_push (pk l, l.length) b.toNat = some (pk (l ++ [b]), ((l.length + 1 : Nat) : Int)) := by
 have e1 : (l.length : Int).tdiv 8 = ((l.length / 8 : Nat) : Int) := tdiv_nat
 have e2 : (l.length : Int).tmod 8 = ((l.length % 8 : Nat) : Int) := tmod_nat
 have e3 : (7 : Int) - ((l.length % 8 : Nat) : Int) = ((7 - l.length % 8 : Nat) : Int) := by omega
 have hb : b.toNat < 2 := by cases b <;> decide
 have e4 : shlI .u64 (b.toNat : Int) ((7 - l.length % 8 : Nat) : Int) = ((b.toNat <<< (7 - l.length % 8) : Nat) : Int) := by
  rw [shl_nat64 (by omega), Nat.mod_eq_of_lt]
  rw [Nat.shiftLeft_eq]
  have : 2 ^ (7 - l.length % 8) ≤ 2 ^ 7 := Nat.pow_le_pow_right (by omega) (by omega)
  have := Nat.mul_le_mul (show b.toNat ≤ 1 by omega) this
  omega
 have hp := pk_part (l := l) (u := b.toNat) (k := 1) (by omega) (by omega)
 have hm : b.toNat % 2 ^ 1 = b.toNat := Nat.mod_eq_of_lt (by omega)
 have hlt : b.toNat <<< (7 - l.length % 8) < 256 := by
  refine part_lt (a := 0) (by omega) (r := l.length % 8) (k := 1) (u := b.toNat) (by omega) ?_
  rw [hm]; congr 1; omega
 rw [hm, show 8 - l.length % 8 - 1 = 7 - l.length % 8 from by omega, bn_one, show b.toNat.testBit 0 = b from by cases b <;> rfl] at hp
 have hB := byt_lt l (l.length / 8)
 have e5 := or_nat8 hB hlt
 have hg := grown_get l
 have hgl := grown_len l
 have hpl := pk_len l
 rw [hp]
 generalize b.toNat <<< (7 - l.length % 8) = y at e4 e5 hlt hp ⊢
 by_cases h : l.length % 8 = 0
 ·rw [if_pos h] at hg hgl ⊢
  simp (disch := omega) only [g_r01_push, e1, e2, e3, e4, hg, e5, wrap_i64, wrap_u64, wrap_u8, rT, eT, wT, dT, Option.bind_some, Int.toNat_natCast]
  rfl
 ·rw [if_neg h] at hg hgl ⊢
  simp (disch := omega) only [g_r01_push, e1, e2, e3, e4, hg, e5, wrap_i64, wrap_u64, wrap_u8, rT, eF, wT, dT, Option.bind_some, Int.toNat_natCast]
  rfl
theorem bn_next (v i : Nat) : bn v (i + 1) = (v.testBit i) :: bn v i := by
 rw [bn_split (k := 1) (by omega), bn_one, Nat.testBit_shiftRight]
 simp
noncomputable def putS (l : List Bool) (v w : Nat) : (List Int × Int) × Int :=
 if l.length + w > 65536 then (([], 0), 2) else ((pk (l ++ bn v w), ((l.length + w : Nat) : Int)), 0)
theorem ck_pk {l : List Bool} (h : l.length ≤ 65536) : ck (pk l) l.length = 0 := by
 unfold ck
 rw [if_pos ((okB_iff (pk_bytes l)).2 ⟨l, rfl, rfl, h⟩)]
theorem small_pk {l : List Bool} (h : l.length ≤ 65536) : small (pk l) := by unfold small; rw [pk_len]; omega
theorem shr64 {v i : Nat} (hv : v < 2 ^ 64) (hi : i ≤ 64) : shrI .u64 (v : Int) (i : Int) = ((v >>> i : Nat) : Int) := shr_nat (by simpa [IntKind.bits] using hi)
theorem shr_lt {v i : Nat} (hv : v < 2 ^ 64) : v >>> i < 2 ^ 64 := Nat.lt_of_le_of_lt (by rw [Nat.shiftRight_eq_div_pow]; exact Nat.div_le_self _ _) hv
theorem r01_Put_eq {l : List Bool} {v w : Nat} (hl : l.length ≤ 65536) (hv : v < 2 ^ w) (hw : w ≤ 64) : g_r01_Put (pk l, l.length) v w = some (putS l v w) := by
 have hv64 : v < 2 ^ 64 := Nat.lt_of_lt_of_le hv (Nat.pow_le_pow_right (by omega) hw)
 have e0 := r01_Check_eq (N := l.length) (pk_bytes l) (small_pk hl)
 rw [ck_pk hl] at e0
 have e1 : shrI .u64 (v : Int) (w : Int) = 0 := by
  rw [shr64 hv64 hw, Nat.shiftRight_eq_div_pow, Nat.div_eq_of_lt hv]; rfl
 have hpl := pk_len l
 unfold putS
 have pre : g_r01_Put (pk l, l.length) v w = (bif decide ((IntKind.i64.wrap ((l.length : Int) + w)) > 65536) then some (([], 0), 2) else
   (g_r01_Copy (pk l, l.length)).bind fun y3 => (iter (g_r01_Put_r1) ((v : Int), (IntKind.i64.wrap ((w : Int) - 1)), ([], 0), (y3.1, y3.2), ())).bind fun j6 => some ((j6.2.1.1, j6.2.1.2), 0)) := by
  by_cases h : w < 64
  ·simp (disch := omega) only [g_r01_Put, e0, e1, nF, dT, dF, wrap_u64, Option.bind_some, bne_self_eq_false, cond_false]
  ·simp (disch := omega) only [g_r01_Put, e0, e1, nF, dT, dF, wrap_u64, Option.bind_some, bne_self_eq_false, cond_false]
 rw [pre]
 by_cases h : l.length + w > 65536
 ·rw [if_pos h]
  simp (disch := omega) only [wrap_i64, dT]
 ·rw [if_neg h]
  have e2 : g_r01_Copy (pk l, l.length) = some (pk l, (l.length : Int)) := by
   simp (disch := omega) only [g_r01_Copy, rT]
  have loop : ∃ r, iter (g_r01_Put_r1) ((v : Int), (w : Int) - 1, ([], 0), (pk l, (l.length : Int)), ()) = some r ∧ r = (([], 0), (pk (l ++ bn v w), ((l.length + w : Nat) : Int)), ()) := by
   refine iter_ex (fun x => (x.2.1 + 1).toNat) (fun x => ∃ (i : Nat) (m : List Bool), x = ((v : Int), (i : Int) - 1, ([], 0), (pk m, (m.length : Int)), ()) ∧ i ≤ w ∧ m ++ bn v i = l ++ bn v w)
    (fun r => r = (([], 0), (pk (l ++ bn v w), ((l.length + w : Nat) : Int)), ())) ?_ _ ⟨w, l, rfl, Nat.le_refl _, rfl⟩
   rintro x ⟨i, m, rfl, h1, h2⟩
   have hlen : m.length + i = l.length + w := by have := congrArg List.length h2; simpa [bn_len] using this
   cases i with
   | zero =>
    right
    rw [bn_zero, List.append_nil] at h2
    refine ⟨_, ?_, rfl⟩
    rw [← h2, show ((l.length + w : Nat) : Int) = (m.length : Int) from by omega]
    simp (disch := omega) only [g_r01_Put_r1, dF]
   | succ i =>
    left
    have e3 := push_eq (l := m) (b := v.testBit i) (by omega)
    have e4 := and_one v i
    have hs := shr_lt (i := i) hv64
    have e5 : bitsI .and .u64 ((v >>> i : Nat) : Int) 1 = (((v >>> i) &&& 1 : Nat) : Int) := and_nat64 (b := 1) hs (by omega)
    have e6 := shr64 (i := i) hv64 (by omega)
    rw [e4] at e5
    have e7 : ((i + 1 : Nat) : Int) - 1 = (i : Int) := by omega
    refine ⟨((v : Int), (i : Int) - 1, ([], 0), (pk (m ++ [v.testBit i]), ((m ++ [v.testBit i]).length : Int)), ()), ?_, ⟨i, m ++ [v.testBit i], rfl, by omega, by rw [← h2, bn_next]; simp⟩, by simp only; omega⟩
    simp (disch := omega) only [g_r01_Put_r1, e7, wrap_u64, wrap_i64, dT, e6, e5, e3, Option.bind_some]
    simp
  obtain ⟨r, h1, rfl⟩ := loop
  simp (disch := omega) only [wrap_i64, dF, e2, Option.bind_some, h1]
end Go.Sq
namespace Go.Sq
open Go.Rx
theorem add_step {l : List Bool} {v w : Nat} {z : List Int × Int} (hl : l.length < 2 ^ 40) (hv : v < 2 ^ 64) (hw : w ≤ 64) (hw0 : 0 < w) :
  ∃ k, 0 < k ∧ k ≤ w ∧ g_bits_add_r1 ((v : Int), (w : Int), (pk l, (l.length : Int)), z, ()) =
   some (.inl ((v : Int), ((w - k : Nat) : Int), (pk (l ++ bn (v >>> (w - k)) k), ((l.length + k : Nat) : Int)), z, ())) := by
 have e0 : (0 : Int) - (l.length : Int) = -(l.length : Int) := by omega
 have e1 := and7 (n := l.length) (by omega)
 have hpl := pk_len l
 obtain ⟨free, hfree⟩ : ∃ free, free = 8 - l.length % 8 := ⟨_, rfl⟩
 obtain ⟨k, hk⟩ : ∃ k, k = min free w := ⟨_, rfl⟩
 have hkif : (if (w : Int) < ((free : Nat) : Int) then (w : Int) else ((free : Nat) : Int)) = (k : Int) := by
  rw [hk]; split <;> omega
 refine ⟨k, by omega, by omega, ?_⟩
 have hp := pk_part (l := l) (u := v >>> (w - k)) (k := k) (by omega) (by omega)
 have hB := byt_lt l (l.length / 8)
 have hlt : ((v >>> (w - k)) % 2 ^ k) <<< (8 - l.length % 8 - k) < 256 := part_lt (a := 0) (by omega) (r := l.length % 8) (k := k) (by omega) rfl
 have e2 : (w : Int) - (k : Int) = ((w - k : Nat) : Int) := by omega
 have e3 : (free : Int) - (k : Int) = ((free - k : Nat) : Int) := by omega
 have e4 := shr64 (i := w - k) hv (by omega)
 have hs := shr_lt (i := w - k) hv
 have e5 := shl_one (k := k) (by omega)
 have hpow : 2 ^ k ≤ 2 ^ 8 := Nat.pow_le_pow_right (by omega) (by omega)
 have hpos := Nat.two_pow_pos k
 have e6 : ((2 ^ k : Nat) : Int) - 1 = ((2 ^ k - 1 : Nat) : Int) := by omega
 have e7 := and_mask (a := v >>> (w - k)) (k := k) hs (by omega)
 have hmod : (v >>> (w - k)) % 2 ^ k < 2 ^ k := Nat.mod_lt _ hpos
 have e8 : shlI .u8 (((v >>> (w - k)) % 2 ^ k : Nat) : Int) ((free - k : Nat) : Int) = ((((v >>> (w - k)) % 2 ^ k) <<< (free - k) : Nat) : Int) := by
  rw [shl_nat8 (by omega), Nat.mod_eq_of_lt (by rw [hfree]; exact hlt)]
 rw [← hfree] at hp hlt
 have e9 := or_nat8 hB hlt
 have hg := grown_get l
 have hgl := grown_len l
 rw [hp]
 generalize ((v >>> (w - k)) % 2 ^ k) = y at e7 e8 e9 hlt hmod ⊢
 generalize (y <<< (free - k)) = y2 at e8 e9 hlt ⊢
 generalize v >>> (w - k) = y3 at e4 hs e7
 generalize 2 ^ k = y4 at e5 e6 e7 hpow hpos hmod
 by_cases h : l.length % 8 = 0
 ·rw [if_pos h] at hg hgl ⊢
  have hfr : (8 : Int) = (free : Int) := by omega
  simp (disch := omega) only [g_bits_add_r1, dT, e0, wrap_i64, e1, eT, rT, Option.bind_some]
  rw [hfr]
  simp (disch := omega) only [hkif, e2, e3, e4, e5, e6, e7, e8, e9, hg, dT, wT, wrap_i64, wrap_u8, wrap_u64]
  have h5 : ((((pk l ++ [0]).length : Int) - 1).toNat) = l.length / 8 := by omega
  rw [h5, hg, e9]
  rfl
 ·rw [if_neg h] at hg hgl ⊢
  have hfr : (((8 - l.length % 8) % 8 : Nat) : Int) = (free : Int) := by omega
  simp (disch := omega) only [g_bits_add_r1, dT, e0, wrap_i64, e1, eF, Option.bind_some]
  rw [hfr]
  simp (disch := omega) only [hkif, e2, e3, e4, e5, e6, e7, e8, e9, hg, dT, wT, wrap_i64, wrap_u8, wrap_u64]
  have h5 : ((((pk l).length : Int) - 1).toNat) = l.length / 8 := by omega
  rw [h5, hg, e9]
  rfl
theorem add_eq {l : List Bool} {v w : Nat} (hl : l.length < 2 ^ 39) (hv : v < 2 ^ 64) (hw : w ≤ 64) : g_bits_add (pk l, l.length) v w = some (pk (l ++ bn v w), ((l.length + w : Nat) : Int)) := by
 have loop : ∃ r, iter g_bits_add_r1 ((v : Int), (w : Int), (pk l, (l.length : Int)), ([], 0), ()) = some r ∧ r = ((pk (l ++ bn v w), ((l.length + w : Nat) : Int)), ([], 0), ()) := by
  refine iter_ex (fun x => x.2.1.toNat) (fun x => ∃ (i : Nat) (m : List Bool), x = ((v : Int), (i : Int), (pk m, (m.length : Int)), ([], 0), ()) ∧ i ≤ w ∧ m ++ bn v i = l ++ bn v w)
   (fun r => r = ((pk (l ++ bn v w), ((l.length + w : Nat) : Int)), ([], 0), ())) ?_ _ ⟨w, l, rfl, Nat.le_refl _, rfl⟩
  rintro x ⟨i, m, rfl, h1, h2⟩
  have hlen : m.length + i = l.length + w := by have := congrArg List.length h2; simpa [bn_len] using this
  rcases Nat.eq_zero_or_pos i with rfl | hi
  ·right
   rw [bn_zero, List.append_nil] at h2
   refine ⟨_, ?_, rfl⟩
   rw [← h2, show ((l.length + w : Nat) : Int) = (m.length : Int) from by omega]
   simp (disch := omega) only [g_bits_add_r1, dF]
  ·left
   obtain ⟨k, hk0, hk, hstep⟩ := add_step (l := m) (v := v) (w := i) (z := ([], 0)) (by omega) hv (by omega) hi
   refine ⟨_, hstep, ⟨i - k, m ++ bn (v >>> (i - k)) k, by rw [List.length_append, bn_len], by omega, ?_⟩, by simp only; omega⟩
   rw [List.append_assoc, ← bn_split hk, h2]
 obtain ⟨r, h1, rfl⟩ := loop
 simp only [g_bits_add, h1, Option.bind_some]
end Go.Sq
namespace Go.Sq
open Go.Rx
def len8 : ByteArray := ByteArray.mk #[0, 1, 2, 2, 3, 3, 3, 3, 4, 4, 4, 4, 4, 4, 4, 4, 5, 5, 5, 5, 5, 5, 5, 5, 5, 5, 5, 5, 5, 5, 5, 5, 6, 6, 6, 6, 6, 6, 6, 6, 6, 6, 6, 6, 6, 6, 6, 6, 6, 6, 6, 6, 6, 6, 6, 6, 6, 6, 6, 6, 6, 6, 6, 6, 7, 7, 7, 7, 7, 7, 7, 7, 7, 7, 7, 7, 7, 7, 7, 7, 7, 7, 7, 7, 7, 7, 7, 7, 7, 7, 7, 7, 7, 7, 7, 7, 7, 7, 7, 7, 7, 7, 7, 7, 7, 7, 7, 7, 7, 7, 7, 7, 7, 7, 7, 7, 7, 7, 7, 7, 7, 7, 7, 7, 7, 7, 7, 7, 8, 8, 8, 8, 8, 8, 8, 8, 8, 8, 8, 8, 8, 8, 8, 8, 8, 8, 8, 8, 8, 8, 8, 8, 8, 8, 8, 8, 8, 8, 8, 8, 8, 8, 8, 8, 8, 8, 8, 8, 8, 8, 8, 8, 8, 8, 8, 8, 8, 8, 8, 8, 8, 8, 8, 8, 8, 8, 8, 8, 8, 8, 8, 8, 8, 8, 8, 8, 8, 8, 8, 8, 8, 8, 8, 8, 8, 8, 8, 8, 8, 8, 8, 8, 8, 8, 8, 8, 8, 8, 8, 8, 8, 8, 8, 8, 8, 8, 8, 8, 8, 8, 8, 8, 8, 8, 8, 8, 8, 8, 8, 8, 8, 8, 8, 8, 8, 8, 8, 8, 8, 8, 8, 8, 8, 8, 8, 8]
noncomputable def tailF (x m : Int) : Option Int := bif (within (IntKind.u8.wrap x) (len8.size)) then
 some (IntKind.i64.wrap (m + (IntKind.i64.wrap ((len8.data.getD (IntKind.u8.wrap x).toNat 0).toNat : Int))))
 else none
noncomputable def len64 (a0 : Int) : Option (Int) :=
 (bif (decide (a0 ≥ 4294967296)) then
 some ((shrI .u64 a0 32), 32, ())
 else
 some (a0, 0, ()) : Option ((Int × Int × Unit))).bind fun j1 => 
 (bif (decide (j1.1 ≥ 65536)) then
 some ((shrI .u64 j1.1 16), (IntKind.i64.wrap (j1.2.1 + 16)), ())
 else
 some (j1.1, j1.2.1, ()) : Option ((Int × Int × Unit))).bind fun j2 => 
 (bif (decide (j2.1 ≥ 256)) then
 some ((shrI .u64 j2.1 8), (IntKind.i64.wrap (j2.2.1 + 8)), ())
 else
 some (j2.1, j2.2.1, ()) : Option ((Int × Int × Unit))).bind fun j3 => 
 tailF j3.1 j3.2.1
theorem len64_eq (a : Int) : g_math_bits_Len64 a = len64 a := by kernel_rfl
theorem len8_size : len8.size = 256 := by kernel_rfl
set_option maxRecDepth 100000 in
theorem len8_get : ∀ x, x < 256 → x < 2 ^ (len8.data.getD x 0).toNat ∧ ((len8.data.getD x 0).toNat = 0 ∨ 2 ^ ((len8.data.getD x 0).toNat - 1) ≤ x) ∧ (len8.data.getD x 0).toNat ≤ 8 := by decide +kernel
def isLen (x n : Nat) : Prop := x < 2 ^ n ∧ (n = 0 ∨ 2 ^ (n - 1) ≤ x)
theorem isLen_shift {x n k : Nat} (h : isLen (x >>> k) n) (hx : 2 ^ k ≤ x) : isLen x (n + k) := by
 rw [Nat.shiftRight_eq_div_pow] at h
 obtain ⟨h1, h2⟩ := h
 have hp := Nat.two_pow_pos k
 have hge : 1 ≤ x / 2 ^ k := (Nat.le_div_iff_mul_le hp).2 (by omega)
 refine ⟨?_, ?_⟩
 ·rw [Nat.pow_add]; exact (Nat.div_lt_iff_lt_mul hp).1 h1
 ·right
  rcases h2 with h2 | h2
  ·subst h2; simp at h1; omega
  ·have hn : n ≠ 0 := by rintro rfl; simp at h1; omega
   rw [show n + k - 1 = (n - 1) + k from by omega, Nat.pow_add]
   exact (Nat.le_div_iff_mul_le hp).1 h2
theorem tail_eq {x m : Nat} (hx : x < 256) (hm : m ≤ 100) : ∃ n, tailF x m = some (((n + m : Nat)) : Int) ∧ isLen x n ∧ n ≤ 8 := by
 obtain ⟨h1, h2, h3⟩ := len8_get x hx
 refine ⟨_, ?_, ⟨h1, h2⟩, h3⟩
 have e := wrap_u8 (n := (x : Int)) (by omega) (by omega)
 unfold tailF
 rw [e, len8_size, Int.toNat_natCast]
 generalize (len8.data.getD x 0).toNat = y at h3
 simp (disch := omega) only [wT, wrap_i64]
 congr 1; omega
theorem Len64_eq {x : Nat} (hx : x < 2 ^ 64) : ∃ n : Nat, g_math_bits_Len64 x = some (n : Int) ∧ isLen x n ∧ n ≤ 64 := by
 rw [len64_eq]
 have s2 : ∀ (x m : Nat), x < 2 ^ 16 → m ≤ 48 → ∃ n : Nat, ((bif (decide ((x : Int) ≥ 256)) then some ((shrI .u64 (x : Int) 8), (IntKind.i64.wrap ((m : Int) + 8)), ()) else some ((x : Int), (m : Int), ()) : Option ((Int × Int × Unit))).bind fun j3 =>
   tailF j3.1 j3.2.1) = some (((n + m : Nat)) : Int) ∧ isLen x n ∧ n ≤ 16 := by
  intro x m hx hm
  by_cases h : 256 ≤ x
  ·have e : shrI .u64 (x : Int) 8 = ((x >>> 8 : Nat) : Int) := shr_nat (n := 8) (by simp [IntKind.bits])
   have hs : x >>> 8 = x / 256 := by rw [Nat.shiftRight_eq_div_pow]
   obtain ⟨n, h1, h2, h3⟩ := tail_eq (x := x >>> 8) (m := m + 8) (by omega) (by omega)
   refine ⟨n + 8, ?_, isLen_shift h2 (by simpa using h), by omega⟩
   rw [dT (by omega), e, Option.bind_some, wrap_i64 (n := (m : Int) + 8) (by omega) (by omega)]
   rw [show (m : Int) + 8 = ((m + 8 : Nat) : Int) from by omega, h1]
   exact congrArg (fun k : Nat => some (k : Int)) (by omega)
  ·obtain ⟨n, h1, h2, h3⟩ := tail_eq (x := x) (m := m) (by omega) (by omega)
   refine ⟨n, ?_, h2, by omega⟩
   rw [dF (by omega), Option.bind_some]
   exact h1
 have s1 : ∀ (x m : Nat), x < 2 ^ 32 → m ≤ 32 → ∃ n : Nat, ((bif (decide ((x : Int) ≥ 65536)) then some ((shrI .u64 (x : Int) 16), (IntKind.i64.wrap ((m : Int) + 16)), ()) else some ((x : Int), (m : Int), ()) : Option ((Int × Int × Unit))).bind fun j2 =>
   (bif (decide (j2.1 ≥ 256)) then some ((shrI .u64 j2.1 8), (IntKind.i64.wrap (j2.2.1 + 8)), ()) else some (j2.1, j2.2.1, ()) : Option ((Int × Int × Unit))).bind fun j3 =>
   tailF j3.1 j3.2.1) = some (((n + m : Nat)) : Int) ∧ isLen x n ∧ n ≤ 32 := by
  intro x m hx hm
  by_cases h : 65536 ≤ x
  ·have e : shrI .u64 (x : Int) 16 = ((x >>> 16 : Nat) : Int) := shr_nat (n := 16) (by simp [IntKind.bits])
   have hs : x >>> 16 = x / 65536 := by rw [Nat.shiftRight_eq_div_pow]
   obtain ⟨n, h1, h2, h3⟩ := s2 (x >>> 16) (m + 16) (by omega) (by omega)
   refine ⟨n + 16, ?_, isLen_shift h2 (by simpa using h), by omega⟩
   rw [dT (by omega), e, Option.bind_some, wrap_i64 (n := (m : Int) + 16) (by omega) (by omega)]
   rw [show (m : Int) + 16 = ((m + 16 : Nat) : Int) from by omega]
   refine (Eq.trans h1 ?_)
   exact congrArg (fun k : Nat => some (k : Int)) (by omega)
  ·obtain ⟨n, h1, h2, h3⟩ := s2 x m (by omega) (by omega)
   refine ⟨n, ?_, h2, by omega⟩
   rw [dF (by omega), Option.bind_some]
   exact h1
 unfold len64
 by_cases h : 4294967296 ≤ x
 ·have e : shrI .u64 (x : Int) 32 = ((x >>> 32 : Nat) : Int) := shr_nat (n := 32) (by simp [IntKind.bits])
  have hs : x >>> 32 = x / 4294967296 := by rw [Nat.shiftRight_eq_div_pow]
  obtain ⟨n, h1, h2, h3⟩ := s1 (x >>> 32) 32 (by omega) (by omega)
  refine ⟨n + 32, ?_, isLen_shift h2 (by simpa using h), by omega⟩
  rw [dT (by omega), e, Option.bind_some]
  exact h1
 ·obtain ⟨n, h1, h2, h3⟩ := s1 x 0 (by omega) (by omega)
  refine ⟨n, ?_, h2, by omega⟩
  rw [dF (by omega), Option.bind_some]
  exact h1
theorem fits_eq {v : Nat} {w : Nat} (hv : v < 2 ^ 64) (hw : w ≤ 64) : g_bits_fits v w = some (decide (v < 2 ^ w)) := by
 obtain ⟨n, h1, h2, h3⟩ := Len64_eq hv
 simp (disch := omega) only [g_bits_fits, dT, h1, Option.bind_some]
 congr 1
 rw [decide_eq_decide]
 constructor
 ·intro h
  exact Nat.lt_of_lt_of_le h2.1 (Nat.pow_le_pow_right (by omega) (by omega))
 ·intro h
  rcases h2.2 with h4 | h4
  ·omega
  ·have := (Nat.pow_lt_pow_iff_right (a := 2) (by omega)).1 (Nat.lt_of_le_of_lt h4 h)
   omega
theorem bits_Put_eq {l : List Bool} {v w : Nat} (hl : l.length ≤ 65536) (hv : v < 2 ^ w) (hw : w ≤ 64) : g_bits_Put (pk l, l.length) v w = some (putS l v w) := by
 have hv64 : v < 2 ^ 64 := Nat.lt_of_lt_of_le hv (Nat.pow_le_pow_right (by omega) hw)
 have e0 := bits_Check_eq (N := l.length) (pk_bytes l) (small_pk hl)
 rw [ck_pk hl] at e0
 have e1 := fits_eq hv64 hw
 have hpl := pk_len l
 have e2 : g_slices_Clone_Sbyte_byte (pk l) = some (pk l) := by
  simp only [g_slices_Clone_Sbyte_byte, List.nil_append]
  rw [rT (by omega)]
 have e3 := add_eq (l := l) (v := v) (w := w) (by omega) hv64 hw
 unfold putS
 by_cases h : l.length + w > 65536
 ·rw [if_pos h]
  simp (disch := omega) only [g_bits_Put, e0, e1, nF, Option.bind_some, hv, decide_true, Bool.not_true, cond_false, wrap_i64, dT]
 ·rw [if_neg h]
  simp (disch := omega) only [g_bits_Put, e0, e1, nF, Option.bind_some, hv, decide_true, Bool.not_true, cond_false, wrap_i64, dF, e2, e3]
end Go.Sq
namespace Go.Sq
open Go.Rx
def okF (C : List Int) : Prop := 2 ≤ C.length ∧ C.length ≤ 257 ∧ C.getD 0 0 = 0 ∧ C.getD (C.length - 1) 0 ≤ 16384 ∧ ∀ i, i + 1 < C.length → C.getD i 0 < C.getD (i + 1) 0
open Classical in
noncomputable def ckF (C : List Int) : Int := if okF C then 0 else 1
theorem getD_drop {α : Type} (l : List α) (k i : Nat) (d : α) : (l.drop k).getD i d = l.getD (k + i) d := by
 simp [List.getD_eq_getElem?_getD]
theorem last_eq {C : List Int} (h : 1 ≤ C.length) (h2 : C.length < 2 ^ 62) : g_freq_last C = some (C.getD (C.length - 1) 0) := by
 have e : ((C.length : Int) - 1).toNat = C.length - 1 := by omega
 simp (disch := omega) only [g_freq_last, wrap_i64, wT, e]
theorem freq_Check_eq {C : List Int} (hs : small C) : g_freq_Check C = some (ckF C) := by
 unfold small at hs
 unfold ckF
 by_cases h1 : C.length < 2
 ·rw [if_neg fun h => by have := h.1; omega]
  simp (disch := omega) only [g_freq_Check, dT, Option.bind_some, cond_true]
 by_cases h2 : C.length > 257
 ·rw [if_neg fun h => by have := h.2.1; omega]
  simp (disch := omega) only [g_freq_Check, dT, dF, Option.bind_some, cond_true]
 by_cases h3 : C.getD 0 0 ≠ 0
 ·rw [if_neg fun h => h3 h.2.2.1]
  simp (disch := omega) only [g_freq_Check, dT, dF, wT, nT, Option.bind_some, cond_true]
 have h3 : C.getD 0 0 = 0 := Decidable.not_not.1 h3
 have hl := last_eq (C := C) (by omega) (by omega)
 by_cases h4 : C.getD (C.length - 1) 0 > 16384
 ·rw [if_neg fun h => by have := h.2.2.2.1; omega]
  simp (disch := omega) only [g_freq_Check, dT, dF, wT, nF, h3, hl, Option.bind_some, cond_true]
 have et : (C.take (C.length : Int).toNat).drop 1 = C.drop 1 := by rw [Int.toNat_natCast, List.take_length]
 have eln : (C.drop 1).length = C.length - 1 := by simp
 have loop : ∃ r, iter g_freq_Check_r1 (C.drop 1, ((C.drop 1).length : Int), 0, C, ()) = some r ∧ ((r = (.inl () : Unit ⊕ (Int × Unit)) ∧ okF C) ∨ (r = .inr (1, ()) ∧ ¬ okF C)) := by
  refine iter_ex (fun x => ((C.length : Int) - x.2.2.1).toNat) (fun x => ∃ i : Nat, x = (C.drop 1, ((C.drop 1).length : Int), (i : Int), C, ()) ∧ i ≤ C.length - 1 ∧ ∀ j, j < i → C.getD j 0 < C.getD (j + 1) 0)
   (fun r => (r = (.inl () : Unit ⊕ (Int × Unit)) ∧ okF C) ∨ (r = .inr (1, ()) ∧ ¬ okF C)) ?_ _ ⟨0, rfl, by omega, fun j hj => by omega⟩
  rintro x ⟨i, rfl, h5, h6⟩
  have eg := getD_drop C 1 i 0
  rw [Nat.add_comm] at eg
  by_cases h7 : i < C.length - 1
  ·by_cases h8 : C.getD (i + 1) 0 ≤ C.getD i 0
   ·right
    refine ⟨_, ?_, .inr ⟨rfl, fun h => by have := h.2.2.2.2 i (by omega); omega⟩⟩
    simp (disch := omega) only [g_freq_Check_r1, dT, wT, Int.toNat_natCast, eg]
   ·left
    refine ⟨(C.drop 1, ((C.drop 1).length : Int), ((i + 1 : Nat) : Int), C, ()), ?_, ⟨i + 1, rfl, by omega, fun j hj => ?_⟩, by simp only; omega⟩
    ·simp (disch := omega) only [g_freq_Check_r1, dT, dF, wT, Int.toNat_natCast, eg, wrap_i64]
     rfl
    ·rcases Nat.lt_or_eq_of_le (Nat.lt_succ_iff.1 hj) with h | rfl
     ·exact h6 j h
     ·omega
  ·right
   refine ⟨_, ?_, .inl ⟨rfl, by omega, by omega, h3, by omega, fun j hj => h6 j (by omega)⟩⟩
   simp (disch := omega) only [g_freq_Check_r1, dF]
 obtain ⟨r, h5, h6⟩ := loop
 rcases h6 with ⟨rfl, hok⟩ | ⟨rfl, hok⟩
 ·rw [if_pos hok]
  simp (disch := omega) only [g_freq_Check, dF, wT, nF, gT, h3, hl, Option.bind_some, et, h5]
 ·rw [if_neg hok]
  simp (disch := omega) only [g_freq_Check, dF, wT, nF, gT, h3, hl, Option.bind_some, et, h5]
theorem r03_Check_eq {C : List Int} (hs : small C) : g_r03_Check C = some (ckF C) := by
 unfold small at hs
 unfold ckF
 by_cases h1 : C.length < 2
 ·rw [if_neg fun h => by have := h.1; omega]
  simp (disch := omega) only [g_r03_Check, dT, Option.bind_some, cond_true]
 by_cases h2 : C.length > 257
 ·rw [if_neg fun h => by have := h.2.1; omega]
  simp (disch := omega) only [g_r03_Check, dT, dF, Option.bind_some, cond_true]
 by_cases h3 : C.getD 0 0 ≠ 0
 ·rw [if_neg fun h => h3 h.2.2.1]
  simp (disch := omega) only [g_r03_Check, dT, dF, wT, nT, Option.bind_some, cond_true]
 have h3 : C.getD 0 0 = 0 := Decidable.not_not.1 h3
 have hl : ((C.length : Int) - 1).toNat = C.length - 1 := by omega
 by_cases h4 : C.getD (C.length - 1) 0 > 16384
 ·rw [if_neg fun h => by have := h.2.2.2.1; omega]
  simp (disch := omega) only [g_r03_Check, dT, dF, wT, nF, h3, hl, wrap_i64, Option.bind_some, cond_true]
 have loop : ∃ r, iter g_r03_Check_r1 ((C.length : Int), 1, C, ()) = some r ∧ ((r = (.inl () : Unit ⊕ (Int × Unit)) ∧ okF C) ∨ (r = .inr (1, ()) ∧ ¬ okF C)) := by
  refine iter_ex (fun x => ((C.length : Int) - x.2.1).toNat) (fun x => ∃ i : Nat, x = ((C.length : Int), ((i + 1 : Nat) : Int), C, ()) ∧ i ≤ C.length - 1 ∧ ∀ j, j < i → C.getD j 0 < C.getD (j + 1) 0)
   (fun r => (r = (.inl () : Unit ⊕ (Int × Unit)) ∧ okF C) ∨ (r = .inr (1, ()) ∧ ¬ okF C)) ?_ _ ⟨0, rfl, by omega, fun j hj => by omega⟩
  rintro x ⟨i, rfl, h5, h6⟩
  have e1 : ((i + 1 : Nat) : Int) - 1 = (i : Int) := by omega
  by_cases h7 : i < C.length - 1
  ·by_cases h8 : C.getD (i + 1) 0 ≤ C.getD i 0
   ·right
    refine ⟨_, ?_, .inr ⟨rfl, fun h => by have := h.2.2.2.2 i (by omega); omega⟩⟩
    simp (disch := omega) only [g_r03_Check_r1, dT, wT, Int.toNat_natCast, e1, wrap_i64]
   ·left
    refine ⟨((C.length : Int), ((i + 1 + 1 : Nat) : Int), C, ()), ?_, ⟨i + 1, rfl, by omega, fun j hj => ?_⟩, by simp only; omega⟩
    ·simp (disch := omega) only [g_r03_Check_r1, dT, dF, wT, Int.toNat_natCast, e1, wrap_i64]
     rfl
    ·rcases Nat.lt_or_eq_of_le (Nat.lt_succ_iff.1 hj) with h | rfl
     ·exact h6 j h
     ·omega
  ·right
   refine ⟨_, ?_, .inl ⟨rfl, by omega, by omega, h3, by omega, fun j hj => h6 j (by omega)⟩⟩
   simp (disch := omega) only [g_r03_Check_r1, dF]
 obtain ⟨r, h5, h6⟩ := loop
 rcases h6 with ⟨rfl, hok⟩ | ⟨rfl, hok⟩
 ·rw [if_pos hok]
  simp (disch := omega) only [g_r03_Check, dF, wT, nF, h3, hl, wrap_i64, Option.bind_some, h5]
 ·rw [if_neg hok]
  simp (disch := omega) only [g_r03_Check, dF, wT, nF, h3, hl, wrap_i64, Option.bind_some, h5]
end Go.Sq
namespace Go.Sq
open Go.Rx
theorem ckF_pos {C : List Int} (h : okF C) : ckF C = 0 := by unfold ckF; rw [if_pos h]
theorem ckF_neg {C : List Int} (h : ¬ okF C) : ckF C = 1 := by unfold ckF; rw [if_neg h]
open Classical in
noncomputable def spanS (C : List Int) (s : Int) : Int × Int × Int :=
 if okF C ∧ 0 ≤ s ∧ s + 2 ≤ C.length then (C.getD s.toNat 0, (C.getD (s.toNat + 1) 0, 0)) else (0, (0, 1))
theorem freq_Span_eq {C : List Int} {s : Int} (hs : small C) (hr : s < 2 ^ 63) : g_freq_Span C s = some (spanS C s) := by
 have hc := freq_Check_eq hs
 unfold small at hs
 unfold spanS
 by_cases h0 : okF C
 ·have hl := h0.2.1
  rw [ckF_pos h0] at hc
  by_cases h1 : 0 ≤ s ∧ s + 2 ≤ C.length
  ·rw [if_pos ⟨h0, h1⟩]
   have e : (s + 1).toNat = s.toNat + 1 := by omega
   simp (disch := omega) only [g_freq_Span, hc, nF, dF, wT, wrap_i64, Option.bind_some, e]
  ·rw [if_neg fun h => h1 h.2]
   by_cases h2 : s < 0
   ·simp (disch := omega) only [g_freq_Span, hc, nF, dT, Option.bind_some, cond_true]
   ·simp (disch := omega) only [g_freq_Span, hc, nF, dF, dT, wrap_i64, Option.bind_some]
 ·rw [if_neg fun h => h0 h.1]
  rw [ckF_neg h0] at hc
  simp (disch := omega) only [g_freq_Span, hc, nT, Option.bind_some, cond_true]
theorem r03_Span_eq {C : List Int} {s : Int} (hs : small C) (hr : s < 2 ^ 63) : g_r03_Span C s = some (spanS C s) := by
 have hc := r03_Check_eq hs
 unfold small at hs
 unfold spanS
 by_cases h0 : okF C
 ·have hl := h0.2.1
  rw [ckF_pos h0] at hc
  by_cases h1 : 0 ≤ s ∧ s + 2 ≤ C.length
  ·rw [if_pos ⟨h0, h1⟩]
   have e : (s + 1).toNat = s.toNat + 1 := by omega
   simp (disch := omega) only [g_r03_Span, hc, nF, dF, wT, wrap_i64, Option.bind_some, e]
  ·rw [if_neg fun h => h1 h.2]
   by_cases h2 : s < 0
   ·simp (disch := omega) only [g_r03_Span, hc, nF, dT, Option.bind_some, cond_true]
   ·simp (disch := omega) only [g_r03_Span, hc, nF, dF, dT, wrap_i64, Option.bind_some]
 ·rw [if_neg fun h => h0 h.1]
  rw [ckF_neg h0] at hc
  simp (disch := omega) only [g_r03_Span, hc, nT, Option.bind_some, cond_true]
open Classical in
noncomputable def totS (C : List Int) : Int := if okF C then C.getD (C.length - 1) 0 else 0
theorem freq_Total_eq {C : List Int} (hs : small C) : g_freq_Total C = some (totS C) := by
 have hc := freq_Check_eq hs
 unfold totS
 by_cases h0 : okF C
 ·have hl := h0.2.1
  have h2 := h0.1
  rw [ckF_pos h0] at hc
  rw [if_pos h0]
  have e := last_eq (C := C) (by omega) (by omega)
  simp (disch := omega) only [g_freq_Total, hc, nF, e, Option.bind_some]
 ·rw [ckF_neg h0] at hc
  rw [if_neg h0]
  simp (disch := omega) only [g_freq_Total, hc, nT, Option.bind_some]
theorem r03_Total_eq {C : List Int} (hs : small C) : g_r03_Total C = some (totS C) := by
 have hc := r03_Check_eq hs
 unfold totS
 by_cases h0 : okF C
 ·have hl := h0.2.1
  have h2 := h0.1
  rw [ckF_pos h0] at hc
  rw [if_pos h0]
  have e : ((C.length : Int) - 1).toNat = C.length - 1 := by omega
  simp (disch := omega) only [g_r03_Total, hc, nF, wT, wrap_i64, e, Option.bind_some]
 ·rw [ckF_neg h0] at hc
  rw [if_neg h0]
  simp (disch := omega) only [g_r03_Total, hc, nT, Option.bind_some]
theorem okF_mono {C : List Int} (h : okF C) : ∀ {i j : Nat}, i ≤ j → j < C.length → C.getD i 0 ≤ C.getD j 0 := by
 intro i j hij
 induction j with
 | zero => intro _; rw [Nat.le_zero.1 hij]; exact Int.le_refl _
 | succ j ih =>
  intro hj
  rcases Nat.lt_or_eq_of_le hij with h' | rfl
  ·have := ih (Nat.lt_succ_iff.1 h') (by omega)
   have := h.2.2.2.2 j hj
   omega
  ·exact Int.le_refl _
theorem okF_lt {C : List Int} (h : okF C) {i j : Nat} (hij : i < j) (hj : j < C.length) : C.getD i 0 < C.getD j 0 := by
 have h1 := h.2.2.2.2 i (by omega)
 have h2 := okF_mono h (i := i + 1) (j := j) hij hj
 omega
def isSym (C : List Int) (x : Int) (s : Nat) : Prop := s + 1 < C.length ∧ C.getD s 0 ≤ x ∧ x < C.getD (s + 1) 0
theorem totS_pos {C : List Int} (h : okF C) : totS C = C.getD (C.length - 1) 0 ∧ 1 ≤ totS C ∧ totS C ≤ 16384 := by
 have : totS C = C.getD (C.length - 1) 0 := by unfold totS; rw [if_pos h]
 refine ⟨this, ?_, by rw [this]; exact h.2.2.2.1⟩
 have h1 := okF_lt h (i := 0) (j := C.length - 1) (by have := h.1; omega) (by have := h.1; omega)
 rw [h.2.2.1] at h1
 omega
theorem isSym_ex {C : List Int} (h : okF C) {x : Int} (h0 : 0 ≤ x) (h1 : x < totS C) : ∃ s, isSym C x s := by
 have h2 := h.1
 have key : ∀ n, n < C.length → x < C.getD n 0 → ∃ s, isSym C x s := by
  intro n
  induction n with
  | zero => intro _ hx; rw [h.2.2.1] at hx; omega
  | succ n ih =>
   intro hn hx
   by_cases h3 : x < C.getD n 0
   ·exact ih (by omega) h3
   ·exact ⟨n, hn, by omega, hx⟩
 exact key (C.length - 1) (by omega) (by rw [← (totS_pos h).1]; exact h1)
theorem r03_Find_eq {C : List Int} {x : Int} {s : Nat} (h : okF C) (hs : isSym C x s) : g_r03_Find C x = some ((s : Int), 0) := by
 have hl := h.2.1
 have hsm : small C := by unfold small; omega
 have hc := r03_Check_eq hsm
 rw [ckF_pos h] at hc
 have ht := r03_Total_eq hsm
 have htot := totS_pos h
 have h0 : 0 ≤ x := by
  have := okF_mono h (i := 0) (j := s) (by omega) (by have := hs.1; omega)
  rw [h.2.2.1] at this
  have := hs.2.1; omega
 have h1 : x < totS C := by
  have := okF_mono h (i := s + 1) (j := C.length - 1) (by have := hs.1; omega) (by have := h.1; omega)
  rw [htot.1]; have := hs.2.2; omega
 have loop : ∃ r, iter g_r03_Find_r1 (x, 0, C, ()) = some r ∧ r = ((s : Int), ()) := by
  refine iter_ex (fun y => ((C.length : Int) - y.2.1).toNat) (fun y => ∃ i : Nat, y = (x, (i : Int), C, ()) ∧ i ≤ s) (fun r => r = ((s : Int), ())) ?_ _ ⟨0, rfl, Nat.zero_le _⟩
  rintro y ⟨i, rfl, h3⟩
  have hs1 := hs.1
  have e : ((i : Int) + 1).toNat = i + 1 := by omega
  rcases Nat.lt_or_eq_of_le h3 with h4 | h4
  ·have h5 := okF_mono h (i := i + 1) (j := s) h4 (by omega)
   have h6 := hs.2.1
   left
   refine ⟨(x, ((i + 1 : Nat) : Int), C, ()), ?_, ⟨i + 1, rfl, h4⟩, by simp only; omega⟩
   simp (disch := omega) only [g_r03_Find_r1, wT, wrap_i64, e, dT]
   rfl
  ·subst h4
   have h6 := hs.2.2
   right
   refine ⟨_, ?_, rfl⟩
   simp (disch := omega) only [g_r03_Find_r1, wT, wrap_i64, e, dF]
 obtain ⟨r, h3, rfl⟩ := loop
 simp (disch := omega) only [g_r03_Find, hc, nF, dF, ht, Option.bind_some, h3]
theorem cmp_Less_eq {a b : Int} : g_cmp_Less_int a b = some (decide (a < b)) := by
 simp only [g_cmp_Less_int, g_cmp_isNaN_int, bne_self_eq_false, Option.bind_some, cond_false]
theorem BinarySearch_eq {C : List Int} {x : Int} {s : Nat} (h : okF C) (hs : isSym C x s) :
  g_slices_BinarySearch_Sint_int C x = some (if C.getD s 0 = x then ((s : Int), true) else (((s + 1 : Nat) : Int), false)) := by
 have hl := h.2.1
 have hs1 := hs.1
 obtain ⟨p, hp⟩ : ∃ p : Nat, p = if C.getD s 0 = x then s else s + 1 := ⟨_, rfl⟩
 have hpl : p < C.length := by rw [hp]; split <;> omega
 have below : ∀ i, i < p → C.getD i 0 < x := by
  intro i hi
  rw [hp] at hi
  split at hi
  ·rename_i e; rw [← e]; exact okF_lt h hi (by omega)
  ·rename_i e
   have := okF_mono h (i := i) (j := s) (by omega) (by omega)
   have := hs.2.1; omega
 have above : ∀ i, p ≤ i → i < C.length → x ≤ C.getD i 0 := by
  intro i hi hil
  rw [hp] at hi
  split at hi
  ·rename_i e; rw [← e]; exact okF_mono h hi hil
  ·have := okF_mono h (i := s + 1) (j := i) hi hil
   have := hs.2.2; omega
 have loop : ∃ r, iter g_slices_BinarySearch_Sint_int_r1 (C, x, (C.length : Int), 0, (C.length : Int), ()) = some r ∧ r = (C, x, (C.length : Int), (p : Int), ()) := by
  refine iter_ex (fun y => (y.2.2.2.2.1 - y.2.2.2.1).toNat) (fun y => ∃ i j : Nat, y = (C, x, (C.length : Int), (i : Int), (j : Int), ()) ∧ i ≤ p ∧ p ≤ j ∧ j ≤ C.length) (fun r => r = (C, x, (C.length : Int), (p : Int), ())) ?_ _ ⟨0, C.length, rfl, Nat.zero_le _, by omega, Nat.le_refl _⟩
  rintro y ⟨i, j, rfl, h3, h4, h5⟩
  by_cases h6 : i < j
  ·have e1 : (i : Int) + (j : Int) = ((i + j : Nat) : Int) := by omega
   have e2 : shrI .u64 ((i + j : Nat) : Int) 1 = (((i + j) >>> 1 : Nat) : Int) := shr_nat (n := 1) (by simp [IntKind.bits])
   have e3 : (i + j) >>> 1 = (i + j) / 2 := by rw [Nat.shiftRight_eq_div_pow]
   rw [e3] at e2
   by_cases h7 : C.getD ((i + j) / 2) 0 < x
   ·left
    have h8 : (i + j) / 2 < p := by
     rcases Nat.lt_or_ge ((i + j) / 2) p with h | h
     ·exact h
     ·have := above _ h (by omega); omega
    refine ⟨(C, x, (C.length : Int), (((i + j) / 2 + 1 : Nat) : Int), (j : Int), ()), ?_, ⟨_, j, rfl, by omega, h4, h5⟩, by simp only; omega⟩
    simp (disch := omega) only [g_slices_BinarySearch_Sint_int_r1, dT, wrap_i64, wrap_u64, e1, e2, wT, Int.toNat_natCast, cmp_Less_eq, Option.bind_some]
    rfl
   ·left
    have h8 : p ≤ (i + j) / 2 := by
     rcases Nat.lt_or_ge ((i + j) / 2) p with h | h
     ·have := below _ h; omega
     ·exact h
    refine ⟨(C, x, (C.length : Int), (i : Int), (((i + j) / 2 : Nat) : Int), ()), ?_, ⟨i, _, rfl, h3, h8, by omega⟩, by simp only; omega⟩
    simp (disch := omega) only [g_slices_BinarySearch_Sint_int_r1, dT, dF, wrap_i64, wrap_u64, e1, e2, wT, Int.toNat_natCast, cmp_Less_eq, Option.bind_some]
  ·right
   refine ⟨_, ?_, rfl⟩
   have : i = p := by omega
   subst this
   simp (disch := omega) only [g_slices_BinarySearch_Sint_int_r1, dF]
 obtain ⟨r, h3, rfl⟩ := loop
 by_cases hc : C.getD s 0 = x
 ·rw [if_pos hc]
  have hps : p = s := by rw [hp, if_pos hc]
  subst hps
  simp (disch := omega) only [g_slices_BinarySearch_Sint_int, h3, Option.bind_some, dT, wT, Int.toNat_natCast, eT]
 ·rw [if_neg hc]
  have hps : p = s + 1 := by rw [hp, if_neg hc]
  have hne : C.getD p 0 ≠ x := by rw [hps]; have := hs.2.2; omega
  rw [← hps]
  simp (disch := omega) only [g_slices_BinarySearch_Sint_int, h3, Option.bind_some, dT, wT, Int.toNat_natCast, eF, g_slices_isNaN_int, bne_self_eq_false, cond_false]
theorem freq_Find_eq {C : List Int} {x : Int} {s : Nat} (h : okF C) (hs : isSym C x s) : g_freq_Find C x = some ((s : Int), 0) := by
 have hl := h.2.1
 have hsm : small C := by unfold small; omega
 have hc := freq_Check_eq hsm
 rw [ckF_pos h] at hc
 have ht := last_eq (C := C) (by have := h.1; omega) (by omega)
 have htot := totS_pos h
 have hs1 := hs.1
 have h0 : 0 ≤ x := by
  have := okF_mono h (i := 0) (j := s) (by omega) (by omega)
  rw [h.2.2.1] at this
  have := hs.2.1; omega
 have h1 : x < C.getD (C.length - 1) 0 := by
  have := okF_mono h (i := s + 1) (j := C.length - 1) (by omega) (by have := h.1; omega)
  have := hs.2.2; omega
 have hb := BinarySearch_eq h hs
 split at hb
 ·simp (disch := omega) only [g_freq_Find, hc, nF, dF, ht, Option.bind_some, hb, Bool.not_true, cond_false]
 ·have e : ((s + 1 : Nat) : Int) - 1 = (s : Int) := by omega
  simp (disch := omega) only [g_freq_Find, hc, nF, dF, ht, Option.bind_some, hb, Bool.not_false, cond_true, wrap_i64, e]
end Go.Sq
namespace Go.Sq
open Go.Rx
theorem bn_false (k : Nat) : bn 0 k = List.replicate k false := by
 apply ext_getDb
 ·simp [bn_len]
 ·intro i hi
  rw [bn_len] at hi
  rw [bn_get, Nat.zero_testBit, Bool.and_false, List.getD_eq_getElem?_getD, List.getElem?_replicate, if_pos hi]; rfl
theorem bn_true (k : Nat) : bn (2 ^ k - 1) k = List.replicate k true := by
 apply ext_getDb
 ·simp [bn_len]
 ·intro i hi
  rw [bn_len] at hi
  have h : k - 1 - i < k := by omega
  rw [bn_get, Nat.testBit_two_pow_sub_one, List.getD_eq_getElem?_getD, List.getElem?_replicate, if_pos hi]
  simp [hi, h]
theorem bn_bool (b : Bool) : bn b.toNat 1 = [b] := by cases b <;> rfl
def outL (l : List Bool) (b : Bool) (n : Nat) : List Bool := l ++ b :: List.replicate n (!b)
theorem outL_len (l : List Bool) (b : Bool) (n : Nat) : (outL l b n).length = l.length + n + 1 := by simp [outL]; omega
noncomputable def outS (l : List Bool) (b : Bool) (n : Nat) : (List Int × Int) × Int :=
 if l.length + n + 1 > 65536 then (([], 0), 2) else ((pk (outL l b n), ((l.length + n + 1 : Nat) : Int)), 0)
theorem putS_one {l : List Bool} {b : Bool} : putS l b.toNat 1 = if l.length + 1 > 65536 then (([], 0), 2) else ((pk (l ++ [b]), ((l.length + 1 : Nat) : Int)), 0) := by
 unfold putS; rw [bn_bool]
theorem bool_lt (b : Bool) : b.toNat < 2 := by cases b <;> decide
theorem not_toNat (b : Bool) : (1 : Int) - ((b.toNat : Nat) : Int) = (((!b).toNat : Nat) : Int) := by cases b <;> rfl
theorem r04_out_eq {l : List Bool} {b : Bool} {n : Nat} (hl : l.length ≤ 65536) (hn : n < 2 ^ 40) : g_r04_out (pk l, l.length) b.toNat n = some (outS l b n) := by
 have hb := bool_lt b
 have hb2 := bool_lt (!b)
 have e0 := r01_Put_eq (l := l) (v := b.toNat) (w := 1) hl (by omega) (by omega)
 rw [putS_one] at e0
 have nb := not_toNat b
 unfold outS
 by_cases h0 : l.length + 1 > 65536
 ·rw [if_pos h0] at e0
  rw [if_pos (by omega)]
  have e0' : g_r01_Put (pk l, (l.length : Int)) ((b.toNat : Nat) : Int) 1 = some (([], 0), 2) := e0
  have : iter g_r04_out_r1 ((b.toNat : Int), (n : Int), 2, ([], 0), ([], 0), ()) = some (2, ([], 0), ([], 0), ()) := by
   apply iter_inr
   by_cases hz : 0 < n
   ·simp (disch := omega) only [g_r04_out_r1, dT, Option.bind_some]; rfl
   ·simp (disch := omega) only [g_r04_out_r1, dF, Option.bind_some, cond_false]
  simp only [g_r04_out, e0', Option.bind_some, this]
 ·rw [if_neg h0] at e0
  have e0' : g_r01_Put (pk l, (l.length : Int)) ((b.toNat : Nat) : Int) 1 = some ((pk (l ++ [b]), ((l.length + 1 : Nat) : Int)), 0) := e0
  have loop : ∃ r, iter g_r04_out_r1 ((b.toNat : Int), (n : Int), 0, (pk (l ++ [b]), ((l.length + 1 : Nat) : Int)), ([], 0), ()) = some r ∧
    r = (if l.length + n + 1 > 65536 then (2, ([], 0), ([], 0), ()) else (0, (pk (outL l b n), ((l.length + n + 1 : Nat) : Int)), ([], 0), ())) := by
   refine iter_ex (fun x => (x.2.1 + 1 - x.2.2.1).toNat) (fun x => (∃ (i : Nat) (m : List Bool), x = ((b.toNat : Int), (i : Int), 0, (pk m, (m.length : Int)), ([], 0), ()) ∧ m.length ≤ 65536 ∧ m ++ List.replicate i (!b) = outL l b n) ∨
     (∃ i : Int, x = ((b.toNat : Int), i, 2, ([], 0), ([], 0), ()) ∧ l.length + n + 1 > 65536))
    (fun r => r = (if l.length + n + 1 > 65536 then (2, ([], 0), ([], 0), ()) else (0, (pk (outL l b n), ((l.length + n + 1 : Nat) : Int)), ([], 0), ()))) ?_ _
    (.inl ⟨n, l ++ [b], by simp, by simp; omega, by simp [outL]⟩)
   rintro x (⟨i, m, rfl, h1, h2⟩ | ⟨i, rfl, h1⟩)
   ·have hlen : m.length + i = l.length + n + 1 := by have := congrArg List.length h2; rw [outL_len] at this; simpa using this
    rcases Nat.eq_zero_or_pos i with rfl | hi
    ·right
     refine ⟨_, ?_, rfl⟩
     have : m = outL l b n := by simpa using h2
     rw [if_neg (by omega), ← this, show ((l.length + n + 1 : Nat) : Int) = (m.length : Int) from by omega]
     simp (disch := omega) only [g_r04_out_r1, dF, Option.bind_some, cond_false]
    ·left
     have e1 := r01_Put_eq (l := m) (v := (!b).toNat) (w := 1) h1 (by omega) (by omega)
     rw [putS_one] at e1
     by_cases h3 : m.length + 1 > 65536
     ·rw [if_pos h3] at e1
      have e1' : g_r01_Put (pk m, (m.length : Int)) (((!b).toNat : Nat) : Int) 1 = some (([], 0), 2) := e1
      refine ⟨((b.toNat : Int), (i : Int) - 1, 2, ([], 0), ([], 0), ()), ?_, .inr ⟨_, rfl, by omega⟩, by simp only; omega⟩
      simp (disch := omega) only [g_r04_out_r1, dT, eT, Option.bind_some, nb, wrap_u64, wrap_i64, e1']
     ·rw [if_neg h3] at e1
      have e1' : g_r01_Put (pk m, (m.length : Int)) (((!b).toNat : Nat) : Int) 1 = some ((pk (m ++ [!b]), ((m.length + 1 : Nat) : Int)), 0) := e1
      refine ⟨((b.toNat : Int), ((i - 1 : Nat) : Int), 0, (pk (m ++ [!b]), ((m ++ [!b]).length : Int)), ([], 0), ()), ?_, .inl ⟨i - 1, m ++ [!b], rfl, by simp; omega, ?_⟩, by simp only; omega⟩
      ·simp (disch := omega) only [g_r04_out_r1, dT, eT, Option.bind_some, nb, wrap_u64, wrap_i64, e1']
       rw [show (i : Int) - 1 = ((i - 1 : Nat) : Int) from by omega]
       simp
      ·rw [← h2]
       obtain ⟨j, rfl⟩ : ∃ j, i = j + 1 := ⟨i - 1, by omega⟩
       simp [List.replicate_succ]
   ·right
    refine ⟨_, ?_, rfl⟩
    rw [if_pos h1]
    by_cases hi : 0 < i
    ·simp (disch := omega) only [g_r04_out_r1, dT, Option.bind_some]; rfl
    ·simp (disch := omega) only [g_r04_out_r1, dF, Option.bind_some, cond_false]
  obtain ⟨r, h1, h2⟩ := loop
  simp only [g_r04_out, e0', Option.bind_some, h1, h2]
  split <;> rfl
theorem emit_loop {b : Bool} {n : Nat} {l : List Bool} {x y wt : Int} (hn : l.length + n ≤ 65536) :
  iter g_coder_Put_r1 ((b.toNat : Int), (n : Int), ((x, y), (wt, ((pk l, (l.length : Int)), 0))), ()) = some ((b.toNat : Int), ((x, y), (wt, ((pk (l ++ List.replicate n (!b)), ((l.length + n : Nat) : Int)), 0))), ()) := by
 have hb := bool_lt b
 have hb2 := bool_lt (!b)
 have nb := not_toNat b
 have loop : ∃ r, iter g_coder_Put_r1 ((b.toNat : Int), (n : Int), ((x, y), (wt, ((pk l, (l.length : Int)), 0))), ()) = some r ∧ r = ((b.toNat : Int), ((x, y), (wt, ((pk (l ++ List.replicate n (!b)), ((l.length + n : Nat) : Int)), 0))), ()) := by
  refine iter_ex (fun s => s.2.1.toNat) (fun s => ∃ (i : Int) (m : List Bool), s = ((b.toNat : Int), i, ((x, y), (wt, ((pk m, (m.length : Int)), 0))), ()) ∧ i ≤ 65536 ∧ m ++ List.replicate i.toNat (!b) = l ++ List.replicate n (!b))
   (fun r => r = ((b.toNat : Int), ((x, y), (wt, ((pk (l ++ List.replicate n (!b)), ((l.length + n : Nat) : Int)), 0))), ())) ?_ _ ⟨n, l, rfl, by omega, by simp⟩
  rintro s ⟨i, m, rfl, h1, h2⟩
  have hlen : m.length + i.toNat = l.length + n := by have := congrArg List.length h2; simpa using this
  by_cases hi : 0 < i
  ·left
   obtain ⟨k, hk⟩ : ∃ k : Nat, (k : Int) = if 32 < i then 32 else i := ⟨(if 32 < i then 32 else i).toNat, by split <;> omega⟩
   have hk1 : 0 < k ∧ k ≤ 32 ∧ (k : Int) ≤ i ∧ (i - 32).toNat = i.toNat - k := by split at hk <;> omega
   have hpow : 2 ^ k ≤ 2 ^ 32 := Nat.pow_le_pow_right (by omega) (by omega)
   have hpos := Nat.two_pow_pos k
   have e2 := shl_one (k := k) (by omega)
   obtain ⟨v, hv⟩ : ∃ v : Nat, v = (!b).toNat * (2 ^ k - 1) := ⟨_, rfl⟩
   have hvlt : v < 2 ^ k := by
    rw [hv]
    cases b
    ·show 1 * (2 ^ k - 1) < 2 ^ k; omega
    ·show 0 * (2 ^ k - 1) < 2 ^ k; omega
   have hbn : bn v k = List.replicate k (!b) := by
    rw [hv]
    cases b
    ·simp [bn_true]
    ·simp [bn_false]
   have e3 : (((!b).toNat : Nat) : Int) * (((2 ^ k : Nat) : Int) - 1) = (v : Int) := by
    rw [hv, show ((2 ^ k : Nat) : Int) - 1 = ((2 ^ k - 1 : Nat) : Int) from by omega, Int.natCast_mul]
   have e4 := bits_Put_eq (l := m) (v := v) (w := k) (by omega) hvlt (by omega)
   unfold putS at e4
   rw [if_neg (by omega), hbn] at e4
   refine ⟨((b.toNat : Int), i - 32, ((x, y), (wt, ((pk (m ++ List.replicate k (!b)), ((m ++ List.replicate k (!b)).length : Int)), 0))), ()), ?_, ⟨i - 32, m ++ List.replicate k (!b), rfl, by omega, ?_⟩, by simp only; omega⟩
   ·generalize 2 ^ k = y4 at e2 e3 hpow hpos hvlt
    simp (disch := omega) only [g_coder_Put_r1, dT, eT, Option.bind_some, ← hk, nb, wrap_u64, wrap_i64, e2, e3, e4]
    simp
   ·rw [← h2, hk1.2.2.2, List.append_assoc, List.replicate_append_replicate]
    congr 2; omega
  ·right
   refine ⟨_, ?_, rfl⟩
   have h0 : i.toNat = 0 := by omega
   rw [h0] at h2
   have hm : m = l ++ List.replicate n (!b) := by simpa using h2
   rw [← hm, show ((l.length + n : Nat) : Int) = (m.length : Int) from by omega]
   simp (disch := omega) only [g_coder_Put_r1, dF, Option.bind_some, cond_false]
 obtain ⟨r, h1, h2⟩ := loop
 rw [h1, h2]
end Go.Sq
namespace Go.Sq
open Go.Rx
def widS : Nat → Int → Int → Nat → List Bool → Option (Int × Int × Nat × List Bool)
 | 0, _, _, _, _ => none
 | n + 1, lo, hi, w, l =>
  if hi < 2147483648 then (if l.length + w + 1 > 65536 then none else widS n (2 * lo) (2 * hi + 1) 0 (outL l false w))
  else if lo ≥ 2147483648 then (if l.length + w + 1 > 65536 then none else widS n (2 * (lo - 2147483648)) (2 * (hi - 2147483648) + 1) 0 (outL l true w))
  else if lo ≥ 1073741824 ∧ hi < 3221225472 then widS n (2 * (lo - 1073741824)) (2 * (hi - 1073741824) + 1) (w + 1) l
  else some (lo, hi, w, l)
def roomy (n : Nat) (lo hi : Int) : Prop := 0 ≤ lo ∧ lo ≤ hi ∧ hi < 4294967296 ∧ 4294967296 ≤ (hi - lo + 1) * 2 ^ n
theorem roomy_start {lo hi : Int} (h0 : 0 ≤ lo) (h1 : lo ≤ hi) (h2 : hi < 4294967296) : roomy 32 lo hi := ⟨h0, h1, h2, by
 have : (1 : Int) * 2 ^ 32 ≤ (hi - lo + 1) * 2 ^ 32 := Int.mul_le_mul_of_nonneg_right (by omega) (by decide)
 simpa using this⟩
theorem roomy_next {n : Nat} {lo hi lo' hi' : Int} (h : roomy (n + 1) lo hi) (hl : 0 ≤ lo') (hh : hi' < 4294967296) (hw : hi' - lo' + 1 = 2 * (hi - lo + 1)) : roomy n lo' hi' := by
 obtain ⟨h1, h2, h3, h4⟩ := h
 refine ⟨hl, by omega, hh, ?_⟩
 rw [hw]
 rw [Int.pow_succ] at h4
 have : (hi - lo + 1) * (2 ^ n * 2) = 2 * (hi - lo + 1) * 2 ^ n := by rw [Int.mul_comm (2 ^ n) 2, ← Int.mul_assoc, Int.mul_comm (hi - lo + 1) 2]
 omega
theorem roomy_zero {lo hi : Int} (h : roomy 0 lo hi) : lo = 0 ∧ hi = 4294967295 := by
 obtain ⟨h1, h2, h3, h4⟩ := h
 simp at h4
 omega
theorem move_eq {lo hi : Int} : g_coder_interval_move (lo, hi) = some (if hi < 2147483648 then (0, 0) else if lo ≥ 2147483648 then (2147483648, 1) else if lo ≥ 1073741824 ∧ hi < 3221225472 then (1073741824, 2) else (0, 3)) := by
 by_cases h1 : hi < 2147483648
 ·rw [if_pos h1]
  simp (disch := omega) only [g_coder_interval_move, dT]
 rw [if_neg h1]
 by_cases h2 : lo ≥ 2147483648
 ·rw [if_pos h2]
  simp (disch := omega) only [g_coder_interval_move, dT, dF]
 rw [if_neg h2]
 by_cases h3 : lo ≥ 1073741824 ∧ hi < 3221225472
 ·rw [if_pos h3]
  simp (disch := omega) only [g_coder_interval_move, dT, dF, Option.bind_some]
 ·rw [if_neg h3]
  by_cases h4 : lo ≥ 1073741824
  ·simp (disch := omega) only [g_coder_interval_move, dT, dF, Option.bind_some]
  ·simp (disch := omega) only [g_coder_interval_move, dF, Option.bind_some, cond_false]
theorem shl1 {x : Int} (h0 : 0 ≤ x) (h1 : x < 9223372036854775808) : shlI .u64 x 1 = 2 * x := by
 obtain ⟨n, rfl⟩ : ∃ n : Nat, x = n := ⟨x.toNat, by omega⟩
 have := shl_nat64 (a := n) (n := 1) (by omega)
 rw [show ((1 : Nat) : Int) = 1 from rfl] at this
 rw [this, Nat.shiftLeft_eq]
 omega
theorem or1 {x : Int} (h0 : 0 ≤ x) (h1 : x < 4611686018427387904) : bitsI .or .u64 (2 * x) 1 = 2 * x + 1 := by
 obtain ⟨n, rfl⟩ : ∃ n : Nat, x = n := ⟨x.toNat, by omega⟩
 have := or_nat64 (a := 2 * n) (b := 1) (by omega) (by omega)
 rw [show ((2 * n : Nat) : Int) = 2 * (n : Int) from by omega, show ((1 : Nat) : Int) = 1 from rfl] at this
 rw [this]
 have h : 2 * n ||| 1 = 2 * n + 1 := by
  apply Nat.eq_of_testBit_eq
  intro i
  rw [Nat.testBit_or]
  cases i with
  | zero => simp
  | succ i => simp [Nat.testBit_succ, show (2 * n + 1) / 2 = n from by omega]
 rw [h]; omega
theorem emits {R : Type} {b : Bool} {l : List Bool} {w : Nat} {x y wt : Int} (h : l.length + w + 1 ≤ 65536) (K : Int × ((Int × Int) × Int × (List Int × Int) × Int) × Unit → Option R) :
  ((g_bits_Put (pk l, (l.length : Int)) ((b.toNat : Nat) : Int) 1).bind fun y9 => (iter g_coder_Put_r1 (((b.toNat : Nat) : Int), (w : Int), ((x, y), (wt, ((y9.1.1, y9.1.2), y9.2))), ())).bind K) =
   K (((b.toNat : Nat) : Int), ((x, y), (wt, ((pk (outL l b w), ((l.length + w + 1 : Nat) : Int)), 0))), ()) := by
 have hb := bool_lt b
 have e1 := bits_Put_eq (l := l) (v := b.toNat) (w := 1) (by omega) (by omega) (by omega)
 rw [putS_one, if_neg (by omega)] at e1
 have e2 := emit_loop (b := b) (n := w) (l := l ++ [b]) (x := x) (y := y) (wt := wt) (by simp; omega)
 have e3 : l ++ [b] ++ List.replicate w (!b) = outL l b w := by simp [outL]
 have e4 : (l ++ [b]).length = l.length + 1 := by simp
 rw [e3, e4, show l.length + 1 + w = l.length + w + 1 from by omega] at e2
 have e1' : g_bits_Put (pk l, (l.length : Int)) ((b.toNat : Nat) : Int) 1 = some ((pk (l ++ [b]), ((l.length + 1 : Nat) : Int)), 0) := e1
 rw [e1', Option.bind_some, e2, Option.bind_some]
theorem emits0 {R : Type} {l : List Bool} {w : Nat} {x y wt : Int} (h : l.length + w + 1 ≤ 65536) (K : Int × ((Int × Int) × Int × (List Int × Int) × Int) × Unit → Option R) :
  ((g_bits_Put (pk l, (l.length : Int)) 0 1).bind fun y9 => (iter g_coder_Put_r1 (0, (w : Int), ((x, y), (wt, ((y9.1.1, y9.1.2), y9.2))), ())).bind K) =
   K (0, ((x, y), (wt, ((pk (outL l false w), ((l.length + w + 1 : Nat) : Int)), 0))), ()) := emits (b := false) h K
theorem emits1 {R : Type} {l : List Bool} {w : Nat} {x y wt : Int} (h : l.length + w + 1 ≤ 65536) (K : Int × ((Int × Int) × Int × (List Int × Int) × Int) × Unit → Option R) :
  ((g_bits_Put (pk l, (l.length : Int)) 1 1).bind fun y9 => (iter g_coder_Put_r1 (1, (w : Int), ((x, y), (wt, ((y9.1.1, y9.1.2), y9.2))), ())).bind K) =
   K (1, ((x, y), (wt, ((pk (outL l true w), ((l.length + w + 1 : Nat) : Int)), 0))), ()) := emits (b := true) h K
abbrev PutSt := (((Int × Int) × Int × (List Int × Int) × Int) × Unit)
theorem coder_widen {n : Nat} {lo hi : Int} {w : Nat} {l : List Bool} (hr : roomy n lo hi) (hl : l.length ≤ 65536) (hn : n ≤ 32) (hw : w ≤ 65600) :
    ∃ r, iter g_coder_Put_r2 (((lo, hi), ((w : Int), ((pk l, (l.length : Int)), 0))), ()) = some r ∧
      ((∃ s : (Int × Int) × Int × (List Int × Int) × Int, r = .inl (s, ()) ∧ s.2.2.2 = 2 ∧ widS (n + 1) lo hi w l = none) ∨
       ∃ (lo' hi' : Int) (w' : Nat) (l' : List Bool), r = .inr (((lo', hi'), ((w' : Int), ((pk l', ((l'.length : Nat) : Int)), 0))), ()) ∧ widS (n + 1) lo hi w l = some (lo', hi', w', l')) := by
  let W := widS (n + 1) lo hi w l
  refine iter_ex (fun x => if x.1.2.2.2 = 0 then (8589934592 - (x.1.1.2 - x.1.1.1)).toNat + 1 else 0)
    (fun x => (∃ (n : Nat) (lo hi : Int) (w : Nat) (l : List Bool), x = (((lo, hi), ((w : Int), ((pk l, (l.length : Int)), 0))), ()) ∧ roomy n lo hi ∧ l.length ≤ 65536 ∧ w + n ≤ 65632 ∧ widS (n + 1) lo hi w l = W) ∨
      (∃ s : (Int × Int) × Int × (List Int × Int) × Int, x = (s, ()) ∧ s.2.2.2 = 2 ∧ W = none))
    (fun r => (∃ s : (Int × Int) × Int × (List Int × Int) × Int, r = (.inl (s, ()) : PutSt ⊕ PutSt) ∧ s.2.2.2 = 2 ∧ W = none) ∨
       ∃ (lo' hi' : Int) (w' : Nat) (l' : List Bool), r = .inr (((lo', hi'), ((w' : Int), ((pk l', ((l'.length : Nat) : Int)), 0))), ()) ∧ W = some (lo', hi', w', l')) ?_ _ (.inl ⟨n, lo, hi, w, l, rfl, hr, hl, by omega, rfl⟩)
  rintro x (⟨n, lo, hi, w, l, rfl, hr, hl, hw, hW⟩ | ⟨⟨⟨a, b⟩, c, ⟨d, e⟩, f⟩, rfl, h1, h2⟩)
  · have hm := move_eq (lo := lo) (hi := hi)
    obtain ⟨r1, r2, r3, r4⟩ := hr
    have hr : roomy n lo hi := ⟨r1, r2, r3, r4⟩
    rw [widS] at hW
    by_cases h1 : hi < 2147483648
    · rw [if_pos h1] at hm hW
      left
      obtain ⟨k, rfl⟩ : ∃ k, n = k + 1 := by
        cases n with
        | zero => have := roomy_zero hr; omega
        | succ k => exact ⟨k, rfl⟩
      by_cases h4 : l.length + w + 1 > 65536
      · rw [if_pos h4] at hW
        refine ⟨(((2 * lo, 2 * hi + 1), ((w : Int), ((pk l, (l.length : Int)), 2))), ()), ?_, .inr ⟨_, rfl, rfl, hW.symm⟩, by simp⟩
        simp (disch := omega) only [g_coder_Put_r2, eT, eF, dT, hm, Option.bind_some, wrap_i64, wrap_u64, shl1, or1, Int.sub_zero]
      · rw [if_neg h4] at hW
        refine ⟨(((2 * lo, 2 * hi + 1), (((0 : Nat) : Int), ((pk (outL l false w), ((outL l false w).length : Int)), 0))), ()), ?_, .inl ⟨k, _, _, 0, _, rfl, roomy_next hr (by omega) (by omega) (by omega), by rw [outL_len]; omega, by omega, hW⟩, by simp; omega⟩
        simp (disch := omega) only [g_coder_Put_r2, eT, eF, dF, hm, Option.bind_some, wrap_i64, wrap_u64, shl1, or1, emits0, outL_len, Int.sub_zero]
        rfl
    rw [if_neg h1] at hm hW
    by_cases h2 : lo ≥ 2147483648
    · rw [if_pos h2] at hm hW
      left
      obtain ⟨k, rfl⟩ : ∃ k, n = k + 1 := by
        cases n with
        | zero => have := roomy_zero hr; omega
        | succ k => exact ⟨k, rfl⟩
      by_cases h4 : l.length + w + 1 > 65536
      · rw [if_pos h4] at hW
        refine ⟨(((2 * (lo - 2147483648), 2 * (hi - 2147483648) + 1), ((w : Int), ((pk l, (l.length : Int)), 2))), ()), ?_, .inr ⟨_, rfl, rfl, hW.symm⟩, by simp⟩
        simp (disch := omega) only [g_coder_Put_r2, eT, eF, dT, hm, Option.bind_some, wrap_i64, wrap_u64, shl1, or1, Int.sub_zero]
      · rw [if_neg h4] at hW
        refine ⟨(((2 * (lo - 2147483648), 2 * (hi - 2147483648) + 1), (((0 : Nat) : Int), ((pk (outL l true w), ((outL l true w).length : Int)), 0))), ()), ?_, .inl ⟨k, _, _, 0, _, rfl, roomy_next hr (by omega) (by omega) (by omega), by rw [outL_len]; omega, by omega, hW⟩, by simp; omega⟩
        simp (disch := omega) only [g_coder_Put_r2, eT, eF, dF, hm, Option.bind_some, wrap_i64, wrap_u64, shl1, or1, emits1, outL_len, Int.sub_zero]
        rfl
    rw [if_neg h2] at hm hW
    by_cases h3 : lo ≥ 1073741824 ∧ hi < 3221225472
    · rw [if_pos h3] at hm hW
      left
      obtain ⟨k, rfl⟩ : ∃ k, n = k + 1 := by
        cases n with
        | zero => have := roomy_zero hr; omega
        | succ k => exact ⟨k, rfl⟩
      refine ⟨(((2 * (lo - 1073741824), 2 * (hi - 1073741824) + 1), (((w + 1 : Nat) : Int), ((pk l, (l.length : Int)), 0))), ()), ?_, .inl ⟨k, _, _, w + 1, _, rfl, roomy_next hr (by omega) (by omega) (by omega), hl, by omega, hW⟩, by simp; omega⟩
      simp (disch := omega) only [g_coder_Put_r2, eT, eF, dF, hm, Option.bind_some, wrap_i64, wrap_u64, shl1, or1]
      rfl
    · rw [if_neg h3] at hm hW
      right
      refine ⟨_, ?_, .inr ⟨lo, hi, w, l, rfl, hW.symm⟩⟩
      simp (disch := omega) only [g_coder_Put_r2, eT, hm, Option.bind_some]
  · right
    refine ⟨.inl (((a, b), c, (d, e), f), ()), ?_, .inl ⟨_, rfl, h1, h2⟩⟩
    have h1 : f = 2 := h1
    subst h1
    simp (disch := omega) only [g_coder_Put_r2, eF]
end Go.Sq
namespace Go.Sq
open Go.Rx
noncomputable def doneS (W : Option (Int × Int × Nat × List Bool)) : Int × (Int × Int × Int × List Int × Int) × Unit :=
 match W with
 | none => (2, (0, (0, (0, ([], 0)))), ())
 | some (lo, hi, w, l) => if w > 65536 then (2, (0, (0, (0, ([], 0)))), ()) else (0, (IntKind.u32.wrap lo, (IntKind.u32.wrap hi, ((w : Int), (pk l, (l.length : Int))))), ())
theorem out_eq0 {l : List Bool} {w : Nat} (hl : l.length ≤ 65536) (hw : w < 2 ^ 40) : g_r04_out (pk l, (l.length : Int)) 0 (w : Int) = some (outS l false w) := r04_out_eq (b := false) hl hw
theorem out_eq1 {l : List Bool} {w : Nat} (hl : l.length ≤ 65536) (hw : w < 2 ^ 40) : g_r04_out (pk l, (l.length : Int)) 1 (w : Int) = some (outS l true w) := r04_out_eq (b := true) hl hw
theorem r04_widen {n : Nat} {lo hi : Int} {w : Nat} {l : List Bool} (hr : roomy n lo hi) (hl : l.length ≤ 65536) (hn : n ≤ 32) (hw : w ≤ 65600) :
  iter g_r04_Put_r1 (lo, hi, (0, (0, (0, ([], 0)))), (0, (0, ((w : Int), (pk l, (l.length : Int))))), ()) = some (doneS (widS (n + 1) lo hi w l)) := by
 let W := widS (n + 1) lo hi w l
 have loop : ∃ r, iter g_r04_Put_r1 (lo, hi, (0, (0, (0, ([], 0)))), (0, (0, ((w : Int), (pk l, (l.length : Int))))), ()) = some r ∧ r = doneS W := by
  refine iter_ex (fun x => (8589934592 - (x.2.1 - x.1)).toNat)
   (fun x => ∃ (n : Nat) (lo hi : Int) (w : Nat) (l : List Bool), x = (lo, hi, (0, (0, (0, ([], 0)))), (0, (0, ((w : Int), (pk l, (l.length : Int))))), ()) ∧ roomy n lo hi ∧ l.length ≤ 65536 ∧ w + n ≤ 65632 ∧ widS (n + 1) lo hi w l = W)
   (fun r => r = doneS W) ?_ _ ⟨n, lo, hi, w, l, rfl, hr, hl, by omega, rfl⟩
  rintro x ⟨n, lo, hi, w, l, rfl, hr, hl, hw, hW⟩
  obtain ⟨r1, r2, r3, r4⟩ := hr
  have hr : roomy n lo hi := ⟨r1, r2, r3, r4⟩
  rw [widS] at hW
  by_cases h1 : hi < 2147483648
  ·rw [if_pos h1] at hW
   obtain ⟨k, rfl⟩ : ∃ k, n = k + 1 := by
    cases n with
    | zero => have := roomy_zero hr; omega
    | succ k => exact ⟨k, rfl⟩
   have e := out_eq0 (l := l) (w := w) hl (by omega)
   unfold outS at e
   by_cases h4 : l.length + w + 1 > 65536
   ·rw [if_pos h4] at hW e
    right
    refine ⟨_, ?_, rfl⟩
    rw [← hW]
    simp (disch := omega) only [g_r04_Put_r1, dT, nT, Option.bind_some, e, doneS]
   ·rw [if_neg h4] at hW e
    left
    refine ⟨(2 * lo, 2 * hi + 1, (0, (0, (0, ([], 0)))), (0, (0, (((0 : Nat) : Int), (pk (outL l false w), ((outL l false w).length : Int))))), ()), ?_, ⟨k, _, _, 0, _, rfl, roomy_next hr (by omega) (by omega) (by omega), by rw [outL_len]; omega, by omega, hW⟩, by simp; omega⟩
    simp (disch := omega) only [g_r04_Put_r1, dT, nF, Option.bind_some, e, wrap_u64, Int.sub_zero, outL_len]
    rfl
  rw [if_neg h1] at hW
  by_cases h2 : lo ≥ 2147483648
  ·rw [if_pos h2] at hW
   obtain ⟨k, rfl⟩ : ∃ k, n = k + 1 := by
    cases n with
    | zero => have := roomy_zero hr; omega
    | succ k => exact ⟨k, rfl⟩
   have e := out_eq1 (l := l) (w := w) hl (by omega)
   unfold outS at e
   by_cases h4 : l.length + w + 1 > 65536
   ·rw [if_pos h4] at hW e
    right
    refine ⟨_, ?_, rfl⟩
    rw [← hW]
    simp (disch := omega) only [g_r04_Put_r1, dT, dF, nT, Option.bind_some, e, doneS]
   ·rw [if_neg h4] at hW e
    left
    refine ⟨(2 * (lo - 2147483648), 2 * (hi - 2147483648) + 1, (0, (0, (0, ([], 0)))), (0, (0, (((0 : Nat) : Int), (pk (outL l true w), ((outL l true w).length : Int))))), ()), ?_, ⟨k, _, _, 0, _, rfl, roomy_next hr (by omega) (by omega) (by omega), by rw [outL_len]; omega, by omega, hW⟩, by simp; omega⟩
    simp (disch := omega) only [g_r04_Put_r1, dT, dF, nF, Option.bind_some, e, wrap_u64, Int.sub_zero, outL_len]
    rfl
  rw [if_neg h2] at hW
  by_cases h3 : lo ≥ 1073741824 ∧ hi < 3221225472
  ·rw [if_pos h3] at hW
   obtain ⟨k, rfl⟩ : ∃ k, n = k + 1 := by
    cases n with
    | zero => have := roomy_zero hr; omega
    | succ k => exact ⟨k, rfl⟩
   left
   refine ⟨(2 * (lo - 1073741824), 2 * (hi - 1073741824) + 1, (0, (0, (0, ([], 0)))), (0, (0, (((w + 1 : Nat) : Int), (pk l, (l.length : Int))))), ()), ?_, ⟨k, _, _, w + 1, _, rfl, roomy_next hr (by omega) (by omega) (by omega), hl, by omega, hW⟩, by simp; omega⟩
   simp (disch := omega) only [g_r04_Put_r1, dT, dF, Option.bind_some, wrap_u64, wrap_i64]
   rfl
  ·rw [if_neg h3] at hW
   right
   refine ⟨_, ?_, rfl⟩
   rw [← hW]
   unfold doneS
   by_cases h5 : lo ≥ 1073741824
   ·by_cases h6 : w > 65536
    ·simp (disch := omega) only [g_r04_Put_r1, dT, dF, Option.bind_some, if_pos h6]
    ·simp (disch := omega) only [g_r04_Put_r1, dT, dF, Option.bind_some, if_neg h6]
   ·by_cases h6 : w > 65536
    ·simp (disch := omega) only [g_r04_Put_r1, dT, dF, Option.bind_some, cond_false, if_pos h6]
    ·simp (disch := omega) only [g_r04_Put_r1, dT, dF, Option.bind_some, cond_false, if_neg h6]
 obtain ⟨r, h1, rfl⟩ := loop
 exact h1
end Go.Sq
namespace Go.Sq
open Go.Rx
def goodP (lo hi : Int) : Prop := lo < hi ∧ 2147483648 ≤ hi ∧ lo < 2147483648 ∧ ¬ (1073741824 ≤ lo ∧ hi < 3221225472)
instance (lo hi : Int) : Decidable (goodP lo hi) := inferInstanceAs (Decidable (_ ∧ _ ∧ _ ∧ _))
theorem good_eq {lo hi : Int} : g_coder_interval_good (lo, hi) = some (decide (goodP lo hi)) := by
 have hm := move_eq (lo := lo) (hi := hi)
 by_cases h0 : lo < hi
 ·split at hm
  ·simp (disch := omega) only [g_coder_interval_good, hm, dT, Option.bind_some]
   rw [decide_eq_false (show ¬ goodP lo hi by unfold goodP; omega)]; rfl
  ·split at hm
   ·simp (disch := omega) only [g_coder_interval_good, hm, dT, Option.bind_some]
    rw [decide_eq_false (show ¬ goodP lo hi by unfold goodP; omega)]; rfl
   ·split at hm
    ·simp (disch := omega) only [g_coder_interval_good, hm, dT, Option.bind_some]
     rw [decide_eq_false (show ¬ goodP lo hi by unfold goodP; omega)]; rfl
    ·simp (disch := omega) only [g_coder_interval_good, hm, dT, Option.bind_some]
     rw [decide_eq_true (show goodP lo hi by unfold goodP; omega)]; rfl
 ·rw [decide_eq_false (show ¬ goodP lo hi by unfold goodP; omega)]
  simp (disch := omega) only [g_coder_interval_good, hm, dF, Option.bind_some]
theorem wide_eq {lo hi : Int} (hh : hi < 4294967296) : g_r04_wide lo hi = some (decide (goodP lo hi)) := by
 by_cases h0 : lo < hi
 ·by_cases h1 : 2147483648 ≤ hi
  ·by_cases h2 : lo < 2147483648
   ·by_cases h3 : 1073741824 ≤ lo
    ·by_cases h4 : hi < 3221225472
     ·rw [decide_eq_false (show ¬ goodP lo hi by unfold goodP; omega)]
      simp (disch := omega) only [g_r04_wide, dT, dF, Option.bind_some, h4, decide_true, Bool.not_true]
     ·rw [decide_eq_true (show goodP lo hi by unfold goodP; omega)]
      simp (disch := omega) only [g_r04_wide, dT, dF, Option.bind_some, h4, decide_false, Bool.not_false]
    ·rw [decide_eq_true (show goodP lo hi by unfold goodP; omega)]
     simp (disch := omega) only [g_r04_wide, dT, dF, Option.bind_some]
   ·rw [decide_eq_false (show ¬ goodP lo hi by unfold goodP; omega)]
    simp (disch := omega) only [g_r04_wide, dT, dF, Option.bind_some]
  ·rw [decide_eq_false (show ¬ goodP lo hi by unfold goodP; omega)]
   simp (disch := omega) only [g_r04_wide, dF, Option.bind_some]
 ·rw [decide_eq_false (show ¬ goodP lo hi by unfold goodP; omega)]
  simp (disch := omega) only [g_r04_wide, dT, Option.bind_some, cond_true]
abbrev EncT := Int × Int × Int × List Int × Int
def okE (e : EncT) : Prop := goodP e.1 e.2.1 ∧ 0 ≤ e.2.2.1 ∧ e.2.2.1 ≤ 65536 ∧ okB e.2.2.2.1 e.2.2.2.2
def wfE (e : EncT) : Prop := (0 ≤ e.1 ∧ e.1 < 4294967296) ∧ (0 ≤ e.2.1 ∧ e.2.1 < 4294967296) ∧ bytes e.2.2.2.1 ∧ small e.2.2.2.1
open Classical in
theorem CheckEnc_eq {e : EncT} (h : wfE e) : g_r04_CheckEnc e = some (decide (okE e)) := by
 obtain ⟨lo, hi, w, B, N⟩ := e
 obtain ⟨h1, h2, h3, h4⟩ := h
 have h1 : 0 ≤ lo ∧ lo < 4294967296 := h1
 have h2 : 0 ≤ hi ∧ hi < 4294967296 := h2
 have hw := wide_eq (lo := lo) (hi := hi) (by omega)
 have hc := r01_Check_eq (N := N) h3 h4
 have e1 := wrap_u64 (n := lo) (by omega) (by omega)
 have e2 := wrap_u64 (n := hi) (by omega) (by omega)
 by_cases g : goodP lo hi
 ·rw [decide_eq_true g] at hw
  by_cases g1 : 0 ≤ w
  ·by_cases g2 : w ≤ 65536
   ·simp (disch := omega) only [g_r04_CheckEnc, e1, e2, hw, hc, Option.bind_some, dT, cond_true]
    by_cases g3 : okB B N
    ·rw [decide_eq_true (show okE (lo, hi, w, B, N) from ⟨g, g1, g2, g3⟩)]
     unfold ck; rw [if_pos g3]; rfl
    ·rw [decide_eq_false (show ¬ okE (lo, hi, w, B, N) from fun h => g3 h.2.2.2)]
     unfold ck; rw [if_neg g3]; rfl
   ·rw [decide_eq_false (show ¬ okE (lo, hi, w, B, N) from fun h => g2 h.2.2.1)]
    simp (disch := omega) only [g_r04_CheckEnc, e1, e2, hw, Option.bind_some, dT, dF, cond_true]
  ·rw [decide_eq_false (show ¬ okE (lo, hi, w, B, N) from fun h => g1 h.2.1)]
   simp (disch := omega) only [g_r04_CheckEnc, e1, e2, hw, Option.bind_some, dF, cond_true]
 ·rw [decide_eq_false g] at hw
  rw [decide_eq_false (show ¬ okE (lo, hi, w, B, N) from fun h => g h.1)]
  simp (disch := omega) only [g_r04_CheckEnc, e1, e2, hw, Option.bind_some, cond_false]
theorem CheckEnc_t {e : EncT} (h : wfE e) (ho : okE e) : g_r04_CheckEnc e = some true := by
 have := CheckEnc_eq h
 simpa [ho] using this
theorem CheckEnc_f {e : EncT} (h : wfE e) (ho : ¬ okE e) : g_r04_CheckEnc e = some false := by
 have := CheckEnc_eq h
 simpa [ho] using this
def narL (lo hi a t : Int) : Int := lo + (hi - lo + 1) * a / t
def narH (lo hi b t : Int) : Int := lo + (hi - lo + 1) * b / t - 1
theorem nar_facts {r a b t : Int} (hr : t ≤ r) (hr2 : r ≤ 4294967296) (ha : 0 ≤ a) (hab : a < b) (hb : b ≤ t) (ht : 1 ≤ t) (ht2 : t ≤ 16384) :
  0 ≤ r * a ∧ r * a ≤ 70368744177664 ∧ 0 ≤ r * b ∧ r * b ≤ 70368744177664 ∧ 0 ≤ r * a / t ∧ r * a / t + 1 ≤ r * b / t ∧ r * b / t ≤ r := by
 have h1 : 0 ≤ r * a := Int.mul_nonneg (by omega) ha
 have h2 : r * b ≤ r * t := Int.mul_le_mul_of_nonneg_left hb (by omega)
 have h3 : r * (a + 1) ≤ r * b := Int.mul_le_mul_of_nonneg_left (by omega) (by omega)
 have h4 : r * t ≤ 4294967296 * 16384 := Int.mul_le_mul hr2 ht2 (by omega) (by omega)
 rw [Int.mul_add, Int.mul_one] at h3
 have h5 : r * a / t + 1 = (r * a + t) / t := by rw [Int.add_ediv_of_dvd_right (Int.dvd_refl t), Int.ediv_self (by omega)]
 have h6 : (r * a + t) / t ≤ r * b / t := Int.ediv_le_ediv (by omega) (by omega)
 have h7 : r * b / t ≤ r * t / t := Int.ediv_le_ediv (by omega) h2
 rw [Int.mul_ediv_cancel _ (by omega)] at h7
 exact ⟨h1, by omega, by omega, by omega, Int.ediv_nonneg h1 (by omega), by omega, h7⟩
theorem good_wide {lo hi : Int} (h : goodP lo hi) : 1073741824 ≤ hi - lo + 1 := by unfold goodP at h; omega
theorem span_ok {C : List Int} {s : Int} (h : okF C) (h0 : 0 ≤ s) (h1 : s + 2 ≤ C.length) : 0 ≤ C.getD s.toNat 0 ∧ C.getD s.toNat 0 < C.getD (s.toNat + 1) 0 ∧ C.getD (s.toNat + 1) 0 ≤ totS C := by
 have h2 := okF_mono h (i := 0) (j := s.toNat) (by omega) (by omega)
 rw [h.2.2.1] at h2
 have h3 := h.2.2.2.2 s.toNat (by omega)
 have h4 := okF_mono h (i := s.toNat + 1) (j := C.length - 1) (by omega) (by omega)
 rw [(totS_pos h).1]
 exact ⟨h2, h3, h4⟩
end Go.Sq
namespace Go.Sq
open Go.Rx
def okSpan (C : List Int) (s : Int) : Prop := okF C ∧ 0 ≤ s ∧ s + 2 ≤ C.length
noncomputable def flip3 (r : Int × EncT × Unit) : EncT × Int := (r.2.1, r.1)
noncomputable def putR (lo hi : Int) (w : Nat) (l : List Bool) (C : List Int) (s : Int) : EncT × Int :=
 flip3 (doneS (widS 33 (narL lo hi (C.getD s.toNat 0) (totS C)) (narH lo hi (C.getD (s.toNat + 1) 0) (totS C)) w l))
theorem clone_eq {l : List Int} (h : l.length ≤ 140737488355328) : g_slices_Clone_Sbyte_byte l = some l := by
 simp only [g_slices_Clone_Sbyte_byte, List.nil_append]
 rw [rT (by omega)]
theorem owned_eq {l : List Bool} (h : l.length ≤ 65536) : g_coder_owned (pk l, (l.length : Int)) = some (pk l, (l.length : Int)) := by
 have hpl := pk_len l
 simp only [g_coder_owned, clone_eq (l := pk l) (by omega), Option.bind_some]
theorem Copy_eq {l : List Bool} (h : l.length ≤ 65536) : g_r01_Copy (pk l, (l.length : Int)) = some (pk l, (l.length : Int)) := by
 have hpl := pk_len l
 simp (disch := omega) only [g_r01_Copy, rT]
theorem widS_len : ∀ {n : Nat} {lo hi : Int} {w : Nat} {l : List Bool} {lo' hi' : Int} {w' : Nat} {l' : List Bool}, l.length ≤ 65536 → widS n lo hi w l = some (lo', hi', w', l') → l'.length ≤ 65536 ∧ w' ≤ w + n
 | 0, _, _, _, _, _, _, _, _, _, h => nomatch h
 | n + 1, lo, hi, w, l, lo', hi', w', l', hl, h => by
  rw [widS] at h
  split at h
  ·split at h
   ·cases h
   ·have := widS_len (by rw [outL_len]; omega) h; omega
  ·split at h
   ·split at h
    ·cases h
    ·have := widS_len (by rw [outL_len]; omega) h; omega
   ·split at h
    ·have := widS_len hl h; omega
    ·cases h; omega
theorem coder_Put_ok {lo hi : Int} {w : Nat} {l : List Bool} {C : List Int} {s : Int} (hlo : 0 ≤ lo) (hhi : hi < 4294967296) (hg : goodP lo hi) (hw : w ≤ 65536) (hl : l.length ≤ 65536) (hs : okSpan C s) :
  g_coder_Put (lo, (hi, ((w : Int), (pk l, (l.length : Int))))) C s = some (putR lo hi w l C s) := by
 obtain ⟨hF, h0, h1⟩ := hs
 have hF2 := hF.2.1
 have hsm : small C := by unfold small; omega
 have hgl := hg.1
 have e1 := wrap_u64 (n := lo) (by omega) (by omega)
 have e2 := wrap_u64 (n := hi) (by omega) (by omega)
 have hgd := good_eq (lo := lo) (hi := hi)
 rw [decide_eq_true hg] at hgd
 have hc := bits_Check_eq (N := l.length) (pk_bytes l) (small_pk hl)
 rw [ck_pk hl] at hc
 have hsp := freq_Span_eq (s := s) hsm (by omega)
 unfold spanS at hsp
 rw [if_pos ⟨hF, h0, h1⟩] at hsp
 have ht := freq_Total_eq hsm
 obtain ⟨_, ht1, ht2⟩ := totS_pos hF
 obtain ⟨a0, a1, a2⟩ := span_ok hF h0 h1
 have hgw := good_wide hg
 unfold putR
 generalize C.getD s.toNat 0 = a at hsp a0 a1 ⊢
 generalize C.getD (s.toNat + 1) 0 = b at hsp a1 a2 ⊢
 generalize totS C = t at ht ht1 ht2 a2 ⊢
 obtain ⟨f1, f2, f3, f4, f5, f6, f7⟩ := nar_facts (r := hi - lo + 1) (a := a) (b := b) (t := t) (by omega) (by omega) a0 a1 a2 ht1 ht2
 have d1 : ((hi - lo + 1) * a).tdiv t = (hi - lo + 1) * a / t := Int.tdiv_eq_ediv_of_nonneg f1
 have d2 : ((hi - lo + 1) * b).tdiv t = (hi - lo + 1) * b / t := Int.tdiv_eq_ediv_of_nonneg f3
 have hL : narL lo hi a t = lo + (hi - lo + 1) * a / t := rfl
 have hH : narH lo hi b t = lo + (hi - lo + 1) * b / t - 1 := rfl
 rw [hL, hH]
 generalize (hi - lo + 1) * a / t = qa at *
 generalize (hi - lo + 1) * b / t = qb at *
 obtain ⟨r, hit, hr⟩ := coder_widen (n := 32) (lo := lo + qa) (hi := lo + qb - 1) (w := w) (l := l) (roomy_start (by omega) (by omega) (by omega)) hl (by omega) (by omega)
 have eg : ∀ {α : Type} (x y : α), (bif (!((0 : Int) == 0)) then x else y) = y := fun x y => rfl
 have e0 : (0 : Int) ≤ (w : Int) := by omega
 rcases hr with ⟨⟨⟨x1, x2⟩, x3, ⟨x4, x5⟩, x6⟩, rfl, hx, hW⟩ | ⟨lo', hi', w', l', rfl, hW⟩
 ·have hx : x6 = 2 := hx
  subst hx
  rw [hW]
  simp (disch := omega) only [g_coder_Put, e1, e2, hgd, hc, hsp, ht, cond_true, dT, Option.bind_some, eg, nF, nT, wrap_u64, d1, d2, hit, eF, cond_false, doneS, flip3]
 ·have hlen := widS_len hl hW
  rw [hW]
  by_cases h5 : w' > 65536
  ·simp (disch := omega) only [g_coder_Put, e1, e2, hgd, hc, hsp, ht, cond_true, dT, Option.bind_some, eg, nF, nT, wrap_u64, d1, d2, hit, eT, cond_false, doneS, flip3, if_pos h5]
  ·simp (disch := omega) only [g_coder_Put, e1, e2, hgd, hc, hsp, ht, cond_true, dT, dF, Option.bind_some, eg, nF, nT, wrap_u64, d1, d2, hit, eT, cond_false, doneS, flip3, if_neg h5, owned_eq hlen.1]
theorem r04_Put_ok {lo hi : Int} {w : Nat} {l : List Bool} {C : List Int} {s : Int} (hlo : 0 ≤ lo) (hhi : hi < 4294967296) (hg : goodP lo hi) (hw : w ≤ 65536) (hl : l.length ≤ 65536) (hs : okSpan C s) :
  g_r04_Put (lo, (hi, ((w : Int), (pk l, (l.length : Int))))) C s = some (putR lo hi w l C s) := by
 obtain ⟨hF, h0, h1⟩ := hs
 have hF2 := hF.2.1
 have hsm : small C := by unfold small; omega
 have hgl := hg.1
 have e1 := wrap_u64 (n := lo) (by omega) (by omega)
 have e2 := wrap_u64 (n := hi) (by omega) (by omega)
 have hce := CheckEnc_t (e := (lo, (hi, ((w : Int), (pk l, (l.length : Int)))))) ⟨by simp only; omega, by simp only; omega, pk_bytes l, small_pk hl⟩ ⟨hg, by simp only; omega, by simp only; omega, (okB_iff (pk_bytes l)).2 ⟨l, rfl, rfl, hl⟩⟩
 have hsp := r03_Span_eq (s := s) hsm (by omega)
 unfold spanS at hsp
 rw [if_pos ⟨hF, h0, h1⟩] at hsp
 have ht := r03_Total_eq hsm
 obtain ⟨_, ht1, ht2⟩ := totS_pos hF
 obtain ⟨a0, a1, a2⟩ := span_ok hF h0 h1
 have hgw := good_wide hg
 unfold putR
 generalize C.getD s.toNat 0 = a at hsp a0 a1 ⊢
 generalize C.getD (s.toNat + 1) 0 = b at hsp a1 a2 ⊢
 generalize totS C = t at ht ht1 ht2 a2 ⊢
 obtain ⟨f1, f2, f3, f4, f5, f6, f7⟩ := nar_facts (r := hi - lo + 1) (a := a) (b := b) (t := t) (by omega) (by omega) a0 a1 a2 ht1 ht2
 have d1 : ((hi - lo + 1) * a).tdiv t = (hi - lo + 1) * a / t := Int.tdiv_eq_ediv_of_nonneg f1
 have d2 : ((hi - lo + 1) * b).tdiv t = (hi - lo + 1) * b / t := Int.tdiv_eq_ediv_of_nonneg f3
 have hL : narL lo hi a t = lo + (hi - lo + 1) * a / t := rfl
 have hH : narH lo hi b t = lo + (hi - lo + 1) * b / t - 1 := rfl
 rw [hL, hH]
 generalize (hi - lo + 1) * a / t = qa at *
 generalize (hi - lo + 1) * b / t = qb at *
 have hit := r04_widen (n := 32) (lo := lo + qa) (hi := lo + qb - 1) (w := w) (l := l) (roomy_start (by omega) (by omega) (by omega)) hl (by omega) (by omega)
 simp (disch := omega) only [g_r04_Put, g_r04_narrow, e1, e2, hce, hsp, ht, Bool.not_true, cond_false, Option.bind_some, nF, nT, wrap_u64, d1, d2, Copy_eq hl, hit, flip3]
theorem coder_Put_bad {e : EncT} {C : List Int} {s : Int} (he : wfE e) (hC : small C) (hs : s < 2 ^ 63) (h : ¬ (okE e ∧ okSpan C s)) : g_coder_Put e C s = some ((0, (0, (0, ([], 0)))), 1) := by
 obtain ⟨lo, hi, w, B, N⟩ := e
 obtain ⟨h1, h2, h3, h4⟩ := he
 have h1 : 0 ≤ lo ∧ lo < 4294967296 := h1
 have h2 : 0 ≤ hi ∧ hi < 4294967296 := h2
 have e1 := wrap_u64 (n := lo) (by omega) (by omega)
 have e2 := wrap_u64 (n := hi) (by omega) (by omega)
 have hgd := good_eq (lo := lo) (hi := hi)
 have h3 : bytes B := h3
 have h4 : small B := h4
 have hc := bits_Check_eq (N := N) h3 h4
 have hsp := freq_Span_eq hC hs
 unfold spanS at hsp
 have eg : ∀ {α : Type} (x y : α), (bif (!((1 : Int) == 0)) then x else y) = x := fun x y => rfl
 have eg0 : ∀ {α : Type} (x y : α), (bif (!((0 : Int) == 0)) then x else y) = y := fun x y => rfl
 by_cases g : goodP lo hi
 ·rw [decide_eq_true g] at hgd
  by_cases g1 : 0 ≤ w
  ·by_cases g2 : w ≤ 65536
   ·unfold ck at hc
    by_cases g3 : okB B N
    ·rw [if_pos g3] at hc
     rw [if_neg (show ¬ (okF C ∧ 0 ≤ s ∧ s + 2 ≤ C.length) from fun hh => h ⟨⟨g, g1, g2, g3⟩, hh⟩)] at hsp
     simp (disch := omega) only [g_coder_Put, e1, e2, hgd, hc, hsp, cond_true, dT, Option.bind_some, eg0, nT]
    ·rw [if_neg g3] at hc
     simp (disch := omega) only [g_coder_Put, e1, e2, hgd, hc, hsp, cond_true, dT, Option.bind_some, eg]
   ·simp (disch := omega) only [g_coder_Put, e1, e2, hgd, hsp, cond_true, dT, dF, Option.bind_some, Bool.not_false]
  ·simp (disch := omega) only [g_coder_Put, e1, e2, hgd, hsp, cond_true, dF, Option.bind_some, Bool.not_false]
 ·rw [decide_eq_false g] at hgd
  simp (disch := omega) only [g_coder_Put, e1, e2, hgd, hsp, cond_true, cond_false, Option.bind_some, Bool.not_false]
theorem r04_Put_bad {e : EncT} {C : List Int} {s : Int} (he : wfE e) (hC : small C) (hs : s < 2 ^ 63) (h : ¬ (okE e ∧ okSpan C s)) : g_r04_Put e C s = some ((0, (0, (0, ([], 0)))), 1) := by
 have hsp := r03_Span_eq hC hs
 unfold spanS at hsp
 by_cases g : okE e
 ·have hce := CheckEnc_t he g
  rw [if_neg (show ¬ (okF C ∧ 0 ≤ s ∧ s + 2 ≤ C.length) from fun hh => h ⟨g, hh⟩)] at hsp
  simp (disch := omega) only [g_r04_Put, hce, hsp, cond_true, cond_false, Bool.not_true, Option.bind_some, nT]
 ·have hce := CheckEnc_f he g
  simp (disch := omega) only [g_r04_Put, hce, hsp, cond_true, Bool.not_false, Option.bind_some]
theorem Put_same {e : EncT} {C : List Int} {s : Int} (he : wfE e) (hC : small C) (hs : s < 2 ^ 63) : ∃ r, g_coder_Put e C s = some r ∧ g_r04_Put e C s = some r ∧
  ((r = ((0, (0, (0, ([], 0)))), 1) ∧ ¬ (okE e ∧ okSpan C s)) ∨ ∃ (lo hi : Int) (w : Nat) (l : List Bool), e = (lo, (hi, ((w : Int), (pk l, (l.length : Int))))) ∧ okE e ∧ okSpan C s ∧ w ≤ 65536 ∧ l.length ≤ 65536 ∧ r = putR lo hi w l C s) := by
 by_cases h : okE e ∧ okSpan C s
 ·obtain ⟨lo, hi, w, B, N⟩ := e
  obtain ⟨⟨g1, g2, g3, g4⟩, h2⟩ := h
  have g2 : 0 ≤ w := g2
  have g3 : w ≤ 65536 := g3
  obtain ⟨l, hB, hN, hl⟩ := (okB_iff he.2.2.1).1 g4
  have hB : B = pk l := hB
  have hN : N = l.length := hN
  subst hB; subst hN
  obtain ⟨n, rfl⟩ : ∃ n : Nat, w = n := ⟨w.toNat, by omega⟩
  have a1 : 0 ≤ lo := he.1.1
  have a2 : hi < 4294967296 := he.2.1.2
  exact ⟨_, coder_Put_ok a1 a2 g1 (by omega) hl h2, r04_Put_ok a1 a2 g1 (by omega) hl h2, .inr ⟨lo, hi, n, l, rfl, ⟨g1, g2, g3, g4⟩, h2, by omega, hl, rfl⟩⟩
 ·exact ⟨_, coder_Put_bad he hC hs h, r04_Put_bad he hC hs h, .inl ⟨rfl, h⟩⟩
end Go.Sq
namespace Go.Sq
open Go.Rx
theorem End_r1_eq : g_coder_End_r1 = g_coder_Put_r1 := rfl
theorem End_r2_eq : g_coder_End_r2 = g_coder_Put_r1 := rfl
theorem coder_End_ok {lo hi : Int} {w : Nat} {l : List Bool} (hlo : 0 ≤ lo) (hhi : hi < 4294967296) (hg : goodP lo hi) (hw : w ≤ 65536) (hl : l.length ≤ 65536) :
  g_coder_End (lo, (hi, ((w : Int), (pk l, (l.length : Int))))) = some (outS l (decide (1073741824 ≤ lo)) (w + 1)) := by
 have hgl := hg.1
 have e1 := wrap_u64 (n := lo) (by omega) (by omega)
 have e2 := wrap_u64 (n := hi) (by omega) (by omega)
 have hgd := good_eq (lo := lo) (hi := hi)
 rw [decide_eq_true hg] at hgd
 have hc := bits_Check_eq (N := l.length) (pk_bytes l) (small_pk hl)
 rw [ck_pk hl] at hc
 have eg : ∀ {α : Type} (x y : α), (bif (!((0 : Int) == 0)) then x else y) = y := fun x y => rfl
 unfold outS
 by_cases h1 : lo < 1073741824
 ·rw [decide_eq_false (by omega)]
  by_cases h2 : l.length + (w + 1) + 1 > 65536
  ·rw [if_pos h2]
   simp (disch := omega) only [g_coder_End, e1, e2, hgd, hc, cond_true, dT, Option.bind_some, eg, wrap_i64]
  ·rw [if_neg h2]
   have e3 := fun (K : Int × ((Int × Int) × Int × (List Int × Int) × Int) × Unit → Option ((List Int × Int) × Int)) => emits0 (l := l) (w := w + 1) (x := lo) (y := hi) (wt := (w : Int) + 1) (by omega) K
   have ew : ((w + 1 : Nat) : Int) = (w : Int) + 1 := by omega
   rw [ew] at e3
   simp (disch := omega) only [g_coder_End, e1, e2, hgd, hc, cond_true, dT, dF, Option.bind_some, eg, wrap_i64, End_r1_eq, e3, nF]
 ·rw [decide_eq_true (by omega)]
  by_cases h2 : l.length + (w + 1) + 1 > 65536
  ·rw [if_pos h2]
   simp (disch := omega) only [g_coder_End, e1, e2, hgd, hc, cond_true, dT, dF, Option.bind_some, eg, wrap_i64]
  ·rw [if_neg h2]
   have e3 := fun (K : Int × ((Int × Int) × Int × (List Int × Int) × Int) × Unit → Option ((List Int × Int) × Int)) => emits1 (l := l) (w := w + 1) (x := lo) (y := hi) (wt := (w : Int) + 1) (by omega) K
   have ew : ((w + 1 : Nat) : Int) = (w : Int) + 1 := by omega
   rw [ew] at e3
   simp (disch := omega) only [g_coder_End, e1, e2, hgd, hc, cond_true, dT, dF, Option.bind_some, eg, wrap_i64, End_r2_eq, e3, nF]
theorem r04_End_ok {lo hi : Int} {w : Nat} {l : List Bool} (hlo : 0 ≤ lo) (hhi : hi < 4294967296) (hg : goodP lo hi) (hw : w ≤ 65536) (hl : l.length ≤ 65536) :
  g_r04_End (lo, (hi, ((w : Int), (pk l, (l.length : Int))))) = some (outS l (decide (1073741824 ≤ lo)) (w + 1)) := by
 have hgl := hg.1
 have hce := CheckEnc_t (e := (lo, (hi, ((w : Int), (pk l, (l.length : Int)))))) ⟨by simp only; omega, by simp only; omega, pk_bytes l, small_pk hl⟩ ⟨hg, by simp only; omega, by simp only; omega, (okB_iff (pk_bytes l)).2 ⟨l, rfl, rfl, hl⟩⟩
 have ew : ((w + 1 : Nat) : Int) = (w : Int) + 1 := by omega
 by_cases h1 : lo < 1073741824
 ·rw [decide_eq_false (by omega)]
  have e := out_eq0 (l := l) (w := w + 1) hl (by omega)
  rw [ew] at e
  simp (disch := omega) only [g_r04_End, hce, Bool.not_true, cond_false, dT, Option.bind_some, wrap_i64, e]
 ·rw [decide_eq_true (by omega)]
  have e := out_eq1 (l := l) (w := w + 1) hl (by omega)
  rw [ew] at e
  simp (disch := omega) only [g_r04_End, hce, Bool.not_true, cond_false, dF, Option.bind_some, wrap_i64, e]
theorem coder_End_bad {e : EncT} (he : wfE e) (h : ¬ okE e) : g_coder_End e = some (([], 0), 1) := by
 obtain ⟨lo, hi, w, B, N⟩ := e
 obtain ⟨h1, h2, h3, h4⟩ := he
 have h1 : 0 ≤ lo ∧ lo < 4294967296 := h1
 have h2 : 0 ≤ hi ∧ hi < 4294967296 := h2
 have e1 := wrap_u64 (n := lo) (by omega) (by omega)
 have e2 := wrap_u64 (n := hi) (by omega) (by omega)
 have hgd := good_eq (lo := lo) (hi := hi)
 have h3 : bytes B := h3
 have h4 : small B := h4
 have hc := bits_Check_eq (N := N) h3 h4
 have eg : ∀ {α : Type} (x y : α), (bif (!((1 : Int) == 0)) then x else y) = x := fun x y => rfl
 by_cases g : goodP lo hi
 ·rw [decide_eq_true g] at hgd
  by_cases g1 : 0 ≤ w
  ·by_cases g2 : w ≤ 65536
   ·unfold ck at hc
    rw [if_neg (fun g3 => h ⟨g, g1, g2, g3⟩)] at hc
    simp (disch := omega) only [g_coder_End, e1, e2, hgd, hc, cond_true, dT, Option.bind_some, eg]
   ·simp (disch := omega) only [g_coder_End, e1, e2, hgd, cond_true, dT, dF, Option.bind_some, Bool.not_false]
  ·simp (disch := omega) only [g_coder_End, e1, e2, hgd, cond_true, dF, Option.bind_some, Bool.not_false]
 ·rw [decide_eq_false g] at hgd
  simp (disch := omega) only [g_coder_End, e1, e2, hgd, cond_true, cond_false, Option.bind_some, Bool.not_false]
theorem r04_End_bad {e : EncT} (he : wfE e) (h : ¬ okE e) : g_r04_End e = some (([], 0), 1) := by
 have hce := CheckEnc_f he h
 simp (disch := omega) only [g_r04_End, hce, Bool.not_false, cond_true, Option.bind_some]
theorem End_same {e : EncT} (he : wfE e) : ∃ r, g_coder_End e = some r ∧ g_r04_End e = some r ∧ ((r = (([], 0), 1) ∧ ¬ okE e) ∨
  ∃ (lo hi : Int) (w : Nat) (l : List Bool), e = (lo, (hi, ((w : Int), (pk l, (l.length : Int))))) ∧ okE e ∧ w ≤ 65536 ∧ l.length ≤ 65536 ∧ r = outS l (decide (1073741824 ≤ lo)) (w + 1)) := by
 by_cases h : okE e
 ·obtain ⟨lo, hi, w, B, N⟩ := e
  obtain ⟨g1, g2, g3, g4⟩ := h
  have g2 : 0 ≤ w := g2
  have g3 : w ≤ 65536 := g3
  obtain ⟨l, hB, hN, hl⟩ := (okB_iff he.2.2.1).1 g4
  have hB : B = pk l := hB
  have hN : N = l.length := hN
  subst hB; subst hN
  obtain ⟨n, rfl⟩ : ∃ n : Nat, w = n := ⟨w.toNat, by omega⟩
  have a1 : 0 ≤ lo := he.1.1
  have a2 : hi < 4294967296 := he.2.1.2
  exact ⟨_, coder_End_ok a1 a2 g1 (by omega) hl, r04_End_ok a1 a2 g1 (by omega) hl, .inr ⟨lo, hi, n, l, rfl, ⟨g1, g2, g3, g4⟩, by omega, hl, rfl⟩⟩
 ·exact ⟨_, coder_End_bad he h, r04_End_bad he h, .inl ⟨rfl, h⟩⟩
end Go.Sq
