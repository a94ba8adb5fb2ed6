/- Parts of a proof: evaluation of Go code over typed values, and what it computes. -/
import Derived.Test.YtdjhfpaeejpebaaL4
set_option linter.unusedSimpArgs false
set_option linter.unusedVariables false
set_option linter.unusedSectionVars false
/- Bits are taken, bits are joined. -/
namespace Go.Sq
open Go.Rx

/-- a number out of its bits -/
def bval : List Bool → Nat
  | [] => 0
  | b :: l => b.toNat * 2 ^ l.length + bval l
theorem bval_lt : ∀ l : List Bool, bval l < 2 ^ l.length
  | [] => by simp [bval]
  | b :: l => by
    have := bval_lt l
    have hb := bool_lt b
    simp only [bval, List.length_cons, Nat.pow_succ]
    have : b.toNat * 2 ^ l.length ≤ 1 * 2 ^ l.length := Nat.mul_le_mul_right _ (by omega)
    omega
theorem bval_app : ∀ (l m : List Bool), bval (l ++ m) = bval l * 2 ^ m.length + bval m
  | [], m => by simp [bval]
  | b :: l, m => by
    simp only [List.cons_append, bval, List.length_append, bval_app l m, Nat.pow_add, Nat.add_mul, Nat.mul_assoc]
    omega
theorem bn_bval : ∀ l : List Bool, bn (bval l) l.length = l
  | [] => rfl
  | b :: l => by
    have h := bval_lt l
    have ih := bn_bval l
    cases b
    · show bn (0 * 2 ^ l.length + bval l) (l.length + 1) = _
      rw [Nat.zero_mul, Nat.zero_add, bn_hi0 h, ih]
    · show bn (1 * 2 ^ l.length + bval l) (l.length + 1) = _
      rw [Nat.one_mul, bn_hi1 h, ih]
theorem bval_test (l : List Bool) (i : Nat) : (bval l).testBit i = (decide (i < l.length) && l.getD (l.length - 1 - i) false) := by
  by_cases h : i < l.length
  · have h1 := congrArg (fun m => m.getD (l.length - 1 - i) false) (bn_bval l)
    simp only [bn_get] at h1
    rw [← h1]
    have e : l.length - 1 - (l.length - 1 - i) = i := by omega
    have h2 : l.length - 1 - i < l.length := by omega
    simp [h, h2, e]
  · rw [Nat.testBit_lt_two_pow (Nat.lt_of_lt_of_le (bval_lt l) (Nat.pow_le_pow_right (by omega) (by omega)))]
    simp [h]
theorem getD_take {α : Type} (l : List α) (k i : Nat) (d : α) : (l.take k).getD i d = if i < k then l.getD i d else d := by
  simp only [List.getD_eq_getElem?_getD, List.getElem?_take]
  split <;> rfl
/-- some bits out of one byte -/
theorem part_eq {l : List Bool} {i k : Nat} (h : i % 8 + k ≤ 8) (hl : i + k ≤ l.length) : (byt l (i / 8) >>> (8 - i % 8 - k)) % 2 ^ k = bval ((l.drop i).take k) := by
  apply Nat.eq_of_testBit_eq
  intro j
  have hlen : ((l.drop i).take k).length = k := by rw [List.length_take, List.length_drop]; omega
  rw [Nat.testBit_mod_two_pow, Nat.testBit_shiftRight, byt_test, bval_test, hlen, getD_take, getD_drop]
  by_cases hj : j < k
  · have h1 : 8 - i % 8 - k + j < 8 := by omega
    have h2 : k - 1 - j < k := by omega
    simp only [hj, h1, h2, decide_true, Bool.true_and, if_true]
    congr 1; omega
  · simp [hj]
theorem take_step {l : List Bool} {i w v : Nat} (hl : l.length ≤ 2 ^ 40) (hi : i + w ≤ l.length) (hw : w ≤ 64) (hw0 : 0 < w) (hv : v < 2 ^ (64 - w)) :
    ∃ k, 0 < k ∧ k ≤ w ∧ g_bits_take_r1 ((i : Int), (w : Int), (v : Int), (pk l, (l.length : Int)), ()) =
      some (.inl (((i + k : Nat) : Int), ((w - k : Nat) : Int), ((v * 2 ^ k + bval ((l.drop i).take k) : Nat) : Int), (pk l, (l.length : Int)), ())) := by
  obtain ⟨left, hleft⟩ : ∃ left, left = 8 - i % 8 := ⟨_, rfl⟩
  obtain ⟨k, hk⟩ : ∃ k, k = min left w := ⟨_, rfl⟩
  have e1 : (i : Int).tdiv 8 = ((i / 8 : Nat) : Int) := tdiv_nat
  have e2 : (i : Int).tmod 8 = ((i % 8 : Nat) : Int) := tmod_nat
  have e3 : (8 : Int) - ((i % 8 : Nat) : Int) = (left : Int) := by omega
  have hkif : (if (w : Int) < (left : Int) then (w : Int) else (left : Int)) = (k : Int) := by rw [hk]; split <;> omega
  have hpl := pk_len l
  refine ⟨k, by omega, by omega, ?_⟩
  have hpart := part_eq (l := l) (i := i) (k := k) (by omega) (by omega)
  have e4 : (left : Int) - (k : Int) = ((left - k : Nat) : Int) := by omega
  have hB := byt_lt l (i / 8)
  have e5 : shrI .u8 (byt l (i / 8) : Int) ((left - k : Nat) : Int) = ((byt l (i / 8) >>> (left - k) : Nat) : Int) := shr_nat (by simp only [IntKind.bits]; omega)
  have hs : byt l (i / 8) >>> (left - k) < 256 := Nat.lt_of_le_of_lt (by rw [Nat.shiftRight_eq_div_pow]; exact Nat.div_le_self _ _) hB
  have hpow : 2 ^ k ≤ 2 ^ 8 := Nat.pow_le_pow_right (by omega) (by omega)
  have hpos := Nat.two_pow_pos k
  rw [← hleft] at hpart
  have e6 : IntKind.u8.wrap (shlI .u8 1 (k : Int) - 1) = ((2 ^ k - 1 : Nat) : Int) := by
    have h := shl_nat8 (a := 1) (n := k) (by omega)
    rw [Nat.shiftLeft_eq, Nat.one_mul] at h
    rw [show shlI .u8 1 (k : Int) = ((2 ^ k % 256 : Nat) : Int) from h]
    rcases Nat.lt_or_ge k 8 with h8 | h8
    · have : 2 ^ k ≤ 2 ^ 7 := Nat.pow_le_pow_right (by omega) (by omega)
      rw [Nat.mod_eq_of_lt (by omega), wrap_u8 (by omega) (by omega)]; omega
    · have : k = 8 := by omega
      subst this; rfl
  have e7 : bitsI .and .u8 ((byt l (i / 8) >>> (left - k) : Nat) : Int) ((2 ^ k - 1 : Nat) : Int) = ((bval ((l.drop i).take k) : Nat) : Int) := by
    rw [and_nat8 hs (by omega), Nat.and_two_pow_sub_one_eq_mod, hpart]
  have hm := bval_lt ((l.drop i).take k)
  have hlen : ((l.drop i).take k).length = k := by rw [List.length_take, List.length_drop]; omega
  rw [hlen] at hm
  have hvk : v * 2 ^ k + 2 ^ k ≤ 2 ^ 64 := by
    have h1 : (v + 1) * 2 ^ k ≤ 2 ^ (64 - w) * 2 ^ k := Nat.mul_le_mul_right _ hv
    rw [← Nat.pow_add] at h1
    have h2 : 2 ^ (64 - w + k) ≤ 2 ^ 64 := Nat.pow_le_pow_right (by omega) (by omega)
    rw [Nat.add_mul, Nat.one_mul] at h1
    omega
  have e8 : shlI .u64 (v : Int) (k : Int) = ((v * 2 ^ k : Nat) : Int) := by
    rw [shl_nat64 (by omega), Nat.shiftLeft_eq, Nat.mod_eq_of_lt (by omega)]
  have e9 : bitsI .or .u64 ((v * 2 ^ k : Nat) : Int) ((bval ((l.drop i).take k) : Nat) : Int) = ((v * 2 ^ k + bval ((l.drop i).take k) : Nat) : Int) := by
    rw [or_nat64 (by omega) (by omega)]
    congr 1
    rw [Nat.mul_comm, ← Nat.two_pow_add_eq_or_of_lt hm]
  generalize bval ((l.drop i).take k) = y at *
  generalize v * 2 ^ k = y2 at *
  generalize byt l (i / 8) >>> (left - k) = y3 at *
  generalize 2 ^ k = y4 at *
  simp (disch := omega) only [g_bits_take_r1, dT, e1, e2, e3, wrap_i64, hkif, wT, e4, Int.toNat_natCast, pk_get, e5, e6, e7, e8, e9, wrap_u64]
  rw [show (i : Int) + (k : Int) = ((i + k : Nat) : Int) from by omega, show (w : Int) - (k : Int) = ((w - k : Nat) : Int) from by omega]
theorem take_eq {l : List Bool} {i w : Nat} (hl : l.length ≤ 2 ^ 40) (hi : i + w ≤ l.length) (hw : w ≤ 64) : g_bits_take (pk l, (l.length : Int)) (i : Int) (w : Int) = some ((bval ((l.drop i).take w) : Nat) : Int) := by
  obtain ⟨r, h1, h2⟩ := iter_ex (f := g_bits_take_r1) (fun x => x.2.1.toNat)
    (fun x => ∃ (j u v : Nat), x = ((j : Int), (u : Int), (v : Int), (pk l, (l.length : Int)), ()) ∧ j + u = i + w ∧ u ≤ w ∧ v < 2 ^ (w - u) ∧ v * 2 ^ u + bval ((l.drop j).take u) = bval ((l.drop i).take w))
    (fun r => r = (((bval ((l.drop i).take w) : Nat) : Int), ())) (by
      rintro x ⟨j, u, v, rfl, h1, h2, h3, h4⟩
      rcases Nat.eq_zero_or_pos u with rfl | hu
      · right
        refine ⟨_, ?_, rfl⟩
        rw [← h4]
        simp (disch := omega) only [g_bits_take_r1, dF]
        simp [bval]
      · left
        obtain ⟨k, k1, k2, hs⟩ := take_step (l := l) (i := j) (w := u) (v := v) hl (by omega) (by omega) hu (Nat.lt_of_lt_of_le h3 (Nat.pow_le_pow_right (by omega) (by omega)))
        refine ⟨_, hs, ⟨j + k, u - k, v * 2 ^ k + bval ((l.drop j).take k), rfl, by omega, by omega, ?_, ?_⟩, by simp only; omega⟩
        · have hm := bval_lt ((l.drop j).take k)
          have hlen : ((l.drop j).take k).length = k := by rw [List.length_take, List.length_drop]; omega
          rw [hlen] at hm
          have e : 2 ^ (w - (u - k)) = 2 ^ (w - u) * 2 ^ k := by rw [← Nat.pow_add]; congr 1; omega
          have h5 : (v + 1) * 2 ^ k ≤ 2 ^ (w - u) * 2 ^ k := Nat.mul_le_mul_right _ h3
          rw [Nat.add_mul, Nat.one_mul] at h5
          rw [e]; omega
        · have hsplit : (l.drop j).take u = (l.drop j).take k ++ (l.drop (j + k)).take (u - k) := by
            rw [← List.drop_drop, ← List.take_add, show k + (u - k) = u from by omega]
          have hlen : ((l.drop (j + k)).take (u - k)).length = u - k := by rw [List.length_take, List.length_drop]; omega
          have e : 2 ^ u = 2 ^ k * 2 ^ (u - k) := by rw [← Nat.pow_add]; congr 1; omega
          rw [← h4, hsplit, bval_app, hlen, e, Nat.add_mul, Nat.mul_assoc]; omega) ((i : Int), (w : Int), 0, (pk l, (l.length : Int)), ()) ⟨i, w, 0, rfl, rfl, Nat.le_refl _, Nat.two_pow_pos _, by simp⟩
  simp only [g_bits_take, h1, h2, Option.bind_some]

/-- bits behind bits -/
theorem join_bits {M L : List Bool} (hM : M.length ≤ 65536) (hL : L.length ≤ 65536) {a b : List (List Int × Int)} {n i : Int} {z : List Int × Int} :
    iter g_bits_Join_r2 (0, a, n, i, z, (pk M, (M.length : Int)), (pk L, (L.length : Int)), ()) = some (a, n, i, z, (pk (M ++ L), ((M.length + L.length : Nat) : Int)), ()) := by
  obtain ⟨z1, z2⟩ := z
  obtain ⟨r, h1, h2⟩ := iter_ex (f := g_bits_Join_r2) (fun x => ((L.length : Int) + 8 - x.1).toNat)
    (fun x => ∃ j : Nat, x = ((j : Int), a, n, i, (z1, z2), (pk (M ++ L.take j), ((M ++ L.take j).length : Int)), (pk L, (L.length : Int)), ()) ∧ j ≤ L.length + 7 ∧ j % 8 = 0)
    (fun r => r = (a, n, i, (z1, z2), (pk (M ++ L), ((M.length + L.length : Nat) : Int)), ())) (by
      rintro x ⟨j, rfl, h1, h2⟩
      by_cases h3 : j < L.length
      · left
        obtain ⟨k, hk⟩ : ∃ k : Nat, k = min (L.length - j) 8 := ⟨_, rfl⟩
        have hkif : (if (L.length : Int) - (j : Int) < 8 then (L.length : Int) - (j : Int) else 8) = (k : Int) := by split <;> omega
        have ht := take_eq (l := L) (i := j) (w := k) (by omega) (by omega) (by omega)
        have hlen : ((L.drop j).take k).length = k := by rw [List.length_take, List.length_drop]; omega
        have hbl := bval_lt ((L.drop j).take k)
        rw [hlen] at hbl
        have h256 : 2 ^ k ≤ 2 ^ 8 := Nat.pow_le_pow_right (by omega) (by omega)
        have hml : (M ++ L.take j).length = M.length + j := by rw [List.length_append, List.length_take]; omega
        have ha := add_eq (l := M ++ L.take j) (v := bval ((L.drop j).take k)) (w := k) (by omega) (by omega) (by omega)
        have hbn := bn_bval ((L.drop j).take k)
        rw [hlen] at hbn
        rw [hbn] at ha
        have hcat : M ++ L.take j ++ (L.drop j).take k = M ++ L.take (j + 8) := by
          rw [List.append_assoc, ← List.take_add]
          congr 1
          rcases Nat.lt_or_ge L.length (j + 8) with h | h
          · rw [List.take_of_length_le (i := j + 8) (by omega), List.take_of_length_le (by omega)]
          · congr 1; omega
        rw [hcat] at ha
        have hcl : (M ++ L.take (j + 8)).length = (M ++ L.take j).length + k := by
          have := congrArg List.length hcat
          rw [List.length_append, hlen] at this; omega
        refine ⟨(((j + 8 : Nat) : Int), a, n, i, (z1, z2), (pk (M ++ L.take (j + 8)), ((M ++ L.take (j + 8)).length : Int)), (pk L, (L.length : Int)), ()), ?_, ⟨j + 8, rfl, by omega, by omega⟩, by simp only; omega⟩
        rw [hcl]
        rw [show ((j + 8 : Nat) : Int) = (j : Int) + 8 from by omega]
        simp (disch := omega) only [g_bits_Join_r2, dT, wrap_i64, hkif, ht, Option.bind_some, ha]
      · right
        refine ⟨_, ?_, rfl⟩
        have e : L.take j = L := List.take_of_length_le (by omega)
        rw [e]
        have e2 : ((M ++ L).length : Int) = ((M.length + L.length : Nat) : Int) := by rw [List.length_append]
        rw [← e2]
        simp (disch := omega) only [g_bits_Join_r2, dF]) (0, a, n, i, (z1, z2), (pk M, (M.length : Int)), (pk L, (L.length : Int)), ()) ⟨0, by simp, by omega, rfl⟩
  rw [h1, h2]
theorem join_two {L T : List Bool} (hL : L.length ≤ 65536) (hT : T.length ≤ 65536) :
    g_bits_Join [(pk L, (L.length : Int)), (pk T, (T.length : Int))] = some (if L.length + T.length > 65536 then (([], 0), 2) else ((pk (L ++ T), ((L.length + T.length : Nat) : Int)), 0)) := by
  obtain ⟨a, ha⟩ : ∃ a, a = [(pk L, (L.length : Int)), (pk T, (T.length : Int))] := ⟨_, rfl⟩
  have g0 : a.getD 0 ([], 0) = (pk L, (L.length : Int)) := by rw [ha]; rfl
  have g1 : a.getD 1 ([], 0) = (pk T, (T.length : Int)) := by rw [ha]; rfl
  have hlen : (a.length : Int) = 2 := by rw [ha]; rfl
  have hlen' : a.length = 2 := by omega
  have c0 := bits_Check_eq (N := L.length) (pk_bytes L) (small_pk hL)
  rw [ck_pk hL] at c0
  have c1 := bits_Check_eq (N := T.length) (pk_bytes T) (small_pk hT)
  rw [ck_pk hT] at c1
  have t0 : (0 : Int).toNat = 0 := rfl
  have t1 : (1 : Int).toNat = 1 := rfl
  have loop : iter g_bits_Join_r1 (a, 0, a, 2, 0, ([], 0), ()) = some (.inl (a, ((L.length + T.length : Nat) : Int), ([], 0), ())) := by
    rw [iter_inl (y := (a, (L.length : Int), a, 2, 1, ([], 0), ()))]
    · rw [iter_inl (y := (a, ((L.length + T.length : Nat) : Int), a, 2, 2, ([], 0), ()))]
      · apply iter_inr
        simp (disch := omega) only [g_bits_Join_r1, dF]
      · have e : (L.length : Int) + (T.length : Int) = ((L.length + T.length : Nat) : Int) := by omega
        simp (disch := omega) only [g_bits_Join_r1, dT, wT, t1, g1, c1, Option.bind_some, nF, wrap_i64, e]
        rfl
    · simp (disch := omega) only [g_bits_Join_r1, dT, wT, t0, g0, c0, Option.bind_some, nF, wrap_i64]
      simp
  rw [← ha]
  by_cases h : L.length + T.length > 65536
  · rw [if_pos h]
    simp (disch := omega) only [g_bits_Join, hlen, loop, Option.bind_some, dT]
  · rw [if_neg h]
    have j0 : ∀ b : Int, iter g_bits_Join_r2 (0, a, 2, b, ([], 0), ([], 0), (pk L, (L.length : Int)), ()) = some (a, 2, b, ([], 0), (pk L, (L.length : Int)), ()) := fun b => by
      have h := join_bits (M := []) (L := L) (by simp) hL (a := a) (b := a) (n := 2) (i := b) (z := ([], 0))
      rw [List.nil_append, List.length_nil, Nat.zero_add] at h
      exact h
    have j1 := fun (b : Int) => join_bits (M := L) (L := T) hL hT (a := a) (b := a) (n := 2) (i := b) (z := ([], 0))
    have loop3 : iter g_bits_Join_r3 (a, 2, 0, ([], 0), ([], 0), ()) = some (([], 0), (pk (L ++ T), ((L.length + T.length : Nat) : Int)), ()) := by
      rw [iter_inl (y := (a, 2, 1, ([], 0), (pk L, (L.length : Int)), ()))]
      · rw [iter_inl (y := (a, 2, 2, ([], 0), (pk (L ++ T), ((L.length + T.length : Nat) : Int)), ()))]
        · apply iter_inr
          simp (disch := omega) only [g_bits_Join_r3, dF]
        · simp (disch := omega) only [g_bits_Join_r3, dT, wT, t1, g1, j1, Option.bind_some, wrap_i64]
          rfl
      · simp (disch := omega) only [g_bits_Join_r3, dT, wT, t0, g0, j0, Option.bind_some, wrap_i64]
        rfl
    simp (disch := omega) only [g_bits_Join, hlen, loop, Option.bind_some, dF, loop3]
end Go.Sq
/- The law CoderBack: what was put is had back. -/
namespace Go.Sq
open Go.Rx

/-- where a coder's interval begins, in whole numbers -/
def base (l : List Bool) (w : Nat) : Int := (bval l : Int) * (4294967296 * 2 ^ w) + 2147483648 * (2 ^ w - 1)
theorem bval_rep (b : Bool) : ∀ k, bval (List.replicate k b) = b.toNat * (2 ^ k - 1)
  | 0 => by simp [bval]
  | k + 1 => by
    have := Nat.two_pow_pos k
    rw [List.replicate_succ, bval, bval_rep b k, List.length_replicate, Nat.pow_succ]
    cases b
    · simp
    · simp; omega
theorem bval_outL (l : List Bool) (b : Bool) (w : Nat) : bval (outL l b w) = bval l * 2 ^ w * 2 + (b.toNat * 2 ^ w + (!b).toNat * (2 ^ w - 1)) := by
  unfold outL
  rw [bval_app, bval, bval_rep, List.length_cons, List.length_replicate, Nat.pow_succ, Nat.mul_assoc]
theorem base_out0 (l : List Bool) (w : Nat) : base (outL l false w) 0 = 2 * base l w := by
  unfold base
  rw [bval_outL]
  have hp : (1 : Int) ≤ 2 ^ w := by have := Int.pow_pos (n := 2) (m := w) (by decide); omega
  have hc : ((2 ^ w : Nat) : Int) = (2 : Int) ^ w := by simp
  have h1 : (((bval l * 2 ^ w * 2 + (false.toNat * 2 ^ w + (!false).toNat * (2 ^ w - 1)) : Nat)) : Int) = (bval l : Int) * 2 ^ w * 2 + (2 ^ w - 1) := by
    have : bval l * 2 ^ w * 2 + (false.toNat * 2 ^ w + (!false).toNat * (2 ^ w - 1)) = bval l * 2 ^ w * 2 + (2 ^ w - 1) := by simp
    rw [this]
    have hp' := Nat.two_pow_pos w
    rw [Int.natCast_add, Int.natCast_mul, Int.natCast_mul, hc]
    omega
  rw [h1]
  have h2 : (bval l : Int) * (4294967296 * 2 ^ w) = 4294967296 * ((bval l : Int) * 2 ^ w) := by rw [Int.mul_left_comm]
  rw [h2]
  simp
  omega
theorem base_out1 (l : List Bool) (w : Nat) : base (outL l true w) 0 = 2 * base l w + 4294967296 := by
  unfold base
  rw [bval_outL]
  have hc : ((2 ^ w : Nat) : Int) = (2 : Int) ^ w := by simp
  have h1 : (((bval l * 2 ^ w * 2 + (true.toNat * 2 ^ w + (!true).toNat * (2 ^ w - 1)) : Nat)) : Int) = (bval l : Int) * 2 ^ w * 2 + 2 ^ w := by
    have : bval l * 2 ^ w * 2 + (true.toNat * 2 ^ w + (!true).toNat * (2 ^ w - 1)) = bval l * 2 ^ w * 2 + 2 ^ w := by simp
    rw [this, Int.natCast_add, Int.natCast_mul, Int.natCast_mul, hc]
    omega
  rw [h1]
  have h2 : (bval l : Int) * (4294967296 * 2 ^ w) = 4294967296 * ((bval l : Int) * 2 ^ w) := by rw [Int.mul_left_comm]
  rw [h2]
  simp
  omega
theorem base_wait (l : List Bool) (w : Nat) : base l (w + 1) = 2 * base l w + 2147483648 := by
  unfold base
  have h2 : ∀ x : Int, (bval l : Int) * (4294967296 * x) = 4294967296 * ((bval l : Int) * x) := fun x => Int.mul_left_comm _ _ _
  have h3 : (bval l : Int) * (2 ^ w * 2) = (bval l : Int) * 2 ^ w * 2 := (Int.mul_assoc _ _ _).symm
  rw [h2, h2, Int.pow_succ, h3]
  omega
/-- the stream's number, as one sees it -/
def seen (B : List Bool) (w : Nat) (l : List Bool) : Int := codeS B (l.length + w + 32) - base l w
def inside (B : List Bool) (lo hi : Int) (w : Nat) (l : List Bool) : Prop := lo ≤ seen B w l ∧ seen B w l ≤ hi
theorem seen_out0 (B : List Bool) (w : Nat) (l : List Bool) : seen B 0 (outL l false w) = 2 * seen B w l + bI B (l.length + w + 32) := by
  unfold seen
  rw [base_out0, outL_len, show l.length + w + 1 + 0 + 32 = (l.length + w + 32) + 1 from by omega, codeS]; omega
theorem seen_out1 (B : List Bool) (w : Nat) (l : List Bool) : seen B 0 (outL l true w) = 2 * (seen B w l - 2147483648) + bI B (l.length + w + 32) := by
  unfold seen
  rw [base_out1, outL_len, show l.length + w + 1 + 0 + 32 = (l.length + w + 32) + 1 from by omega, codeS]; omega
theorem seen_wait (B : List Bool) (w : Nat) (l : List Bool) : seen B (w + 1) l = 2 * (seen B w l - 1073741824) + bI B (l.length + w + 32) := by
  unfold seen
  rw [base_wait, show l.length + (w + 1) + 32 = (l.length + w + 32) + 1 from by omega, codeS]; omega
theorem widS_ok : ∀ {n : Nat} {lo hi : Int} {w : Nat} {l : List Bool} {lo' hi' : Int} {w' : Nat} {l' : List Bool}, roomy n lo hi → widS (n + 1) lo hi w l = some (lo', hi', w', l') →
    goodP lo' hi' ∧ 0 ≤ lo' ∧ hi' < 4294967296 ∧ ∃ k, l'.length + w' = l.length + w + k ∧ hi' - lo' + 1 = (hi - lo + 1) * 2 ^ k := by
  intro n
  induction n with
  | zero =>
    intro lo hi w l lo' hi' w' l' hr h
    have := roomy_zero hr
    rw [widS, if_neg (by omega), if_neg (by omega), if_neg (by omega)] at h
    cases h
    exact ⟨by unfold goodP; omega, by omega, by omega, 0, rfl, by simp⟩
  | succ n ih =>
    intro lo hi w l lo' hi' w' l' hr h
    obtain ⟨r1, r2, r3, r4⟩ := hr
    have hr : roomy (n + 1) lo hi := ⟨r1, r2, r3, r4⟩
    have dbl : ∀ (a k : Int) (m : Nat), a = 2 * k → a * 2 ^ m = k * 2 ^ (m + 1) := fun a k m e => by rw [e, Int.pow_succ, Int.mul_comm 2 k, Int.mul_assoc, Int.mul_comm 2]
    rw [widS] at h
    by_cases c1 : hi < 2147483648
    · rw [if_pos c1] at h
      split at h
      · cases h
      · obtain ⟨a1, a2, a3, k, a4, a5⟩ := ih (roomy_next hr (by omega) (by omega) (by omega)) h
        rw [outL_len] at a4
        exact ⟨a1, a2, a3, k + 1, by omega, by rw [a5]; exact dbl _ _ _ (by omega)⟩
    rw [if_neg c1] at h
    by_cases c2 : lo ≥ 2147483648
    · rw [if_pos c2] at h
      split at h
      · cases h
      · obtain ⟨a1, a2, a3, k, a4, a5⟩ := ih (roomy_next hr (by omega) (by omega) (by omega)) h
        rw [outL_len] at a4
        exact ⟨a1, a2, a3, k + 1, by omega, by rw [a5]; exact dbl _ _ _ (by omega)⟩
    rw [if_neg c2] at h
    by_cases c3 : lo ≥ 1073741824 ∧ hi < 3221225472
    · rw [if_pos c3] at h
      obtain ⟨a1, a2, a3, k, a4, a5⟩ := ih (roomy_next hr (by omega) (by omega) (by omega)) h
      exact ⟨a1, a2, a3, k + 1, by omega, by rw [a5]; exact dbl _ _ _ (by omega)⟩
    · rw [if_neg c3] at h
      cases h
      exact ⟨by unfold goodP; omega, r1, r3, 0, rfl, by simp⟩
/-- who reads goes where the coder went -/
theorem follow {B : List Bool} : ∀ {n : Nat} {lo hi : Int} {w : Nat} {l : List Bool} {lo' hi' : Int} {w' : Nat} {l' : List Bool}, roomy n lo hi → widS (n + 1) lo hi w l = some (lo', hi', w', l') → inside B lo' hi' w' l' →
    inside B lo hi w l ∧ decS (n + 1) lo hi (seen B w l) (l.length + w + 32) B = (lo', hi', seen B w' l', l'.length + w' + 32) := by
  intro n
  induction n with
  | zero =>
    intro lo hi w l lo' hi' w' l' hr h hin
    have := roomy_zero hr
    rw [widS, if_neg (by omega), if_neg (by omega), if_neg (by omega)] at h
    cases h
    refine ⟨hin, ?_⟩
    rw [decS, if_neg (by omega), if_neg (by omega), if_neg (by omega)]
  | succ n ih =>
    intro lo hi w l lo' hi' w' l' hr h hin
    obtain ⟨r1, r2, r3, r4⟩ := hr
    have hr : roomy (n + 1) lo hi := ⟨r1, r2, r3, r4⟩
    have hb := bI_range B (l.length + w + 32)
    rw [widS] at h
    rw [decS]
    by_cases c1 : hi < 2147483648
    · rw [if_pos c1] at h ⊢
      split at h
      · cases h
      · obtain ⟨⟨a1, a2⟩, a3⟩ := ih (roomy_next hr (by omega) (by omega) (by omega)) h hin
        rw [seen_out0] at a1 a2 a3
        rw [outL_len, show l.length + w + 1 + 0 + 32 = l.length + w + 32 + 1 from by omega] at a3
        exact ⟨⟨by omega, by omega⟩, a3⟩
    rw [if_neg c1] at h ⊢
    by_cases c2 : lo ≥ 2147483648
    · rw [if_pos c2] at h ⊢
      split at h
      · cases h
      · obtain ⟨⟨a1, a2⟩, a3⟩ := ih (roomy_next hr (by omega) (by omega) (by omega)) h hin
        rw [seen_out1] at a1 a2 a3
        rw [outL_len, show l.length + w + 1 + 0 + 32 = l.length + w + 32 + 1 from by omega] at a3
        exact ⟨⟨by omega, by omega⟩, a3⟩
    rw [if_neg c2] at h ⊢
    by_cases c3 : lo ≥ 1073741824 ∧ hi < 3221225472
    · rw [if_pos c3] at h ⊢
      obtain ⟨⟨a1, a2⟩, a3⟩ := ih (roomy_next hr (by omega) (by omega) (by omega)) h hin
      rw [seen_wait] at a1 a2 a3
      rw [show l.length + (w + 1) + 32 = l.length + w + 32 + 1 from by omega] at a3
      exact ⟨⟨by omega, by omega⟩, a3⟩
    · rw [if_neg c3] at h ⊢
      cases h
      exact ⟨hin, rfl⟩
/-- what lies within what a symbol narrows to, is that symbol's -/
theorem within_find {lo hi c t a b : Int} (hR : 0 < hi - lo + 1) (ht : 1 ≤ t) (h1 : narL lo hi a t ≤ c) (h2 : c ≤ narH lo hi b t) : a ≤ findX lo hi c t ∧ findX lo hi c t < b := by
  unfold narL at h1
  unfold narH at h2
  have g1 : (hi - lo + 1) * a < (c - lo + 1) * t := by
    have := Int.lt_ediv_add_one_mul_self ((hi - lo + 1) * a) (show 0 < t by omega)
    have h3 : ((hi - lo + 1) * a / t + 1) * t ≤ (c - lo + 1) * t := Int.mul_le_mul_of_nonneg_right (by omega) (by omega)
    omega
  have g2 : (c - lo + 1) * t ≤ (hi - lo + 1) * b := by
    have h3 := Int.ediv_mul_le ((hi - lo + 1) * b) (show t ≠ 0 by omega)
    have h4 : (c - lo + 1) * t ≤ (hi - lo + 1) * b / t * t := Int.mul_le_mul_of_nonneg_right (by omega) (by omega)
    omega
  unfold findX
  constructor
  · apply Int.le_ediv_of_mul_le hR
    rw [Int.mul_comm a]; omega
  · apply Int.ediv_lt_of_lt_mul hR
    rw [Int.mul_comm b]; omega
theorem codeS_pre (L T : List Bool) : ∀ k, ∃ r : Int, codeS (L ++ T) (L.length + k) = (bval L : Int) * 2 ^ k + r ∧ 0 ≤ r ∧ r < 2 ^ k := by
  have h0 : codeS (L ++ T) L.length = bval L := by
    have key : ∀ (M N : List Bool), codeS (M ++ N) M.length = bval M := by
      intro M
      generalize hn : M.length = n
      induction n generalizing M with
      | zero =>
        intro N
        have : M = [] := List.length_eq_zero_iff.1 hn
        subst this; rfl
      | succ n ih =>
        intro N
        have hne : M ≠ [] := by rintro rfl; simp at hn
        obtain ⟨M', b, rfl⟩ : ∃ M' b, M = M' ++ [b] := ⟨M.dropLast, M.getLast hne, (List.dropLast_concat_getLast hne).symm⟩
        have hl : M'.length = n := by simp at hn; omega
        have := ih M' hl ([b] ++ N)
        rw [← List.append_assoc] at this
        rw [codeS, this, bval_app]
        have hb : bI (M' ++ [b] ++ N) n = (b.toNat : Int) := by
          unfold bI
          rw [List.append_assoc, getD_app, if_neg (by omega), hl, Nat.sub_self]; rfl
        rw [hb]
        simp [bval]
        omega
    exact key L T
  intro k
  induction k with
  | zero => exact ⟨0, by rw [Nat.add_zero, h0]; simp, by decide, by decide⟩
  | succ k ih =>
    obtain ⟨r, h1, h2, h3⟩ := ih
    have hb := bI_range (L ++ T) (L.length + k)
    refine ⟨2 * r + bI (L ++ T) (L.length + k), ?_, by omega, by rw [Int.pow_succ]; omega⟩
    rw [← Nat.add_assoc, codeS, h1, Int.pow_succ, ← Int.mul_assoc]
    omega
/-- the end of a coder's work lies within -/
theorem end_inside {lo hi : Int} {w : Nat} {l T : List Bool} (h0 : 0 ≤ lo) (hh : hi < 4294967296) (hg : goodP lo hi) : inside (outL l (decide (1073741824 ≤ lo)) (w + 1) ++ T) lo hi w l := by
  unfold inside seen
  have hlen := outL_len l (decide (1073741824 ≤ lo)) (w + 1)
  obtain ⟨r, h1, h2, h3⟩ := codeS_pre (outL l (decide (1073741824 ≤ lo)) (w + 1)) T 30
  rw [hlen, show l.length + (w + 1) + 1 + 30 = l.length + w + 32 from by omega] at h1
  rw [h1, bval_outL]
  have hc : ((2 ^ w : Nat) : Int) = (2 : Int) ^ w := by simp
  have hp : (1 : Int) ≤ 2 ^ w := by have := Int.pow_pos (n := 2) (m := w) (by decide); omega
  have hp' := Nat.two_pow_pos w
  unfold base
  have e2 : (bval l : Int) * (4294967296 * 2 ^ w) = 4294967296 * ((bval l : Int) * 2 ^ w) := Int.mul_left_comm _ _ _
  rw [e2]
  have e30 : (2 : Int) ^ 30 = 1073741824 := by decide
  rw [e30] at h3 ⊢
  obtain ⟨g1, g2, g3, g4⟩ := hg
  have hx : ((bval l * 2 ^ (w + 1) : Nat) : Int) = (bval l : Int) * 2 ^ w * 2 := by
    rw [Nat.pow_succ, ← Nat.mul_assoc, Int.natCast_mul, Int.natCast_mul, hc]; rfl
  by_cases hq : 1073741824 ≤ lo
  · rw [decide_eq_true hq]
    have e1 : ((bval l * 2 ^ (w + 1) * 2 + (true.toNat * 2 ^ (w + 1) + (!true).toNat * (2 ^ (w + 1) - 1)) : Nat) : Int) = (bval l : Int) * 2 ^ w * 2 * 2 + 2 ^ w * 2 := by
      have : bval l * 2 ^ (w + 1) * 2 + (true.toNat * 2 ^ (w + 1) + (!true).toNat * (2 ^ (w + 1) - 1)) = bval l * 2 ^ (w + 1) * 2 + 2 ^ w * 2 := by simp [Nat.pow_succ]
      rw [this, Int.natCast_add, Int.natCast_mul, hx, Int.natCast_mul, hc]; rfl
    rw [e1]
    generalize (bval l : Int) * 2 ^ w = X at *
    generalize (2 : Int) ^ w = Y at *
    omega
  · rw [decide_eq_false hq]
    have e1 : ((bval l * 2 ^ (w + 1) * 2 + (false.toNat * 2 ^ (w + 1) + (!false).toNat * (2 ^ (w + 1) - 1)) : Nat) : Int) = (bval l : Int) * 2 ^ w * 2 * 2 + (2 ^ w * 2 - 1) := by
      have : bval l * 2 ^ (w + 1) * 2 + (false.toNat * 2 ^ (w + 1) + (!false).toNat * (2 ^ (w + 1) - 1)) = bval l * 2 ^ (w + 1) * 2 + (2 ^ w * 2 - 1) := by simp [Nat.pow_succ]
      rw [this, Int.natCast_add, Int.natCast_mul, hx]
      omega
    rw [e1]
    generalize (bval l : Int) * 2 ^ w = X at *
    generalize (2 : Int) ^ w = Y at *
    omega
end Go.Sq
/- The law CoderBack, at last. -/
namespace Go.Sq
open Go.Rx

def encE (lo hi : Int) (w : Nat) (l : List Bool) : EncT := (lo, (hi, ((w : Int), (pk l, (l.length : Int)))))
def decD (B : List Bool) (lo hi : Int) (w : Nat) (l : List Bool) : DecT := (lo, (hi, (seen B w l, ((pk B, (B.length : Int)), ((l.length + w + 32 : Nat) : Int)))))
/-- is it a coder's state at work? -/
structure atWork (lo hi : Int) (w : Nat) (l : List Bool) : Prop where
  lo0 : 0 ≤ lo
  hi1 : hi < 4294967296
  good : goodP lo hi
  wait : w ≤ 65536
  len : l.length ≤ 65536
/-- a Put that came to something -/
theorem put_zero {lo hi : Int} {w : Nat} {l : List Bool} (h : atWork lo hi w l) {C : List Int} {s : Int} (hC : small C) (hs : s < 2 ^ 63) (hz : (PutF (encE lo hi w l) C s).2 = 0) :
    okSpan C s ∧ ∃ (lo' hi' : Int) (w' : Nat) (l' : List Bool), widS 33 (narL lo hi (C.getD s.toNat 0) (totS C)) (narH lo hi (C.getD (s.toNat + 1) 0) (totS C)) w l = some (lo', hi', w', l') ∧ atWork lo' hi' w' l' ∧ PutF (encE lo hi w l) C s = (encE lo' hi' w' l', 0) := by
  have hgl := h.good.1
  have h1 := h.lo0
  have h2 := h.hi1
  have hwf : wfE (encE lo hi w l) := wfE_pk ⟨h1, by omega⟩ ⟨by omega, h2⟩ h.len
  by_cases ho : okSpan C s
  · refine ⟨ho, ?_⟩
    have hp := PutF_ok h1 h2 h.good h.wait h.len ho
    unfold encE at hz ⊢
    rw [hp] at hz ⊢
    obtain ⟨_, t1, t2⟩ := totS_pos ho.1
    obtain ⟨a0, a1, a2⟩ := span_ok ho.1 ho.2.1 ho.2.2
    have hgw := good_wide h.good
    obtain ⟨f1, f2, f3, f4, f5, f6, f7⟩ := nar_facts (r := hi - lo + 1) (a := C.getD s.toNat 0) (b := C.getD (s.toNat + 1) 0) (t := totS C) (by omega) (by omega) a0 a1 a2 t1 t2
    have hL : narL lo hi (C.getD s.toNat 0) (totS C) = lo + (hi - lo + 1) * C.getD s.toNat 0 / totS C := rfl
    have hH : narH lo hi (C.getD (s.toNat + 1) 0) (totS C) = lo + (hi - lo + 1) * C.getD (s.toNat + 1) 0 / totS C - 1 := rfl
    have hroom : roomy 32 (narL lo hi (C.getD s.toNat 0) (totS C)) (narH lo hi (C.getD (s.toNat + 1) 0) (totS C)) := roomy_start (by rw [hL]; omega) (by rw [hL, hH]; omega) (by rw [hH]; omega)
    cases hW : widS 33 (narL lo hi (C.getD s.toNat 0) (totS C)) (narH lo hi (C.getD (s.toNat + 1) 0) (totS C)) w l with
    | none =>
      unfold putR at hz
      rw [hW] at hz
      simp [doneS, flip3] at hz
    | some r =>
      obtain ⟨lo', hi', w', l'⟩ := r
      have hw' : w' ≤ 65536 := by
        rcases Nat.lt_or_ge 65536 w' with h5 | h5
        · unfold putR at hz
          rw [hW] at hz
          simp [doneS, flip3, h5] at hz
        · exact h5
      obtain ⟨b1, b2, b3, _⟩ := widS_ok hroom hW
      have b4 := (widS_len h.len hW).1
      have b5 := b1.1
      exact ⟨lo', hi', w', l', rfl, ⟨b2, b3, b1, hw', b4⟩, putR_eq rfl hW hw' ⟨b2, by omega⟩ ⟨by omega, b3⟩⟩
  · exfalso
    rw [(show PutF (encE lo hi w l) C s = ((0, (0, (0, ([], 0)))), 1) by unfold PutF; rw [coder_Put_bad hwf hC hs (fun hh => ho hh.2)]; rfl)] at hz
    cases hz
theorem run_back : ∀ (zs : List (Int × List Int)) {lo hi : Int} {w : Nat} {l : List Bool}, atWork lo hi w l → (∀ z ∈ zs, small z.2 ∧ z.1 < 2 ^ 63) → (putAll zs (encE lo hi w l)).2 = 0 →
    ∃ (lo' hi' : Int) (w' : Nat) (l' : List Bool), putAll zs (encE lo hi w l) = (encE lo' hi' w' l', 0) ∧ atWork lo' hi' w' l' ∧ l.length + w ≤ l'.length + w' ∧
      ∀ B : List Bool, B.length ≤ 65536 → l'.length + w' ≤ B.length → inside B lo' hi' w' l' → inside B lo hi w l ∧ ∀ acc, backS (zs.map (·.2)) (decD B lo hi w l) acc = (acc ++ zs.map (·.1), 0)
  | [], lo, hi, w, l, h, _, _ => ⟨lo, hi, w, l, rfl, h, Nat.le_refl _, fun B _ _ hin => ⟨hin, fun acc => by simp [backS]⟩⟩
  | (s, C) :: zs, lo, hi, w, l, h, hz, hp => by
    rw [putAll] at hp
    have hzC : small C := (hz (s, C) List.mem_cons_self).1
    have hzs : s < 2 ^ 63 := (hz (s, C) List.mem_cons_self).2
    have hp : (if (PutF (encE lo hi w l) C s).2 ≠ 0 then (zEnc, (PutF (encE lo hi w l) C s).2) else putAll zs (PutF (encE lo hi w l) C s).1).2 = 0 := hp
    have hz0 : (PutF (encE lo hi w l) C s).2 = 0 := by
      by_cases h0 : (PutF (encE lo hi w l) C s).2 = 0
      · exact h0
      · rw [if_pos h0] at hp; exact absurd hp h0
    rw [if_neg (by simp [hz0])] at hp
    obtain ⟨hsp, lo1, hi1, w1, l1, hW, hat, hput⟩ := put_zero (C := C) (s := s) h hzC hzs hz0
    rw [hput] at hp
    obtain ⟨lo', hi', w', l', e1, e2, e3, e4⟩ := run_back zs hat (fun z hz' => hz z (List.mem_cons_of_mem _ hz')) hp
    have h1 := h.lo0
    have h2 := h.hi1
    have hgl := h.good.1
    obtain ⟨_, t1, t2⟩ := totS_pos hsp.1
    obtain ⟨a0, a1, a2⟩ := span_ok hsp.1 hsp.2.1 hsp.2.2
    have hgw := good_wide h.good
    obtain ⟨f1, f2, f3, f4, f5, f6, f7⟩ := nar_facts (r := hi - lo + 1) (a := C.getD s.toNat 0) (b := C.getD (s.toNat + 1) 0) (t := totS C) (by omega) (by omega) a0 a1 a2 t1 t2
    have hL : narL lo hi (C.getD s.toNat 0) (totS C) = lo + (hi - lo + 1) * C.getD s.toNat 0 / totS C := rfl
    have hH : narH lo hi (C.getD (s.toNat + 1) 0) (totS C) = lo + (hi - lo + 1) * C.getD (s.toNat + 1) 0 / totS C - 1 := rfl
    have hroom : roomy 32 (narL lo hi (C.getD s.toNat 0) (totS C)) (narH lo hi (C.getD (s.toNat + 1) 0) (totS C)) := roomy_start (by rw [hL]; omega) (by rw [hL, hH]; omega) (by rw [hH]; omega)
    obtain ⟨b1, b2, b3, k, b4, _⟩ := widS_ok hroom hW
    refine ⟨lo', hi', w', l', ?_, e2, by omega, fun B hB hlen hin => ?_⟩
    · rw [putAll, if_neg (by simp [hz0]), hput]; exact e1
    · obtain ⟨g1, g2⟩ := e4 B hB hlen hin
      obtain ⟨⟨q1, q2⟩, q3⟩ := follow hroom hW g1
      have hs1 := hsp.2.1
      have hs2 := hsp.2.2
      have hsym : isSym C (findX lo hi (seen B w l) (totS C)) s.toNat := by
        obtain ⟨x1, x2⟩ := within_find (by omega) t1 q1 q2
        exact ⟨by omega, x1, x2⟩
      have hin2 : inside B lo hi w l := ⟨by rw [hL] at q1; omega, by rw [hH] at q2; omega⟩
      refine ⟨hin2, fun acc => ?_⟩
      have hnext : NextF (decD B lo hi w l) C = (decD B lo1 hi1 w1 l1, (((s.toNat : Nat) : Int), 0)) := by
        unfold decD
        rw [NextF_ok h1 h2 h.good hin2.1 hin2.2 hB (by omega) (by omega) hsp.1 hsym]
        have b5 := b1.1
        have g3 := g1.1
        have g4 := g1.2
        exact nextR_eq rfl q3 ⟨b2, by omega⟩ ⟨by omega, b3⟩ ⟨by omega, by omega⟩
      rw [List.map_cons, backS, hnext]
      simp only [ne_eq, not_true_eq_false, if_false]
      rw [g2]
      have : ((s.toNat : Nat) : Int) = s := by omega
      rw [this]
      simp
theorem atWork_begin : atWork 0 4294967295 0 [] := ⟨by decide, by decide, by decide, by decide, by decide⟩
theorem map_zip {l : List Int} {F : List (List Int)} (h : l.length = F.length) : (l.zip F).map (·.1) = l ∧ (l.zip F).map (·.2) = F := by
  constructor
  · exact List.map_fst_zip (by omega)
  · exact List.map_snd_zip (by omega)
/-- what All makes is had back, whatever stands behind -/
theorem all_back {l : List Int} {F : List (List Int)} (hC : ∀ C ∈ F, small C) (hs : ∀ s ∈ l, s < 2 ^ 63) (hz : (allF l F).2 = 0) :
    ∃ L : List Bool, allF l F = ((pk L, (L.length : Int)), 0) ∧ L.length ≤ 65536 ∧ ∀ T : List Bool, L.length + T.length ≤ 65536 → backF (pk (L ++ T), ((L ++ T).length : Int)) F = (l, 0) := by
  unfold allF at hz ⊢
  by_cases h : l.length = F.length
  · rw [if_neg (by omega)] at hz ⊢
    have hp : (putAll (l.zip F) eBegin).2 = 0 := by
      by_cases h0 : (putAll (l.zip F) eBegin).2 = 0
      · exact h0
      · rw [if_pos h0] at hz; exact absurd hz h0
    rw [if_neg (by simp [hp])] at hz ⊢
    have hb : eBegin = encE 0 4294967295 0 [] := rfl
    rw [hb] at hp hz ⊢
    have hmem : ∀ z ∈ l.zip F, small z.2 ∧ z.1 < 2 ^ 63 := fun z hz => ⟨hC _ (List.of_mem_zip hz).2, hs _ (List.of_mem_zip hz).1⟩
    obtain ⟨lo', hi', w', l', e1, e2, e3, e4⟩ := run_back (l.zip F) atWork_begin hmem hp
    rw [e1] at hz ⊢
    dsimp only at hz ⊢
    have he := EndF_ok e2.lo0 e2.hi1 e2.good e2.wait e2.len
    unfold encE at hz ⊢
    rw [he] at hz ⊢
    unfold outS at hz ⊢
    by_cases hlong : l'.length + (w' + 1) + 1 > 65536
    · rw [if_pos hlong] at hz; cases hz
    · rw [if_neg hlong]
      have hlen := outL_len l' (decide (1073741824 ≤ lo')) (w' + 1)
      refine ⟨outL l' (decide (1073741824 ≤ lo')) (w' + 1), by rw [hlen], by omega, fun T hT => ?_⟩
      have hBl : (outL l' (decide (1073741824 ≤ lo')) (w' + 1) ++ T).length = l'.length + (w' + 1) + 1 + T.length := by rw [List.length_append, hlen]
      obtain ⟨_, g2⟩ := e4 (outL l' (decide (1073741824 ≤ lo')) (w' + 1) ++ T) (by omega) (by omega) (end_inside e2.lo0 e2.hi1 e2.good)
      generalize outL l' (decide (1073741824 ≤ lo')) (w' + 1) ++ T = B at *
      have hBB : B.length ≤ 65536 := by omega
      have hst : StartF (pk B, (B.length : Int)) = (decD B 0 4294967295 0 [], 0) := by
        unfold StartF
        rw [coder_Start_ok hBB]
        unfold decD seen base
        simp [bval]
      unfold backF
      rw [hst, if_neg (by simp)]
      have := g2 []
      rw [(map_zip h).1, (map_zip h).2] at this
      simpa using this
  · rw [if_pos h] at hz; cases hz
theorem all_err {l : List Int} {F : List (List Int)} (hC : ∀ C ∈ F, small C) (hs : ∀ s ∈ l, s < 2 ^ 63) (hz : (allF l F).2 ≠ 0) : (allF l F).1.2 = 0 := by
  unfold allF at hz ⊢
  by_cases h : l.length = F.length
  · rw [if_neg (by omega)] at hz ⊢
    by_cases h0 : (putAll (l.zip F) eBegin).2 = 0
    · rw [if_neg (by simp [h0])] at hz ⊢
      have hb : eBegin = encE 0 4294967295 0 [] := rfl
      rw [hb] at h0 hz ⊢
      obtain ⟨lo', hi', w', l', e1, e2, _, _⟩ := run_back (l.zip F) atWork_begin (fun z hz => ⟨hC _ (List.of_mem_zip hz).2, hs _ (List.of_mem_zip hz).1⟩) h0
      rw [e1] at hz ⊢
      dsimp only at hz ⊢
      have he := EndF_ok e2.lo0 e2.hi1 e2.good e2.wait e2.len
      unfold encE at hz ⊢
      rw [he] at hz ⊢
      unfold outS at hz ⊢
      split
      · rfl
      · rename_i hh; rw [if_neg hh] at hz; exact absurd rfl hz
    · rw [if_pos h0]
  · rw [if_pos h]
theorem law_Back {l : List Int} {F : List (List Int)} {b : List Int × Int} (hl : small l) (hl2 : ∀ s ∈ l, s < 2 ^ 63) (hF : small F) (hC : ∀ C ∈ F, small C) (hb : bytes b.1) (hb2 : small b.1) : g_law04_CoderBack l F b = some true := by
  obtain ⟨B, N⟩ := b
  have hf := few_eq (N := N) hF hb2
  by_cases h : (∀ C ∈ F, C.length ≤ 400) ∧ B.length ≤ 9000 ∧ F.length ≤ 100
  · rw [decide_eq_true h] at hf
    have hf : g_law04_few (B, N) F = some true := hf
    have hF100 := h.2.2
    by_cases h2 : l.length > 100
    · simp (disch := omega) only [g_law04_CoderBack, live_eq, hf, Option.bind_some, Bool.not_true, cond_false, dT, cond_true]
    · have hc := bits_Check_eq (N := N) hb hb2
      unfold ck at hc
      by_cases ho : okB B N
      · rw [if_pos ho] at hc
        have hc : g_bits_Check (B, N) = some 0 := hc
        obtain ⟨T, rfl, rfl, hT⟩ := (okB_iff hb).1 ho
        have p1 := (All_same hl hF hC hl2).1
        by_cases hz : (allF l F).2 = 0
        · obtain ⟨L, hL, hLl, hback⟩ := all_back hC hl2 hz
          rw [hL] at p1
          have q1 := (Back_same (N := (L.length : Int)) (pk_bytes L) (small_pk hLl) (F := F) (by omega) hC).1
          have hb0 := hback [] (by simpa using hLl)
          rw [List.append_nil] at hb0
          rw [hb0] at q1
          have hEq := Equal_eq (a := l) (b := l) hl hl
          rw [decide_eq_true rfl] at hEq
          have hj := join_two hLl hT
          by_cases hlong : L.length + T.length > 65536
          · rw [if_pos hlong] at hj
            simp (disch := omega) only [g_law04_CoderBack, live_eq, hf, hc, Option.bind_some, Bool.not_true, cond_false, dF, bne_self_eq_false, p1, q1, hj, hEq, nT]
          · rw [if_neg hlong] at hj
            have q2 := (Back_same (N := ((L ++ T).length : Int)) (pk_bytes (L ++ T)) (small_pk (by rw [List.length_append]; omega)) (F := F) (by omega) hC).1
            rw [hback T (by omega), List.length_append] at q2
            simp (disch := omega) only [g_law04_CoderBack, live_eq, hf, hc, Option.bind_some, Bool.not_true, cond_false, dF, bne_self_eq_false, p1, q1, hj, hEq, q2, cond_true, beq_self_eq_true]
        · have hn := all_err hC hl2 hz
          generalize allF l F = y at p1 hz hn
          obtain ⟨⟨y1, y2⟩, y3⟩ := y
          have hn : y2 = 0 := hn
          subst hn
          have hz : y3 ≠ 0 := hz
          simp (disch := omega) only [g_law04_CoderBack, live_eq, hf, hc, Option.bind_some, Bool.not_true, cond_false, dF, bne_self_eq_false, p1, nT, cond_true, beq_self_eq_true]
      · rw [if_neg ho] at hc
        have hc : g_bits_Check (B, N) = some 1 := hc
        have e : ((1 : Int) != 0) = true := rfl
        simp (disch := omega) only [g_law04_CoderBack, live_eq, hf, hc, Option.bind_some, Bool.not_true, cond_false, dF, e, cond_true]
  · rw [decide_eq_false h] at hf
    have hf : g_law04_few (B, N) F = some false := hf
    simp only [g_law04_CoderBack, live_eq, hf, Option.bind_some, Bool.not_false, cond_true]
theorem pure_Back (x : denL [(false, .sl (.int .i64)), (false, .sl (.sl (.int .i64))), (true, BitsTy)]) (h : wfL _ x) : g_law04_CoderBack x.1 x.2.1 x.2.2 = some true :=
  law_Back (wf_ints h.1).1 (fun s hs => ((wf_ints h.1).2 s hs).2) (wf_tabs h.2.1).1 (wf_tabs h.2.1).2 (wf_bytes h.2.2.1).2 (wf_bytes h.2.2.1).1
end Go.Sq
/- The law CoderLong: what is out is no longer than what the symbols are worth. -/
namespace Go.Sq
open Go.Rx

/-- so many bits a symbol is worth, by its table -/
def worthS (s : Int) (C : List Int) (n : Nat) : Prop := totS C ≤ (C.getD (s.toNat + 1) 0 - C.getD s.toNat 0) * 2 ^ n ∧ n ≤ 14
def worthL : List (Int × List Int) → List Nat → Prop
  | [], [] => True
  | (s, C) :: zs, n :: ns => worthS s C n ∧ worthL zs ns
  | _, _ => False
def sumN : List Nat → Nat
  | [] => 0
  | n :: ns => n + sumN ns
theorem sumN_snoc : ∀ (ns : List Nat) (n : Nat), sumN (ns ++ [n]) = sumN ns + n
  | [], n => by simp [sumN]
  | m :: ns, n => by simp only [List.cons_append, sumN, sumN_snoc ns n]; omega
theorem worthL_snoc : ∀ {zs : List (Int × List Int)} {ns : List Nat} {s : Int} {C : List Int} {n : Nat}, worthL zs ns → worthS s C n → worthL (zs ++ [(s, C)]) (ns ++ [n])
  | [], [], s, C, n, _, h => ⟨h, trivial⟩
  | (s', C') :: zs, n' :: ns, s, C, n, h, h' => ⟨h.1, worthL_snoc h.2 h'⟩
  | [], _ :: _, _, _, _, h, _ => h.elim
  | _ :: _, [], _, _, _, h, _ => h.elim
theorem narrow_worth {lo hi a b t : Int} {n : Nat} (hR : 1073741824 ≤ hi - lo + 1) (ht : 1 ≤ t) (hw : t ≤ (b - a) * 2 ^ n) (hn : n ≤ 14) :
    (hi - lo + 1) * 65535 ≤ (narH lo hi b t - narL lo hi a t + 1) * (2 ^ n * 65536) := by
  have hp : (1 : Int) ≤ 2 ^ n := by have := Int.pow_pos (n := 2) (m := n) (by decide); omega
  have hp2 : (2 : Int) ^ n ≤ 16384 := by
    have h : (2 : Nat) ^ n ≤ 2 ^ 14 := Nat.pow_le_pow_right (by omega) hn
    have e : (2 : Int) ^ n = ((2 ^ n : Nat) : Int) := by simp
    rw [e]; omega
  generalize hRR : hi - lo + 1 = R at *
  have e : narH lo hi b t - narL lo hi a t + 1 = R * b / t - R * a / t := by unfold narH narL; rw [hRR]; omega
  rw [e]
  generalize (2 : Int) ^ n = P at *
  have g1 := Int.lt_ediv_add_one_mul_self (R * b) (show 0 < t by omega)
  have g2 := Int.ediv_mul_le (R * a) (show t ≠ 0 by omega)
  generalize R * b / t = x at *
  generalize R * a / t = y at *
  have g3 : R * (b - a) - t ≤ (x - y) * t := by
    rw [Int.sub_mul, Int.mul_sub]
    rw [Int.add_mul] at g1
    omega
  have g4 : (R * (b - a) - t) * P ≤ (x - y) * t * P := Int.mul_le_mul_of_nonneg_right g3 (by omega)
  have g5 : R * t ≤ R * ((b - a) * P) := Int.mul_le_mul_of_nonneg_left hw (by omega)
  have g6 : (R - P) * t ≤ (x - y) * P * t := by
    have e1 : (x - y) * t * P = (x - y) * P * t := by ac_rfl
    have e2 : (R * (b - a) - t) * P = R * ((b - a) * P) - P * t := by rw [Int.sub_mul, Int.mul_assoc, Int.mul_comm t P]
    rw [e1, e2] at g4
    rw [Int.sub_mul]; omega
  have g7 : R - P ≤ (x - y) * P := Int.le_of_mul_le_mul_right g6 (by omega)
  have e3 : (x - y) * (P * 65536) = (x - y) * P * 65536 := by ac_rfl
  rw [e3]
  omega
theorem run_long : ∀ (zs : List (Int × List Int)) (ns : List Nat) {lo hi : Int} {w : Nat} {l : List Bool}, atWork lo hi w l → (∀ z ∈ zs, small z.2 ∧ z.1 < 2 ^ 63) → (putAll zs (encE lo hi w l)).2 = 0 → worthL zs ns →
    ∃ (lo' hi' : Int) (w' : Nat) (l' : List Bool) (k : Nat), putAll zs (encE lo hi w l) = (encE lo' hi' w' l', 0) ∧ atWork lo' hi' w' l' ∧ l'.length + w' = l.length + w + k ∧
      (hi - lo + 1) * (2 ^ k * 65535 ^ zs.length) ≤ (hi' - lo' + 1) * (2 ^ sumN ns * 65536 ^ zs.length)
  | [], [], lo, hi, w, l, h, _, _, _ => ⟨lo, hi, w, l, 0, rfl, h, rfl, by simp [sumN]⟩
  | [], _ :: _, _, _, _, _, _, _, _, h => h.elim
  | (_, _) :: _, [], _, _, _, _, _, _, _, h => h.elim
  | (s, C) :: zs, n :: ns, lo, hi, w, l, h, hz, hp, hw => by
    rw [putAll] at hp
    have hzC : small C := (hz (s, C) List.mem_cons_self).1
    have hzs : s < 2 ^ 63 := (hz (s, C) List.mem_cons_self).2
    have hp : (if (PutF (encE lo hi w l) C s).2 ≠ 0 then (zEnc, (PutF (encE lo hi w l) C s).2) else putAll zs (PutF (encE lo hi w l) C s).1).2 = 0 := hp
    have hz0 : (PutF (encE lo hi w l) C s).2 = 0 := by
      by_cases h0 : (PutF (encE lo hi w l) C s).2 = 0
      · exact h0
      · rw [if_pos h0] at hp; exact absurd hp h0
    rw [if_neg (by simp [hz0])] at hp
    obtain ⟨hsp, lo1, hi1, w1, l1, hW, hat, hput⟩ := put_zero (C := C) (s := s) h hzC hzs hz0
    rw [hput] at hp
    obtain ⟨lo', hi', w', l', k', e1, e2, e3, e4⟩ := run_long zs ns hat (fun z hz' => hz z (List.mem_cons_of_mem _ hz')) hp hw.2
    have h1 := h.lo0
    have h2 := h.hi1
    have hgl := h.good.1
    obtain ⟨_, t1, t2⟩ := totS_pos hsp.1
    obtain ⟨a0, a1, a2⟩ := span_ok hsp.1 hsp.2.1 hsp.2.2
    have hgw := good_wide h.good
    obtain ⟨f1, f2, f3, f4, f5, f6, f7⟩ := nar_facts (r := hi - lo + 1) (a := C.getD s.toNat 0) (b := C.getD (s.toNat + 1) 0) (t := totS C) (by omega) (by omega) a0 a1 a2 t1 t2
    have hL : narL lo hi (C.getD s.toNat 0) (totS C) = lo + (hi - lo + 1) * C.getD s.toNat 0 / totS C := rfl
    have hH : narH lo hi (C.getD (s.toNat + 1) 0) (totS C) = lo + (hi - lo + 1) * C.getD (s.toNat + 1) 0 / totS C - 1 := rfl
    have hroom : roomy 32 (narL lo hi (C.getD s.toNat 0) (totS C)) (narH lo hi (C.getD (s.toNat + 1) 0) (totS C)) := roomy_start (by rw [hL]; omega) (by rw [hL, hH]; omega) (by rw [hH]; omega)
    obtain ⟨b1, b2, b3, k, b4, b5⟩ := widS_ok hroom hW
    have g := narrow_worth (lo := lo) (hi := hi) hgw t1 hw.1.1 hw.1.2
    refine ⟨lo', hi', w', l', k + k', ?_, e2, by omega, ?_⟩
    · rw [putAll, if_neg (by simp [hz0]), hput]; exact e1
    · rw [List.length_cons]
      generalize hr : narH lo hi (C.getD (s.toNat + 1) 0) (totS C) - narL lo hi (C.getD s.toNat 0) (totS C) + 1 = r at g b5
      rw [b5] at e4
      have q2 : (2 : Int) ^ (k + k') = 2 ^ k * 2 ^ k' := Int.pow_add 2 k k'
      have q3 : (2 : Int) ^ sumN (n :: ns) = 2 ^ n * 2 ^ sumN ns := Int.pow_add 2 n (sumN ns)
      rw [q2, q3, Int.pow_succ, Int.pow_succ]
      have hA : (0 : Int) ≤ 2 ^ k * 2 ^ k' * 65535 ^ zs.length := by
        have x1 := Int.pow_pos (n := 2) (m := k) (by decide)
        have x2 := Int.pow_pos (n := 2) (m := k') (by decide)
        have x3 := Int.pow_pos (n := 65535) (m := zs.length) (by decide)
        exact Int.mul_nonneg (Int.mul_nonneg (by omega) (by omega)) (by omega)
      have s1 := Int.mul_le_mul_of_nonneg_right g hA
      have hB : (0 : Int) ≤ 2 ^ n * 65536 := by
        have x1 := Int.pow_pos (n := 2) (m := n) (by decide)
        omega
      have s2 := Int.mul_le_mul_of_nonneg_right e4 hB
      have u1 : (hi - lo + 1) * (2 ^ k * 2 ^ k' * (65535 ^ zs.length * 65535)) = (hi - lo + 1) * 65535 * (2 ^ k * 2 ^ k' * 65535 ^ zs.length) := by ac_rfl
      have u2 : r * (2 ^ n * 65536) * (2 ^ k * 2 ^ k' * 65535 ^ zs.length) = r * 2 ^ k * (2 ^ k' * 65535 ^ zs.length) * (2 ^ n * 65536) := by ac_rfl
      have u3 : (hi' - lo' + 1) * (2 ^ n * 2 ^ sumN ns * (65536 ^ zs.length * 65536)) = (hi' - lo' + 1) * (2 ^ sumN ns * 65536 ^ zs.length) * (2 ^ n * 65536) := by ac_rfl
      rw [u1, u3]
      rw [u2] at s1
      exact Int.le_trans s1 s2
theorem bernoulli : ∀ m : Nat, (65536 : Int) ^ m * (65536 - m) ≤ 65535 ^ m * 65536
  | 0 => by simp
  | m + 1 => by
    have ih := bernoulli m
    have hp := Int.pow_pos (n := 65536) (m := m) (by decide)
    have h1 := Int.mul_le_mul_of_nonneg_right ih (show (0 : Int) ≤ 65535 by decide)
    rw [Int.pow_succ, Int.pow_succ]
    have e1 : (65535 : Int) ^ m * 65535 * 65536 = 65535 ^ m * 65536 * 65535 := by ac_rfl
    rw [e1]
    refine Int.le_trans ?_ h1
    have e2 : (65536 : Int) ^ m * 65536 * (65536 - ((m + 1 : Nat) : Int)) = 65536 ^ m * (65536 * (65536 - ((m + 1 : Nat) : Int))) := Int.mul_assoc _ _ _
    have e3 : (65536 : Int) ^ m * (65536 - (m : Int)) * 65535 = 65536 ^ m * ((65536 - (m : Int)) * 65535) := Int.mul_assoc _ _ _
    rw [e2, e3]
    apply Int.mul_le_mul_of_nonneg_left _ (by omega)
    omega
/-- the doublings are no more than what was worth -/
theorem long_bound {R : Int} {S K m : Nat} (hR : R ≤ 4294967296) (hm : m ≤ 100) (h : 4294967296 * (2 ^ K * 65535 ^ m) ≤ R * (2 ^ S * 65536 ^ m)) : K ≤ S := by
  refine Nat.le_of_not_lt fun hlt => ?_
  obtain ⟨j, rfl⟩ : ∃ j, K = S + 1 + j := ⟨K - S - 1, by omega⟩
  have p1 := Int.pow_pos (n := 2) (m := S) (by decide)
  have p2 := Int.pow_pos (n := 2) (m := j) (by decide)
  have p3 := Int.pow_pos (n := 65535) (m := m) (by decide)
  have p4 := Int.pow_pos (n := 65536) (m := m) (by decide)
  have hb := bernoulli m
  have e1 : (2 : Int) ^ (S + 1 + j) = 2 ^ S * 2 * 2 ^ j := by rw [Int.pow_add, Int.pow_succ]
  rw [e1] at h
  have q1 : R * (2 ^ S * 65536 ^ m) ≤ 4294967296 * (2 ^ S * 65536 ^ m) := Int.mul_le_mul_of_nonneg_right hR (Int.mul_nonneg (by omega) (by omega))
  have q2 := Int.le_trans h q1
  have q3 : (2 : Int) ^ S * 2 * 2 ^ j * 65535 ^ m ≤ 2 ^ S * 65536 ^ m := by omega
  have e2 : (2 : Int) ^ S * 2 * 2 ^ j * 65535 ^ m = 2 * 2 ^ j * 65535 ^ m * 2 ^ S := by ac_rfl
  have e3 : (2 : Int) ^ S * 65536 ^ m = 65536 ^ m * 2 ^ S := Int.mul_comm _ _
  rw [e2, e3] at q3
  have q4 := Int.le_of_mul_le_mul_right q3 p1
  have q5 : (1 : Int) * (2 * 65535 ^ m) ≤ 2 ^ j * (2 * 65535 ^ m) := Int.mul_le_mul_of_nonneg_right (by omega) (by omega)
  have e4 : (2 : Int) * 2 ^ j * 65535 ^ m = 2 ^ j * (2 * 65535 ^ m) := by ac_rfl
  rw [e4] at q4
  have q6 : (65536 : Int) ^ m * 65436 ≤ 65536 ^ m * (65536 - m) := Int.mul_le_mul_of_nonneg_left (by omega) (by omega)
  omega

theorem shl_i64 {d : Int} {n : Nat} (h0 : 0 ≤ d) (h1 : d ≤ 16384) (hn : n ≤ 14) : shlI .i64 d (n : Int) = d * 2 ^ n := by
  have h : (2 : Nat) ^ n ≤ 2 ^ 14 := Nat.pow_le_pow_right (by omega) hn
  have e : (2 : Int) ^ n = ((2 ^ n : Nat) : Int) := by simp
  have hp := Nat.two_pow_pos n
  have h2 : d * 2 ^ n ≤ 16384 * 16384 := by
    rw [e]
    exact Int.mul_le_mul h1 (by omega) (by omega) (by omega)
  have h3 : 0 ≤ d * 2 ^ n := Int.mul_nonneg h0 (by rw [e]; omega)
  have hm : min (n : Int).toNat IntKind.i64.bits = n := by simp only [Int.toNat_natCast, IntKind.bits]; omega
  unfold shlI
  rw [hm, wrap_i64 (by omega) (by omega)]
theorem long_loop1 {F : List (List Int)} {u : Bool} {wt : Int} {i : Nat} {s : Int} {l : List Int} {len i2 : Int} {b : List Int × Int} (hi : i < F.length) (ho : okSpan (F.getD i []) s) :
    ∃ n : Nat, iter g_law04_CoderLong_r1 (F, u, wt, (i : Int), (F.getD i []).getD s.toNat 0, (F.getD i []).getD (s.toNat + 1) 0, 0, l, len, i2, b, ()) = some (F, u, wt, (n : Int), l, len, i2, b, ()) ∧ worthS s (F.getD i []) n := by
  obtain ⟨b1, b2⟩ := b
  generalize hC : F.getD i [] = C at *
  obtain ⟨_, t1, t2⟩ := totS_pos ho.1
  obtain ⟨a0, a1, a2⟩ := span_ok ho.1 ho.2.1 ho.2.2
  have hsm : small C := by have := ho.1.2.1; unfold small; omega
  have ht := freq_Total_eq hsm
  obtain ⟨r, h1, n, h2, h3⟩ := iter_ex (f := g_law04_CoderLong_r1) (fun x => (15 - x.2.2.2.2.2.2.1).toNat)
    (fun x => ∃ n : Nat, x = (F, u, wt, (i : Int), C.getD s.toNat 0, C.getD (s.toNat + 1) 0, (n : Int), l, len, i2, (b1, b2), ()) ∧ n ≤ 14)
    (fun r => ∃ n : Nat, r = (F, u, wt, (n : Int), l, len, i2, (b1, b2), ()) ∧ worthS s C n) (by
      rintro x ⟨n, rfl, h1⟩
      have hs := shl_i64 (d := C.getD (s.toNat + 1) 0 - C.getD s.toNat 0) (n := n) (by omega) (by omega) h1
      by_cases h2 : (C.getD (s.toNat + 1) 0 - C.getD s.toNat 0) * 2 ^ n < totS C
      · left
        have h14 : n < 14 := by
          rcases Nat.lt_or_ge n 14 with h | h
          · exact h
          · have : n = 14 := by omega
            subst this
            have : (2 : Int) ^ 14 = 16384 := by decide
            omega
        refine ⟨(F, u, wt, (i : Int), C.getD s.toNat 0, C.getD (s.toNat + 1) 0, ((n + 1 : Nat) : Int), l, len, i2, (b1, b2), ()), ?_, ⟨n + 1, rfl, by omega⟩, by simp only; omega⟩
        simp (disch := omega) only [g_law04_CoderLong_r1, dT, wT, wrap_u64, wrap_i64, Int.toNat_natCast, hC, ht, Option.bind_some, hs]
        rfl
      · right
        refine ⟨_, ?_, n, rfl, by omega, h1⟩
        simp (disch := omega) only [g_law04_CoderLong_r1, dT, dF, wT, wrap_u64, wrap_i64, Int.toNat_natCast, hC, ht, Option.bind_some, hs])
    (F, u, wt, (i : Int), C.getD s.toNat 0, C.getD (s.toNat + 1) 0, 0, l, len, i2, (b1, b2), ()) ⟨0, rfl, by omega⟩
  exact ⟨n, by rw [h1, h2], h3⟩
/-- every symbol was one of its table -/
theorem run_spans : ∀ (zs : List (Int × List Int)) {lo hi : Int} {w : Nat} {l : List Bool}, atWork lo hi w l → (∀ z ∈ zs, small z.2 ∧ z.1 < 2 ^ 63) → (putAll zs (encE lo hi w l)).2 = 0 → ∀ z ∈ zs, okSpan z.2 z.1
  | [], _, _, _, _, _, _, _ => fun z hz => nomatch hz
  | (s, C) :: zs, lo, hi, w, l, h, hz, hp => by
    rw [putAll] at hp
    have hzC : small C := (hz (s, C) List.mem_cons_self).1
    have hzs : s < 2 ^ 63 := (hz (s, C) List.mem_cons_self).2
    have hp : (if (PutF (encE lo hi w l) C s).2 ≠ 0 then (zEnc, (PutF (encE lo hi w l) C s).2) else putAll zs (PutF (encE lo hi w l) C s).1).2 = 0 := hp
    have hz0 : (PutF (encE lo hi w l) C s).2 = 0 := by
      by_cases h0 : (PutF (encE lo hi w l) C s).2 = 0
      · exact h0
      · rw [if_pos h0] at hp; exact absurd hp h0
    rw [if_neg (by simp [hz0])] at hp
    obtain ⟨hsp, lo1, hi1, w1, l1, hW, hat, hput⟩ := put_zero (C := C) (s := s) h hzC hzs hz0
    rw [hput] at hp
    intro z hmem
    rcases List.mem_cons.1 hmem with rfl | hmem
    · exact hsp
    · exact run_spans zs hat (fun z hz' => hz z (List.mem_cons_of_mem _ hz')) hp z hmem
theorem law_Long {l : List Int} {F : List (List Int)} (hl : small l) (hl2 : ∀ s ∈ l, s < 2 ^ 63) (hF : small F) (hC : ∀ C ∈ F, small C) : g_law04_CoderLong l F = some true := by
  have hf := few_eq (B := []) (N := 0) hF (by simp [small])
  by_cases h : (∀ C ∈ F, C.length ≤ 400) ∧ ([] : List Int).length ≤ 9000 ∧ F.length ≤ 100
  · rw [decide_eq_true h] at hf
    have hf : g_law04_few ([], 0) F = some true := hf
    have hF100 := h.2.2
    by_cases h2 : l.length > 100
    · simp (disch := omega) only [g_law04_CoderLong, live_eq, hf, Option.bind_some, Bool.not_true, cond_false, dT]
    · have p1 := (All_same hl hF hC hl2).1
      by_cases hz : (allF l F).2 = 0
      · -- the run
        have hz' := hz
        unfold allF at hz
        have hlen : l.length = F.length := by
          by_cases h0 : l.length = F.length
          · exact h0
          · rw [if_pos h0] at hz; cases hz
        rw [if_neg (by omega)] at hz
        have hb : eBegin = encE 0 4294967295 0 [] := rfl
        rw [hb] at hz
        have hp : (putAll (l.zip F) (encE 0 4294967295 0 [])).2 = 0 := by
          by_cases h0 : (putAll (l.zip F) (encE 0 4294967295 0 [])).2 = 0
          · exact h0
          · rw [if_pos h0] at hz; exact absurd hz h0
        have hmem : ∀ z ∈ l.zip F, small z.2 ∧ z.1 < 2 ^ 63 := fun z hz => ⟨hC _ (List.of_mem_zip hz).2, hl2 _ (List.of_mem_zip hz).1⟩
        have hspans := run_spans (l.zip F) atWork_begin hmem hp
        have hspan : ∀ i, i < l.length → okSpan (F.getD i []) (l.getD i 0) := fun i hi => by
          have : (l.getD i 0, F.getD i []) ∈ l.zip F := by
            have := zip_drop hlen hi
            exact List.mem_of_mem_drop (i := i) (by rw [this]; exact List.mem_cons_self)
          exact hspans _ this
        obtain ⟨B, hB, hBl, hBlen⟩ : ∃ (B : List Bool), allF l F = ((pk B, (B.length : Int)), 0) ∧ B.length ≤ 65536 ∧ ∀ ns, worthL (l.zip F) ns → B.length ≤ sumN ns + 2 := by
          unfold allF
          rw [if_neg (by omega), hb, if_neg (by simp [hp])]
          obtain ⟨lo', hi', w', l', e1, e2, _, _⟩ := run_back (l.zip F) atWork_begin hmem hp
          rw [if_neg (by simp [hp]), e1] at hz
          rw [e1]
          dsimp only at hz ⊢
          have he := EndF_ok e2.lo0 e2.hi1 e2.good e2.wait e2.len
          unfold encE at hz ⊢
          rw [he] at hz ⊢
          unfold outS at hz ⊢
          by_cases hlong : l'.length + (w' + 1) + 1 > 65536
          · rw [if_pos hlong] at hz; cases hz
          · rw [if_neg hlong]
            have hol := outL_len l' (decide (1073741824 ≤ lo')) (w' + 1)
            refine ⟨outL l' (decide (1073741824 ≤ lo')) (w' + 1), by rw [hol], by omega, fun ns hns => ?_⟩
            obtain ⟨lo2, hi2, w2, l2, k, q1, q2, q3, q4⟩ := run_long (l.zip F) ns atWork_begin hmem hp hns
            have q1 : (encE lo' hi' w' l', (0 : Int)) = (encE lo2 hi2 w2 l2, 0) := by rw [← e1, ← q1]
            have q5 : lo' = lo2 := congrArg (fun z => z.1.1) q1
            have q6 : hi' = hi2 := congrArg (fun z => z.1.2.1) q1
            have q7 : (w' : Int) = (w2 : Int) := congrArg (fun z => z.1.2.2.1) q1
            have q8 : ((l'.length : Nat) : Int) = ((l2.length : Nat) : Int) := congrArg (fun z => z.1.2.2.2.2) q1
            have q2a := q2.lo0
            have q2b := q2.hi1
            have hm : (l.zip F).length ≤ 100 := by rw [List.length_zip]; omega
            have hk := long_bound (R := hi2 - lo2 + 1) (by omega) hm (by
              have : (4294967295 - 0 + 1 : Int) = 4294967296 := by decide
              rw [this] at q4; exact q4)
            simp only [List.length_nil] at q3
            omega
        rw [hB] at p1
        have loop : ∃ ns, iter g_law04_CoderLong_r2 (F, true, 2, l, (l.length : Int), 0, (pk B, (B.length : Int)), ()) = some (.inl (true, 2 + ((sumN ns + l.length : Nat) : Int), (pk B, (B.length : Int)), ())) ∧ worthL (l.zip F) ns := by
          obtain ⟨r, h1, ns, h2, h3⟩ := iter_ex (f := g_law04_CoderLong_r2) (fun x => ((l.length : Int) - x.2.2.2.2.2.1).toNat)
            (fun x => ∃ (i : Nat) (ns : List Nat), x = (F, true, 2 + ((sumN ns + i : Nat) : Int), l, (l.length : Int), (i : Int), (pk B, (B.length : Int)), ()) ∧ i ≤ l.length ∧ worthL ((l.zip F).take i) ns ∧ sumN ns ≤ 14 * i)
            (fun r => ∃ ns, r = (.inl (true, 2 + ((sumN ns + l.length : Nat) : Int), (pk B, (B.length : Int)), ()) : (Bool × Int × (List Int × Int) × Unit) ⊕ (Bool × Unit)) ∧ worthL (l.zip F) ns) (by
              rintro x ⟨i, ns, rfl, h1, h2, h3⟩
              by_cases h4 : i < l.length
              · left
                have ho := hspan i h4
                obtain ⟨n, hn, hw⟩ := long_loop1 (F := F) (u := true) (wt := 2 + ((sumN ns + i : Nat) : Int)) (i := i) (s := l.getD i 0) (l := l) (len := (l.length : Int)) (i2 := (i : Int)) (b := (pk B, (B.length : Int))) (by omega) ho
                have hsp := freq_Span_eq (s := l.getD i 0) (hC _ (mem_get (i := i) (by omega))) (hl2 _ (mem_getI h4))
                unfold spanS at hsp
                rw [if_pos (show okF (F.getD i []) ∧ 0 ≤ l.getD i 0 ∧ l.getD i 0 + 2 ≤ (F.getD i []).length from ho)] at hsp
                have hn14 := hw.2
                refine ⟨(F, true, 2 + ((sumN (ns ++ [n]) + (i + 1) : Nat) : Int), l, (l.length : Int), ((i + 1 : Nat) : Int), (pk B, (B.length : Int)), ()), ?_, ⟨i + 1, ns ++ [n], rfl, h4, ?_, by rw [sumN_snoc]; omega⟩, by simp only; omega⟩
                · simp (disch := omega) only [g_law04_CoderLong_r2, dT, wT, Int.toNat_natCast, hsp, Option.bind_some, nF, hn, wrap_i64]
                  rw [show 2 + ((sumN ns + i : Nat) : Int) + ((n : Int) + 1) = 2 + ((sumN (ns ++ [n]) + (i + 1) : Nat) : Int) from by rw [sumN_snoc]; omega]
                  rfl
                · have : (l.zip F).take (i + 1) = (l.zip F).take i ++ [(l.getD i 0, F.getD i [])] := by
                    have hd := zip_drop hlen h4
                    have h5 := List.take_append_drop i (l.zip F)
                    rw [hd] at h5
                    have h6 : (l.zip F).take (i + 1) = ((l.zip F).take i ++ (l.getD i 0, F.getD i []) :: (l.zip F).drop (i + 1)).take (i + 1) := by rw [h5]
                    have h7 : ((l.zip F).take i).length = i := by rw [List.length_take, List.length_zip]; omega
                    rw [h6, List.take_append, h7, List.take_of_length_le (by omega), show i + 1 - i = 1 from by omega]
                    rfl
                  rw [this]
                  exact worthL_snoc h2 hw
              · right
                have hi : i = l.length := by omega
                subst hi
                rw [List.take_of_length_le (by rw [List.length_zip]; omega)] at h2
                refine ⟨_, ?_, ns, rfl, h2⟩
                simp (disch := omega) only [g_law04_CoderLong_r2, dF]) (F, true, 2, l, (l.length : Int), 0, (pk B, (B.length : Int)), ()) ⟨0, [], by simp [sumN], Nat.zero_le _, trivial, by simp [sumN]⟩
          exact ⟨ns, by rw [h1, h2], h3⟩
        obtain ⟨ns, l1, l2⟩ := loop
        have hbound := hBlen ns l2
        have hdec : decide ((B.length : Int) ≤ 2 + ((sumN ns + l.length : Nat) : Int)) = true := decide_eq_true (by omega)
        simp (disch := omega) only [g_law04_CoderLong, live_eq, hf, Option.bind_some, Bool.not_true, cond_false, dF, p1, nF, l1, cond_true, hdec]
      · generalize allF l F = y at p1 hz
        obtain ⟨⟨y1, y2⟩, y3⟩ := y
        have hz : y3 ≠ 0 := hz
        simp (disch := omega) only [g_law04_CoderLong, live_eq, hf, Option.bind_some, Bool.not_true, cond_false, dF, p1, nT]
  · rw [decide_eq_false h] at hf
    have hf : g_law04_few ([], 0) F = some false := hf
    simp only [g_law04_CoderLong, live_eq, hf, Option.bind_some, Bool.not_false, cond_true]
theorem pure_Long (x : denL [(false, .sl (.int .i64)), (false, .sl (.sl (.int .i64)))]) (h : wfL _ x) : g_law04_CoderLong x.1 x.2 = some true :=
  law_Long (wf_ints h.1).1 (fun s hs => ((wf_ints h.1).2 s hs).2) (wf_tabs h.2).1 (wf_tabs h.2).2
end Go.Sq
