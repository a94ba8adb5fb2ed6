/- Parts of a proof: evaluation of Go code over typed values, and what it computes. -/
import Derived.Test.YtdjhfpaeejpebaaL1
set_option linter.unusedSimpArgs false
set_option linter.unusedVariables false
set_option linter.unusedSectionVars false
/- The coder: bits that go out. -/
namespace Go.Sq
open Go.Rx

theorem bn_false (k : Nat) : bn 0 k = List.replicate k false := by
  apply ext_getDb
  · simp [bn_len]
  · intro i hi
    rw [bn_len] at hi
    rw [bn_get, Nat.zero_testBit, Bool.and_false, List.getD_eq_getElem?_getD, List.getElem?_replicate, if_pos hi]; rfl
theorem bn_true (k : Nat) : bn (2 ^ k - 1) k = List.replicate k true := by
  apply ext_getDb
  · simp [bn_len]
  · intro i hi
    rw [bn_len] at hi
    have h : k - 1 - i < k := by omega
    rw [bn_get, Nat.testBit_two_pow_sub_one, List.getD_eq_getElem?_getD, List.getElem?_replicate, if_pos hi]
    simp [hi, h]
theorem bn_bool (b : Bool) : bn b.toNat 1 = [b] := by cases b <;> rfl
/-- a bit, and those that wait -/
def outL (l : List Bool) (b : Bool) (n : Nat) : List Bool := l ++ b :: List.replicate n (!b)
theorem outL_len (l : List Bool) (b : Bool) (n : Nat) : (outL l b n).length = l.length + n + 1 := by simp [outL]; omega
noncomputable def outS (l : List Bool) (b : Bool) (n : Nat) : (List Int × Int) × Int :=
  if l.length + n + 1 > 65536 then (([], 0), 2) else ((pk (outL l b n), ((l.length + n + 1 : Nat) : Int)), 0)
theorem putS_one {l : List Bool} {b : Bool} : putS l b.toNat 1 = if l.length + 1 > 65536 then (([], 0), 2) else ((pk (l ++ [b]), ((l.length + 1 : Nat) : Int)), 0) := by
  unfold putS; rw [bn_bool]
theorem bool_lt (b : Bool) : b.toNat < 2 := by cases b <;> decide
theorem not_toNat (b : Bool) : (1 : Int) - ((b.toNat : Nat) : Int) = (((!b).toNat : Nat) : Int) := by cases b <;> rfl
theorem r04_out_eq {l : List Bool} {b : Bool} {n : Nat} (hl : l.length ≤ 65536) (hn : n < 2 ^ 40) : g_r04_out (pk l, l.length) b.toNat n = some (outS l b n) := by
  have hb := bool_lt b
  have hb2 := bool_lt (!b)
  have e0 := r01_Put_eq (l := l) (v := b.toNat) (w := 1) hl (by omega) (by omega)
  rw [putS_one] at e0
  have nb := not_toNat b
  unfold outS
  by_cases h0 : l.length + 1 > 65536
  · rw [if_pos h0] at e0
    rw [if_pos (by omega)]
    have e0' : g_r01_Put (pk l, (l.length : Int)) ((b.toNat : Nat) : Int) 1 = some (([], 0), 2) := e0
    have : iter g_r04_out_r1 ((b.toNat : Int), (n : Int), 2, ([], 0), ([], 0), ()) = some (2, ([], 0), ([], 0), ()) := by
      apply iter_inr
      by_cases hz : 0 < n
      · simp (disch := omega) only [g_r04_out_r1, dT, Option.bind_some]; rfl
      · simp (disch := omega) only [g_r04_out_r1, dF, Option.bind_some, cond_false]
    simp only [g_r04_out, e0', Option.bind_some, this]
  · rw [if_neg h0] at e0
    have e0' : g_r01_Put (pk l, (l.length : Int)) ((b.toNat : Nat) : Int) 1 = some ((pk (l ++ [b]), ((l.length + 1 : Nat) : Int)), 0) := e0
    have loop : ∃ r, iter g_r04_out_r1 ((b.toNat : Int), (n : Int), 0, (pk (l ++ [b]), ((l.length + 1 : Nat) : Int)), ([], 0), ()) = some r ∧
        r = (if l.length + n + 1 > 65536 then (2, ([], 0), ([], 0), ()) else (0, (pk (outL l b n), ((l.length + n + 1 : Nat) : Int)), ([], 0), ())) := by
      refine iter_ex (fun x => (x.2.1 + 1 - x.2.2.1).toNat) (fun x => (∃ (i : Nat) (m : List Bool), x = ((b.toNat : Int), (i : Int), 0, (pk m, (m.length : Int)), ([], 0), ()) ∧ m.length ≤ 65536 ∧ m ++ List.replicate i (!b) = outL l b n) ∨
          (∃ i : Int, x = ((b.toNat : Int), i, 2, ([], 0), ([], 0), ()) ∧ l.length + n + 1 > 65536))
        (fun r => r = (if l.length + n + 1 > 65536 then (2, ([], 0), ([], 0), ()) else (0, (pk (outL l b n), ((l.length + n + 1 : Nat) : Int)), ([], 0), ()))) ?_ _
        (.inl ⟨n, l ++ [b], by simp, by simp; omega, by simp [outL]⟩)
      rintro x (⟨i, m, rfl, h1, h2⟩ | ⟨i, rfl, h1⟩)
      · have hlen : m.length + i = l.length + n + 1 := by have := congrArg List.length h2; rw [outL_len] at this; simpa using this
        rcases Nat.eq_zero_or_pos i with rfl | hi
        · right
          refine ⟨_, ?_, rfl⟩
          have : m = outL l b n := by simpa using h2
          rw [if_neg (by omega), ← this, show ((l.length + n + 1 : Nat) : Int) = (m.length : Int) from by omega]
          simp (disch := omega) only [g_r04_out_r1, dF, Option.bind_some, cond_false]
        · left
          have e1 := r01_Put_eq (l := m) (v := (!b).toNat) (w := 1) h1 (by omega) (by omega)
          rw [putS_one] at e1
          by_cases h3 : m.length + 1 > 65536
          · rw [if_pos h3] at e1
            have e1' : g_r01_Put (pk m, (m.length : Int)) (((!b).toNat : Nat) : Int) 1 = some (([], 0), 2) := e1
            refine ⟨((b.toNat : Int), (i : Int) - 1, 2, ([], 0), ([], 0), ()), ?_, .inr ⟨_, rfl, by omega⟩, by simp only; omega⟩
            simp (disch := omega) only [g_r04_out_r1, dT, eT, Option.bind_some, nb, wrap_u64, wrap_i64, e1']
          · rw [if_neg h3] at e1
            have e1' : g_r01_Put (pk m, (m.length : Int)) (((!b).toNat : Nat) : Int) 1 = some ((pk (m ++ [!b]), ((m.length + 1 : Nat) : Int)), 0) := e1
            refine ⟨((b.toNat : Int), ((i - 1 : Nat) : Int), 0, (pk (m ++ [!b]), ((m ++ [!b]).length : Int)), ([], 0), ()), ?_, .inl ⟨i - 1, m ++ [!b], rfl, by simp; omega, ?_⟩, by simp only; omega⟩
            · simp (disch := omega) only [g_r04_out_r1, dT, eT, Option.bind_some, nb, wrap_u64, wrap_i64, e1']
              rw [show (i : Int) - 1 = ((i - 1 : Nat) : Int) from by omega]
              simp
            · rw [← h2]
              obtain ⟨j, rfl⟩ : ∃ j, i = j + 1 := ⟨i - 1, by omega⟩
              simp [List.replicate_succ]
      · right
        refine ⟨_, ?_, rfl⟩
        rw [if_pos h1]
        by_cases hi : 0 < i
        · simp (disch := omega) only [g_r04_out_r1, dT, Option.bind_some]; rfl
        · simp (disch := omega) only [g_r04_out_r1, dF, Option.bind_some, cond_false]
    obtain ⟨r, h1, h2⟩ := loop
    simp only [g_r04_out, e0', Option.bind_some, h1, h2]
    split <;> rfl

/-- the program's rounds, of up to 32 bits each -/
theorem emit_loop {b : Bool} {n : Nat} {l : List Bool} {x y wt : Int} (hn : l.length + n ≤ 65536) :
    iter g_coder_Put_r1 ((b.toNat : Int), (n : Int), ((x, y), (wt, ((pk l, (l.length : Int)), 0))), ()) = some ((b.toNat : Int), ((x, y), (wt, ((pk (l ++ List.replicate n (!b)), ((l.length + n : Nat) : Int)), 0))), ()) := by
  have hb := bool_lt b
  have hb2 := bool_lt (!b)
  have nb := not_toNat b
  have loop : ∃ r, iter g_coder_Put_r1 ((b.toNat : Int), (n : Int), ((x, y), (wt, ((pk l, (l.length : Int)), 0))), ()) = some r ∧ r = ((b.toNat : Int), ((x, y), (wt, ((pk (l ++ List.replicate n (!b)), ((l.length + n : Nat) : Int)), 0))), ()) := by
    refine iter_ex (fun s => s.2.1.toNat) (fun s => ∃ (i : Int) (m : List Bool), s = ((b.toNat : Int), i, ((x, y), (wt, ((pk m, (m.length : Int)), 0))), ()) ∧ i ≤ 65536 ∧ m ++ List.replicate i.toNat (!b) = l ++ List.replicate n (!b))
      (fun r => r = ((b.toNat : Int), ((x, y), (wt, ((pk (l ++ List.replicate n (!b)), ((l.length + n : Nat) : Int)), 0))), ())) ?_ _ ⟨n, l, rfl, by omega, by simp⟩
    rintro s ⟨i, m, rfl, h1, h2⟩
    have hlen : m.length + i.toNat = l.length + n := by have := congrArg List.length h2; simpa using this
    by_cases hi : 0 < i
    · left
      obtain ⟨k, hk⟩ : ∃ k : Nat, (k : Int) = if 32 < i then 32 else i := ⟨(if 32 < i then 32 else i).toNat, by split <;> omega⟩
      have hk1 : 0 < k ∧ k ≤ 32 ∧ (k : Int) ≤ i ∧ (i - 32).toNat = i.toNat - k := by split at hk <;> omega
      have hpow : 2 ^ k ≤ 2 ^ 32 := Nat.pow_le_pow_right (by omega) (by omega)
      have hpos := Nat.two_pow_pos k
      have e2 := shl_one (k := k) (by omega)
      obtain ⟨v, hv⟩ : ∃ v : Nat, v = (!b).toNat * (2 ^ k - 1) := ⟨_, rfl⟩
      have hvlt : v < 2 ^ k := by
        rw [hv]
        cases b
        · show 1 * (2 ^ k - 1) < 2 ^ k; omega
        · show 0 * (2 ^ k - 1) < 2 ^ k; omega
      have hbn : bn v k = List.replicate k (!b) := by
        rw [hv]
        cases b
        · simp [bn_true]
        · simp [bn_false]
      have e3 : (((!b).toNat : Nat) : Int) * (((2 ^ k : Nat) : Int) - 1) = (v : Int) := by
        rw [hv, show ((2 ^ k : Nat) : Int) - 1 = ((2 ^ k - 1 : Nat) : Int) from by omega, Int.natCast_mul]
      have e4 := bits_Put_eq (l := m) (v := v) (w := k) (by omega) hvlt (by omega)
      unfold putS at e4
      rw [if_neg (by omega), hbn] at e4
      refine ⟨((b.toNat : Int), i - 32, ((x, y), (wt, ((pk (m ++ List.replicate k (!b)), ((m ++ List.replicate k (!b)).length : Int)), 0))), ()), ?_, ⟨i - 32, m ++ List.replicate k (!b), rfl, by omega, ?_⟩, by simp only; omega⟩
      · generalize 2 ^ k = y4 at e2 e3 hpow hpos hvlt
        simp (disch := omega) only [g_coder_Put_r1, dT, eT, Option.bind_some, ← hk, nb, wrap_u64, wrap_i64, e2, e3, e4]
        simp
      · rw [← h2, hk1.2.2.2, List.append_assoc, List.replicate_append_replicate]
        congr 2; omega
    · right
      refine ⟨_, ?_, rfl⟩
      have h0 : i.toNat = 0 := by omega
      rw [h0] at h2
      have hm : m = l ++ List.replicate n (!b) := by simpa using h2
      rw [← hm, show ((l.length + n : Nat) : Int) = (m.length : Int) from by omega]
      simp (disch := omega) only [g_coder_Put_r1, dF, Option.bind_some, cond_false]
  obtain ⟨r, h1, h2⟩ := loop
  rw [h1, h2]
end Go.Sq
/- The coder: an interval is widened. -/
namespace Go.Sq
open Go.Rx

/-- widening: the interval, what waits, what is out; none: it is too long -/
def widS : Nat → Int → Int → Nat → List Bool → Option (Int × Int × Nat × List Bool)
  | 0, _, _, _, _ => none
  | n + 1, lo, hi, w, l =>
    if hi < 2147483648 then (if l.length + w + 1 > 65536 then none else widS n (2 * lo) (2 * hi + 1) 0 (outL l false w))
    else if lo ≥ 2147483648 then (if l.length + w + 1 > 65536 then none else widS n (2 * (lo - 2147483648)) (2 * (hi - 2147483648) + 1) 0 (outL l true w))
    else if lo ≥ 1073741824 ∧ hi < 3221225472 then widS n (2 * (lo - 1073741824)) (2 * (hi - 1073741824) + 1) (w + 1) l
    else some (lo, hi, w, l)
/-- may they be widened, in so many rounds? -/
def roomy (n : Nat) (lo hi : Int) : Prop := 0 ≤ lo ∧ lo ≤ hi ∧ hi < 4294967296 ∧ 4294967296 ≤ (hi - lo + 1) * 2 ^ n
theorem roomy_start {lo hi : Int} (h0 : 0 ≤ lo) (h1 : lo ≤ hi) (h2 : hi < 4294967296) : roomy 32 lo hi := ⟨h0, h1, h2, by
  have : (1 : Int) * 2 ^ 32 ≤ (hi - lo + 1) * 2 ^ 32 := Int.mul_le_mul_of_nonneg_right (by omega) (by decide)
  simpa using this⟩
theorem roomy_next {n : Nat} {lo hi lo' hi' : Int} (h : roomy (n + 1) lo hi) (hl : 0 ≤ lo') (hh : hi' < 4294967296) (hw : hi' - lo' + 1 = 2 * (hi - lo + 1)) : roomy n lo' hi' := by
  obtain ⟨h1, h2, h3, h4⟩ := h
  refine ⟨hl, by omega, hh, ?_⟩
  rw [hw]
  rw [Int.pow_succ] at h4
  have : (hi - lo + 1) * (2 ^ n * 2) = 2 * (hi - lo + 1) * 2 ^ n := by rw [Int.mul_comm (2 ^ n) 2, ← Int.mul_assoc, Int.mul_comm (hi - lo + 1) 2]
  omega
theorem roomy_zero {lo hi : Int} (h : roomy 0 lo hi) : lo = 0 ∧ hi = 4294967295 := by
  obtain ⟨h1, h2, h3, h4⟩ := h
  simp at h4
  omega

theorem move_eq {lo hi : Int} : g_coder_interval_move (lo, hi) = some (if hi < 2147483648 then (0, 0) else if lo ≥ 2147483648 then (2147483648, 1) else if lo ≥ 1073741824 ∧ hi < 3221225472 then (1073741824, 2) else (0, 3)) := by
  by_cases h1 : hi < 2147483648
  · rw [if_pos h1]
    simp (disch := omega) only [g_coder_interval_move, dT]
  rw [if_neg h1]
  by_cases h2 : lo ≥ 2147483648
  · rw [if_pos h2]
    simp (disch := omega) only [g_coder_interval_move, dT, dF]
  rw [if_neg h2]
  by_cases h3 : lo ≥ 1073741824 ∧ hi < 3221225472
  · rw [if_pos h3]
    simp (disch := omega) only [g_coder_interval_move, dT, dF, Option.bind_some]
  · rw [if_neg h3]
    by_cases h4 : lo ≥ 1073741824
    · simp (disch := omega) only [g_coder_interval_move, dT, dF, Option.bind_some]
    · simp (disch := omega) only [g_coder_interval_move, dF, Option.bind_some, cond_false]
theorem shl1 {x : Int} (h0 : 0 ≤ x) (h1 : x < 9223372036854775808) : shlI .u64 x 1 = 2 * x := by
  obtain ⟨n, rfl⟩ : ∃ n : Nat, x = n := ⟨x.toNat, by omega⟩
  have := shl_nat64 (a := n) (n := 1) (by omega)
  rw [show ((1 : Nat) : Int) = 1 from rfl] at this
  rw [this, Nat.shiftLeft_eq]
  omega
theorem or1 {x : Int} (h0 : 0 ≤ x) (h1 : x < 4611686018427387904) : bitsI .or .u64 (2 * x) 1 = 2 * x + 1 := by
  obtain ⟨n, rfl⟩ : ∃ n : Nat, x = n := ⟨x.toNat, by omega⟩
  have := or_nat64 (a := 2 * n) (b := 1) (by omega) (by omega)
  rw [show ((2 * n : Nat) : Int) = 2 * (n : Int) from by omega, show ((1 : Nat) : Int) = 1 from rfl] at this
  rw [this]
  have h : 2 * n ||| 1 = 2 * n + 1 := by
    apply Nat.eq_of_testBit_eq
    intro i
    rw [Nat.testBit_or]
    cases i with
    | zero => simp
    | succ i => simp [Nat.testBit_succ, show (2 * n + 1) / 2 = n from by omega]
  rw [h]; omega
theorem emits {R : Type} {b : Bool} {l : List Bool} {w : Nat} {x y wt : Int} (h : l.length + w + 1 ≤ 65536) (K : Int × ((Int × Int) × Int × (List Int × Int) × Int) × Unit → Option R) :
    ((g_bits_Put (pk l, (l.length : Int)) ((b.toNat : Nat) : Int) 1).bind fun y9 => (iter g_coder_Put_r1 (((b.toNat : Nat) : Int), (w : Int), ((x, y), (wt, ((y9.1.1, y9.1.2), y9.2))), ())).bind K) =
      K (((b.toNat : Nat) : Int), ((x, y), (wt, ((pk (outL l b w), ((l.length + w + 1 : Nat) : Int)), 0))), ()) := by
  have hb := bool_lt b
  have e1 := bits_Put_eq (l := l) (v := b.toNat) (w := 1) (by omega) (by omega) (by omega)
  rw [putS_one, if_neg (by omega)] at e1
  have e2 := emit_loop (b := b) (n := w) (l := l ++ [b]) (x := x) (y := y) (wt := wt) (by simp; omega)
  have e3 : l ++ [b] ++ List.replicate w (!b) = outL l b w := by simp [outL]
  have e4 : (l ++ [b]).length = l.length + 1 := by simp
  rw [e3, e4, show l.length + 1 + w = l.length + w + 1 from by omega] at e2
  have e1' : g_bits_Put (pk l, (l.length : Int)) ((b.toNat : Nat) : Int) 1 = some ((pk (l ++ [b]), ((l.length + 1 : Nat) : Int)), 0) := e1
  rw [e1', Option.bind_some, e2, Option.bind_some]
theorem emits0 {R : Type} {l : List Bool} {w : Nat} {x y wt : Int} (h : l.length + w + 1 ≤ 65536) (K : Int × ((Int × Int) × Int × (List Int × Int) × Int) × Unit → Option R) :
    ((g_bits_Put (pk l, (l.length : Int)) 0 1).bind fun y9 => (iter g_coder_Put_r1 (0, (w : Int), ((x, y), (wt, ((y9.1.1, y9.1.2), y9.2))), ())).bind K) =
      K (0, ((x, y), (wt, ((pk (outL l false w), ((l.length + w + 1 : Nat) : Int)), 0))), ()) := emits (b := false) h K
theorem emits1 {R : Type} {l : List Bool} {w : Nat} {x y wt : Int} (h : l.length + w + 1 ≤ 65536) (K : Int × ((Int × Int) × Int × (List Int × Int) × Int) × Unit → Option R) :
    ((g_bits_Put (pk l, (l.length : Int)) 1 1).bind fun y9 => (iter g_coder_Put_r1 (1, (w : Int), ((x, y), (wt, ((y9.1.1, y9.1.2), y9.2))), ())).bind K) =
      K (1, ((x, y), (wt, ((pk (outL l true w), ((l.length + w + 1 : Nat) : Int)), 0))), ()) := emits (b := true) h K
abbrev PutSt := (((Int × Int) × Int × (List Int × Int) × Int) × Unit)
/-- the program's widening -/
theorem coder_widen {n : Nat} {lo hi : Int} {w : Nat} {l : List Bool} (hr : roomy n lo hi) (hl : l.length ≤ 65536) (hn : n ≤ 32) (hw : w ≤ 65600) :
    ∃ r, iter g_coder_Put_r2 (((lo, hi), ((w : Int), ((pk l, (l.length : Int)), 0))), ()) = some r ∧
      ((∃ s : (Int × Int) × Int × (List Int × Int) × Int, r = .inl (s, ()) ∧ s.2.2.2 = 2 ∧ widS (n + 1) lo hi w l = none) ∨
       ∃ (lo' hi' : Int) (w' : Nat) (l' : List Bool), r = .inr (((lo', hi'), ((w' : Int), ((pk l', ((l'.length : Nat) : Int)), 0))), ()) ∧ widS (n + 1) lo hi w l = some (lo', hi', w', l')) := by
  let W := widS (n + 1) lo hi w l
  refine iter_ex (fun x => if x.1.2.2.2 = 0 then (8589934592 - (x.1.1.2 - x.1.1.1)).toNat + 1 else 0)
    (fun x => (∃ (n : Nat) (lo hi : Int) (w : Nat) (l : List Bool), x = (((lo, hi), ((w : Int), ((pk l, (l.length : Int)), 0))), ()) ∧ roomy n lo hi ∧ l.length ≤ 65536 ∧ w + n ≤ 65632 ∧ widS (n + 1) lo hi w l = W) ∨
      (∃ s : (Int × Int) × Int × (List Int × Int) × Int, x = (s, ()) ∧ s.2.2.2 = 2 ∧ W = none))
    (fun r => (∃ s : (Int × Int) × Int × (List Int × Int) × Int, r = (.inl (s, ()) : PutSt ⊕ PutSt) ∧ s.2.2.2 = 2 ∧ W = none) ∨
       ∃ (lo' hi' : Int) (w' : Nat) (l' : List Bool), r = .inr (((lo', hi'), ((w' : Int), ((pk l', ((l'.length : Nat) : Int)), 0))), ()) ∧ W = some (lo', hi', w', l')) ?_ _ (.inl ⟨n, lo, hi, w, l, rfl, hr, hl, by omega, rfl⟩)
  rintro x (⟨n, lo, hi, w, l, rfl, hr, hl, hw, hW⟩ | ⟨⟨⟨a, b⟩, c, ⟨d, e⟩, f⟩, rfl, h1, h2⟩)
  · have hm := move_eq (lo := lo) (hi := hi)
    obtain ⟨r1, r2, r3, r4⟩ := hr
    have hr : roomy n lo hi := ⟨r1, r2, r3, r4⟩
    rw [widS] at hW
    by_cases h1 : hi < 2147483648
    · rw [if_pos h1] at hm hW
      left
      obtain ⟨k, rfl⟩ : ∃ k, n = k + 1 := by
        cases n with
        | zero => have := roomy_zero hr; omega
        | succ k => exact ⟨k, rfl⟩
      by_cases h4 : l.length + w + 1 > 65536
      · rw [if_pos h4] at hW
        refine ⟨(((2 * lo, 2 * hi + 1), ((w : Int), ((pk l, (l.length : Int)), 2))), ()), ?_, .inr ⟨_, rfl, rfl, hW.symm⟩, by simp⟩
        simp (disch := omega) only [g_coder_Put_r2, eT, eF, dT, hm, Option.bind_some, wrap_i64, wrap_u64, shl1, or1, Int.sub_zero]
      · rw [if_neg h4] at hW
        refine ⟨(((2 * lo, 2 * hi + 1), (((0 : Nat) : Int), ((pk (outL l false w), ((outL l false w).length : Int)), 0))), ()), ?_, .inl ⟨k, _, _, 0, _, rfl, roomy_next hr (by omega) (by omega) (by omega), by rw [outL_len]; omega, by omega, hW⟩, by simp; omega⟩
        simp (disch := omega) only [g_coder_Put_r2, eT, eF, dF, hm, Option.bind_some, wrap_i64, wrap_u64, shl1, or1, emits0, outL_len, Int.sub_zero]
        rfl
    rw [if_neg h1] at hm hW
    by_cases h2 : lo ≥ 2147483648
    · rw [if_pos h2] at hm hW
      left
      obtain ⟨k, rfl⟩ : ∃ k, n = k + 1 := by
        cases n with
        | zero => have := roomy_zero hr; omega
        | succ k => exact ⟨k, rfl⟩
      by_cases h4 : l.length + w + 1 > 65536
      · rw [if_pos h4] at hW
        refine ⟨(((2 * (lo - 2147483648), 2 * (hi - 2147483648) + 1), ((w : Int), ((pk l, (l.length : Int)), 2))), ()), ?_, .inr ⟨_, rfl, rfl, hW.symm⟩, by simp⟩
        simp (disch := omega) only [g_coder_Put_r2, eT, eF, dT, hm, Option.bind_some, wrap_i64, wrap_u64, shl1, or1, Int.sub_zero]
      · rw [if_neg h4] at hW
        refine ⟨(((2 * (lo - 2147483648), 2 * (hi - 2147483648) + 1), (((0 : Nat) : Int), ((pk (outL l true w), ((outL l true w).length : Int)), 0))), ()), ?_, .inl ⟨k, _, _, 0, _, rfl, roomy_next hr (by omega) (by omega) (by omega), by rw [outL_len]; omega, by omega, hW⟩, by simp; omega⟩
        simp (disch := omega) only [g_coder_Put_r2, eT, eF, dF, hm, Option.bind_some, wrap_i64, wrap_u64, shl1, or1, emits1, outL_len, Int.sub_zero]
        rfl
    rw [if_neg h2] at hm hW
    by_cases h3 : lo ≥ 1073741824 ∧ hi < 3221225472
    · rw [if_pos h3] at hm hW
      left
      obtain ⟨k, rfl⟩ : ∃ k, n = k + 1 := by
        cases n with
        | zero => have := roomy_zero hr; omega
        | succ k => exact ⟨k, rfl⟩
      refine ⟨(((2 * (lo - 1073741824), 2 * (hi - 1073741824) + 1), (((w + 1 : Nat) : Int), ((pk l, (l.length : Int)), 0))), ()), ?_, .inl ⟨k, _, _, w + 1, _, rfl, roomy_next hr (by omega) (by omega) (by omega), hl, by omega, hW⟩, by simp; omega⟩
      simp (disch := omega) only [g_coder_Put_r2, eT, eF, dF, hm, Option.bind_some, wrap_i64, wrap_u64, shl1, or1]
      rfl
    · rw [if_neg h3] at hm hW
      right
      refine ⟨_, ?_, .inr ⟨lo, hi, w, l, rfl, hW.symm⟩⟩
      simp (disch := omega) only [g_coder_Put_r2, eT, hm, Option.bind_some]
  · right
    refine ⟨.inl (((a, b), c, (d, e), f), ()), ?_, .inl ⟨_, rfl, h1, h2⟩⟩
    have h1 : f = 2 := h1
    subst h1
    simp (disch := omega) only [g_coder_Put_r2, eF]
end Go.Sq
/- The coder: the document's widening. -/
namespace Go.Sq
open Go.Rx

/-- what Put comes to, behind widening -/
noncomputable def doneS (W : Option (Int × Int × Nat × List Bool)) : Int × (Int × Int × Int × List Int × Int) × Unit :=
  match W with
  | none => (2, (0, (0, (0, ([], 0)))), ())
  | some (lo, hi, w, l) => if w > 65536 then (2, (0, (0, (0, ([], 0)))), ()) else (0, (IntKind.u32.wrap lo, (IntKind.u32.wrap hi, ((w : Int), (pk l, (l.length : Int))))), ())
theorem out_eq0 {l : List Bool} {w : Nat} (hl : l.length ≤ 65536) (hw : w < 2 ^ 40) : g_r04_out (pk l, (l.length : Int)) 0 (w : Int) = some (outS l false w) := r04_out_eq (b := false) hl hw
theorem out_eq1 {l : List Bool} {w : Nat} (hl : l.length ≤ 65536) (hw : w < 2 ^ 40) : g_r04_out (pk l, (l.length : Int)) 1 (w : Int) = some (outS l true w) := r04_out_eq (b := true) hl hw
theorem r04_widen {n : Nat} {lo hi : Int} {w : Nat} {l : List Bool} (hr : roomy n lo hi) (hl : l.length ≤ 65536) (hn : n ≤ 32) (hw : w ≤ 65600) :
    iter g_r04_Put_r1 (lo, hi, (0, (0, (0, ([], 0)))), (0, (0, ((w : Int), (pk l, (l.length : Int))))), ()) = some (doneS (widS (n + 1) lo hi w l)) := by
  let W := widS (n + 1) lo hi w l
  have loop : ∃ r, iter g_r04_Put_r1 (lo, hi, (0, (0, (0, ([], 0)))), (0, (0, ((w : Int), (pk l, (l.length : Int))))), ()) = some r ∧ r = doneS W := by
    refine iter_ex (fun x => (8589934592 - (x.2.1 - x.1)).toNat)
      (fun x => ∃ (n : Nat) (lo hi : Int) (w : Nat) (l : List Bool), x = (lo, hi, (0, (0, (0, ([], 0)))), (0, (0, ((w : Int), (pk l, (l.length : Int))))), ()) ∧ roomy n lo hi ∧ l.length ≤ 65536 ∧ w + n ≤ 65632 ∧ widS (n + 1) lo hi w l = W)
      (fun r => r = doneS W) ?_ _ ⟨n, lo, hi, w, l, rfl, hr, hl, by omega, rfl⟩
    rintro x ⟨n, lo, hi, w, l, rfl, hr, hl, hw, hW⟩
    obtain ⟨r1, r2, r3, r4⟩ := hr
    have hr : roomy n lo hi := ⟨r1, r2, r3, r4⟩
    rw [widS] at hW
    by_cases h1 : hi < 2147483648
    · rw [if_pos h1] at hW
      obtain ⟨k, rfl⟩ : ∃ k, n = k + 1 := by
        cases n with
        | zero => have := roomy_zero hr; omega
        | succ k => exact ⟨k, rfl⟩
      have e := out_eq0 (l := l) (w := w) hl (by omega)
      unfold outS at e
      by_cases h4 : l.length + w + 1 > 65536
      · rw [if_pos h4] at hW e
        right
        refine ⟨_, ?_, rfl⟩
        rw [← hW]
        simp (disch := omega) only [g_r04_Put_r1, dT, nT, Option.bind_some, e, doneS]
      · rw [if_neg h4] at hW e
        left
        refine ⟨(2 * lo, 2 * hi + 1, (0, (0, (0, ([], 0)))), (0, (0, (((0 : Nat) : Int), (pk (outL l false w), ((outL l false w).length : Int))))), ()), ?_, ⟨k, _, _, 0, _, rfl, roomy_next hr (by omega) (by omega) (by omega), by rw [outL_len]; omega, by omega, hW⟩, by simp; omega⟩
        simp (disch := omega) only [g_r04_Put_r1, dT, nF, Option.bind_some, e, wrap_u64, Int.sub_zero, outL_len]
        rfl
    rw [if_neg h1] at hW
    by_cases h2 : lo ≥ 2147483648
    · rw [if_pos h2] at hW
      obtain ⟨k, rfl⟩ : ∃ k, n = k + 1 := by
        cases n with
        | zero => have := roomy_zero hr; omega
        | succ k => exact ⟨k, rfl⟩
      have e := out_eq1 (l := l) (w := w) hl (by omega)
      unfold outS at e
      by_cases h4 : l.length + w + 1 > 65536
      · rw [if_pos h4] at hW e
        right
        refine ⟨_, ?_, rfl⟩
        rw [← hW]
        simp (disch := omega) only [g_r04_Put_r1, dT, dF, nT, Option.bind_some, e, doneS]
      · rw [if_neg h4] at hW e
        left
        refine ⟨(2 * (lo - 2147483648), 2 * (hi - 2147483648) + 1, (0, (0, (0, ([], 0)))), (0, (0, (((0 : Nat) : Int), (pk (outL l true w), ((outL l true w).length : Int))))), ()), ?_, ⟨k, _, _, 0, _, rfl, roomy_next hr (by omega) (by omega) (by omega), by rw [outL_len]; omega, by omega, hW⟩, by simp; omega⟩
        simp (disch := omega) only [g_r04_Put_r1, dT, dF, nF, Option.bind_some, e, wrap_u64, Int.sub_zero, outL_len]
        rfl
    rw [if_neg h2] at hW
    by_cases h3 : lo ≥ 1073741824 ∧ hi < 3221225472
    · rw [if_pos h3] at hW
      obtain ⟨k, rfl⟩ : ∃ k, n = k + 1 := by
        cases n with
        | zero => have := roomy_zero hr; omega
        | succ k => exact ⟨k, rfl⟩
      left
      refine ⟨(2 * (lo - 1073741824), 2 * (hi - 1073741824) + 1, (0, (0, (0, ([], 0)))), (0, (0, (((w + 1 : Nat) : Int), (pk l, (l.length : Int))))), ()), ?_, ⟨k, _, _, w + 1, _, rfl, roomy_next hr (by omega) (by omega) (by omega), hl, by omega, hW⟩, by simp; omega⟩
      simp (disch := omega) only [g_r04_Put_r1, dT, dF, Option.bind_some, wrap_u64, wrap_i64]
      rfl
    · rw [if_neg h3] at hW
      right
      refine ⟨_, ?_, rfl⟩
      rw [← hW]
      unfold doneS
      by_cases h5 : lo ≥ 1073741824
      · by_cases h6 : w > 65536
        · simp (disch := omega) only [g_r04_Put_r1, dT, dF, Option.bind_some, if_pos h6]
        · simp (disch := omega) only [g_r04_Put_r1, dT, dF, Option.bind_some, if_neg h6]
      · by_cases h6 : w > 65536
        · simp (disch := omega) only [g_r04_Put_r1, dT, dF, Option.bind_some, cond_false, if_pos h6]
        · simp (disch := omega) only [g_r04_Put_r1, dT, dF, Option.bind_some, cond_false, if_neg h6]
  obtain ⟨r, h1, rfl⟩ := loop
  exact h1
end Go.Sq
/- The coder: Put, End: the program's and the document's are the same. -/
namespace Go.Sq
open Go.Rx

def goodP (lo hi : Int) : Prop := lo < hi ∧ 2147483648 ≤ hi ∧ lo < 2147483648 ∧ ¬ (1073741824 ≤ lo ∧ hi < 3221225472)
instance (lo hi : Int) : Decidable (goodP lo hi) := inferInstanceAs (Decidable (_ ∧ _ ∧ _ ∧ _))
theorem good_eq {lo hi : Int} : g_coder_interval_good (lo, hi) = some (decide (goodP lo hi)) := by
  have hm := move_eq (lo := lo) (hi := hi)
  by_cases h0 : lo < hi
  · split at hm
    · simp (disch := omega) only [g_coder_interval_good, hm, dT, Option.bind_some]
      rw [decide_eq_false (show ¬ goodP lo hi by unfold goodP; omega)]; rfl
    · split at hm
      · simp (disch := omega) only [g_coder_interval_good, hm, dT, Option.bind_some]
        rw [decide_eq_false (show ¬ goodP lo hi by unfold goodP; omega)]; rfl
      · split at hm
        · simp (disch := omega) only [g_coder_interval_good, hm, dT, Option.bind_some]
          rw [decide_eq_false (show ¬ goodP lo hi by unfold goodP; omega)]; rfl
        · simp (disch := omega) only [g_coder_interval_good, hm, dT, Option.bind_some]
          rw [decide_eq_true (show goodP lo hi by unfold goodP; omega)]; rfl
  · rw [decide_eq_false (show ¬ goodP lo hi by unfold goodP; omega)]
    simp (disch := omega) only [g_coder_interval_good, hm, dF, Option.bind_some]
theorem wide_eq {lo hi : Int} (hh : hi < 4294967296) : g_r04_wide lo hi = some (decide (goodP lo hi)) := by
  by_cases h0 : lo < hi
  · by_cases h1 : 2147483648 ≤ hi
    · by_cases h2 : lo < 2147483648
      · by_cases h3 : 1073741824 ≤ lo
        · by_cases h4 : hi < 3221225472
          · rw [decide_eq_false (show ¬ goodP lo hi by unfold goodP; omega)]
            simp (disch := omega) only [g_r04_wide, dT, dF, Option.bind_some, h4, decide_true, Bool.not_true]
          · rw [decide_eq_true (show goodP lo hi by unfold goodP; omega)]
            simp (disch := omega) only [g_r04_wide, dT, dF, Option.bind_some, h4, decide_false, Bool.not_false]
        · rw [decide_eq_true (show goodP lo hi by unfold goodP; omega)]
          simp (disch := omega) only [g_r04_wide, dT, dF, Option.bind_some]
      · rw [decide_eq_false (show ¬ goodP lo hi by unfold goodP; omega)]
        simp (disch := omega) only [g_r04_wide, dT, dF, Option.bind_some]
    · rw [decide_eq_false (show ¬ goodP lo hi by unfold goodP; omega)]
      simp (disch := omega) only [g_r04_wide, dF, Option.bind_some]
  · rw [decide_eq_false (show ¬ goodP lo hi by unfold goodP; omega)]
    simp (disch := omega) only [g_r04_wide, dT, Option.bind_some, cond_true]
abbrev EncT := Int × Int × Int × List Int × Int
/-- may it be an encoder's state? -/
def okE (e : EncT) : Prop := goodP e.1 e.2.1 ∧ 0 ≤ e.2.2.1 ∧ e.2.2.1 ≤ 65536 ∧ okB e.2.2.2.1 e.2.2.2.2
/-- what Go may hand over -/
def wfE (e : EncT) : Prop := (0 ≤ e.1 ∧ e.1 < 4294967296) ∧ (0 ≤ e.2.1 ∧ e.2.1 < 4294967296) ∧ bytes e.2.2.2.1 ∧ small e.2.2.2.1
open Classical in
theorem CheckEnc_eq {e : EncT} (h : wfE e) : g_r04_CheckEnc e = some (decide (okE e)) := by
  obtain ⟨lo, hi, w, B, N⟩ := e
  obtain ⟨h1, h2, h3, h4⟩ := h
  have h1 : 0 ≤ lo ∧ lo < 4294967296 := h1
  have h2 : 0 ≤ hi ∧ hi < 4294967296 := h2
  have hw := wide_eq (lo := lo) (hi := hi) (by omega)
  have hc := r01_Check_eq (N := N) h3 h4
  have e1 := wrap_u64 (n := lo) (by omega) (by omega)
  have e2 := wrap_u64 (n := hi) (by omega) (by omega)
  by_cases g : goodP lo hi
  · rw [decide_eq_true g] at hw
    by_cases g1 : 0 ≤ w
    · by_cases g2 : w ≤ 65536
      · simp (disch := omega) only [g_r04_CheckEnc, e1, e2, hw, hc, Option.bind_some, dT, cond_true]
        by_cases g3 : okB B N
        · rw [decide_eq_true (show okE (lo, hi, w, B, N) from ⟨g, g1, g2, g3⟩)]
          unfold ck; rw [if_pos g3]; rfl
        · rw [decide_eq_false (show ¬ okE (lo, hi, w, B, N) from fun h => g3 h.2.2.2)]
          unfold ck; rw [if_neg g3]; rfl
      · rw [decide_eq_false (show ¬ okE (lo, hi, w, B, N) from fun h => g2 h.2.2.1)]
        simp (disch := omega) only [g_r04_CheckEnc, e1, e2, hw, Option.bind_some, dT, dF, cond_true]
    · rw [decide_eq_false (show ¬ okE (lo, hi, w, B, N) from fun h => g1 h.2.1)]
      simp (disch := omega) only [g_r04_CheckEnc, e1, e2, hw, Option.bind_some, dF, cond_true]
  · rw [decide_eq_false g] at hw
    rw [decide_eq_false (show ¬ okE (lo, hi, w, B, N) from fun h => g h.1)]
    simp (disch := omega) only [g_r04_CheckEnc, e1, e2, hw, Option.bind_some, cond_false]

theorem CheckEnc_t {e : EncT} (h : wfE e) (ho : okE e) : g_r04_CheckEnc e = some true := by
  have := CheckEnc_eq h
  simpa [ho] using this
theorem CheckEnc_f {e : EncT} (h : wfE e) (ho : ¬ okE e) : g_r04_CheckEnc e = some false := by
  have := CheckEnc_eq h
  simpa [ho] using this

/-! ### Narrowing -/
def narL (lo hi a t : Int) : Int := lo + (hi - lo + 1) * a / t
def narH (lo hi b t : Int) : Int := lo + (hi - lo + 1) * b / t - 1
theorem nar_facts {r a b t : Int} (hr : t ≤ r) (hr2 : r ≤ 4294967296) (ha : 0 ≤ a) (hab : a < b) (hb : b ≤ t) (ht : 1 ≤ t) (ht2 : t ≤ 16384) :
    0 ≤ r * a ∧ r * a ≤ 70368744177664 ∧ 0 ≤ r * b ∧ r * b ≤ 70368744177664 ∧ 0 ≤ r * a / t ∧ r * a / t + 1 ≤ r * b / t ∧ r * b / t ≤ r := by
  have h1 : 0 ≤ r * a := Int.mul_nonneg (by omega) ha
  have h2 : r * b ≤ r * t := Int.mul_le_mul_of_nonneg_left hb (by omega)
  have h3 : r * (a + 1) ≤ r * b := Int.mul_le_mul_of_nonneg_left (by omega) (by omega)
  have h4 : r * t ≤ 4294967296 * 16384 := Int.mul_le_mul hr2 ht2 (by omega) (by omega)
  rw [Int.mul_add, Int.mul_one] at h3
  have h5 : r * a / t + 1 = (r * a + t) / t := by rw [Int.add_ediv_of_dvd_right (Int.dvd_refl t), Int.ediv_self (by omega)]
  have h6 : (r * a + t) / t ≤ r * b / t := Int.ediv_le_ediv (by omega) (by omega)
  have h7 : r * b / t ≤ r * t / t := Int.ediv_le_ediv (by omega) h2
  rw [Int.mul_ediv_cancel _ (by omega)] at h7
  exact ⟨h1, by omega, by omega, by omega, Int.ediv_nonneg h1 (by omega), by omega, h7⟩
theorem good_wide {lo hi : Int} (h : goodP lo hi) : 1073741824 ≤ hi - lo + 1 := by unfold goodP at h; omega
/-- a symbol's numbers -/
theorem span_ok {C : List Int} {s : Int} (h : okF C) (h0 : 0 ≤ s) (h1 : s + 2 ≤ C.length) : 0 ≤ C.getD s.toNat 0 ∧ C.getD s.toNat 0 < C.getD (s.toNat + 1) 0 ∧ C.getD (s.toNat + 1) 0 ≤ totS C := by
  have h2 := okF_mono h (i := 0) (j := s.toNat) (by omega) (by omega)
  rw [h.2.2.1] at h2
  have h3 := h.2.2.2.2 s.toNat (by omega)
  have h4 := okF_mono h (i := s.toNat + 1) (j := C.length - 1) (by omega) (by omega)
  rw [(totS_pos h).1]
  exact ⟨h2, h3, h4⟩
end Go.Sq
/- The coder: Put and End. -/
namespace Go.Sq
open Go.Rx

def okSpan (C : List Int) (s : Int) : Prop := okF C ∧ 0 ≤ s ∧ s + 2 ≤ C.length
noncomputable def flip3 (r : Int × EncT × Unit) : EncT × Int := (r.2.1, r.1)
/-- what Put comes to -/
noncomputable def putR (lo hi : Int) (w : Nat) (l : List Bool) (C : List Int) (s : Int) : EncT × Int :=
  flip3 (doneS (widS 33 (narL lo hi (C.getD s.toNat 0) (totS C)) (narH lo hi (C.getD (s.toNat + 1) 0) (totS C)) w l))
theorem clone_eq {l : List Int} (h : l.length ≤ 140737488355328) : g_slices_Clone_Sbyte_byte l = some l := by
  simp only [g_slices_Clone_Sbyte_byte, List.nil_append]
  rw [rT (by omega)]
theorem owned_eq {l : List Bool} (h : l.length ≤ 65536) : g_coder_owned (pk l, (l.length : Int)) = some (pk l, (l.length : Int)) := by
  have hpl := pk_len l
  simp only [g_coder_owned, clone_eq (l := pk l) (by omega), Option.bind_some]
theorem Copy_eq {l : List Bool} (h : l.length ≤ 65536) : g_r01_Copy (pk l, (l.length : Int)) = some (pk l, (l.length : Int)) := by
  have hpl := pk_len l
  simp (disch := omega) only [g_r01_Copy, rT]
theorem widS_len : ∀ {n : Nat} {lo hi : Int} {w : Nat} {l : List Bool} {lo' hi' : Int} {w' : Nat} {l' : List Bool}, l.length ≤ 65536 → widS n lo hi w l = some (lo', hi', w', l') → l'.length ≤ 65536 ∧ w' ≤ w + n
  | 0, _, _, _, _, _, _, _, _, _, h => nomatch h
  | n + 1, lo, hi, w, l, lo', hi', w', l', hl, h => by
    rw [widS] at h
    split at h
    · split at h
      · cases h
      · have := widS_len (by rw [outL_len]; omega) h; omega
    · split at h
      · split at h
        · cases h
        · have := widS_len (by rw [outL_len]; omega) h; omega
      · split at h
        · have := widS_len hl h; omega
        · cases h; omega

theorem coder_Put_ok {lo hi : Int} {w : Nat} {l : List Bool} {C : List Int} {s : Int} (hlo : 0 ≤ lo) (hhi : hi < 4294967296) (hg : goodP lo hi) (hw : w ≤ 65536) (hl : l.length ≤ 65536) (hs : okSpan C s) :
    g_coder_Put (lo, (hi, ((w : Int), (pk l, (l.length : Int))))) C s = some (putR lo hi w l C s) := by
  obtain ⟨hF, h0, h1⟩ := hs
  have hF2 := hF.2.1
  have hsm : small C := by unfold small; omega
  have hgl := hg.1
  have e1 := wrap_u64 (n := lo) (by omega) (by omega)
  have e2 := wrap_u64 (n := hi) (by omega) (by omega)
  have hgd := good_eq (lo := lo) (hi := hi)
  rw [decide_eq_true hg] at hgd
  have hc := bits_Check_eq (N := l.length) (pk_bytes l) (small_pk hl)
  rw [ck_pk hl] at hc
  have hsp := freq_Span_eq (s := s) hsm (by omega)
  unfold spanS at hsp
  rw [if_pos ⟨hF, h0, h1⟩] at hsp
  have ht := freq_Total_eq hsm
  obtain ⟨_, ht1, ht2⟩ := totS_pos hF
  obtain ⟨a0, a1, a2⟩ := span_ok hF h0 h1
  have hgw := good_wide hg
  unfold putR
  generalize C.getD s.toNat 0 = a at hsp a0 a1 ⊢
  generalize C.getD (s.toNat + 1) 0 = b at hsp a1 a2 ⊢
  generalize totS C = t at ht ht1 ht2 a2 ⊢
  obtain ⟨f1, f2, f3, f4, f5, f6, f7⟩ := nar_facts (r := hi - lo + 1) (a := a) (b := b) (t := t) (by omega) (by omega) a0 a1 a2 ht1 ht2
  have d1 : ((hi - lo + 1) * a).tdiv t = (hi - lo + 1) * a / t := Int.tdiv_eq_ediv_of_nonneg f1
  have d2 : ((hi - lo + 1) * b).tdiv t = (hi - lo + 1) * b / t := Int.tdiv_eq_ediv_of_nonneg f3
  have hL : narL lo hi a t = lo + (hi - lo + 1) * a / t := rfl
  have hH : narH lo hi b t = lo + (hi - lo + 1) * b / t - 1 := rfl
  rw [hL, hH]
  generalize (hi - lo + 1) * a / t = qa at *
  generalize (hi - lo + 1) * b / t = qb at *
  obtain ⟨r, hit, hr⟩ := coder_widen (n := 32) (lo := lo + qa) (hi := lo + qb - 1) (w := w) (l := l) (roomy_start (by omega) (by omega) (by omega)) hl (by omega) (by omega)
  have eg : ∀ {α : Type} (x y : α), (bif (!((0 : Int) == 0)) then x else y) = y := fun x y => rfl
  have e0 : (0 : Int) ≤ (w : Int) := by omega
  rcases hr with ⟨⟨⟨x1, x2⟩, x3, ⟨x4, x5⟩, x6⟩, rfl, hx, hW⟩ | ⟨lo', hi', w', l', rfl, hW⟩
  · have hx : x6 = 2 := hx
    subst hx
    rw [hW]
    simp (disch := omega) only [g_coder_Put, e1, e2, hgd, hc, hsp, ht, cond_true, dT, Option.bind_some, eg, nF, nT, wrap_u64, d1, d2, hit, eF, cond_false, doneS, flip3]
  · have hlen := widS_len hl hW
    rw [hW]
    by_cases h5 : w' > 65536
    · simp (disch := omega) only [g_coder_Put, e1, e2, hgd, hc, hsp, ht, cond_true, dT, Option.bind_some, eg, nF, nT, wrap_u64, d1, d2, hit, eT, cond_false, doneS, flip3, if_pos h5]
    · simp (disch := omega) only [g_coder_Put, e1, e2, hgd, hc, hsp, ht, cond_true, dT, dF, Option.bind_some, eg, nF, nT, wrap_u64, d1, d2, hit, eT, cond_false, doneS, flip3, if_neg h5, owned_eq hlen.1]

theorem r04_Put_ok {lo hi : Int} {w : Nat} {l : List Bool} {C : List Int} {s : Int} (hlo : 0 ≤ lo) (hhi : hi < 4294967296) (hg : goodP lo hi) (hw : w ≤ 65536) (hl : l.length ≤ 65536) (hs : okSpan C s) :
    g_r04_Put (lo, (hi, ((w : Int), (pk l, (l.length : Int))))) C s = some (putR lo hi w l C s) := by
  obtain ⟨hF, h0, h1⟩ := hs
  have hF2 := hF.2.1
  have hsm : small C := by unfold small; omega
  have hgl := hg.1
  have e1 := wrap_u64 (n := lo) (by omega) (by omega)
  have e2 := wrap_u64 (n := hi) (by omega) (by omega)
  have hce := CheckEnc_t (e := (lo, (hi, ((w : Int), (pk l, (l.length : Int)))))) ⟨by simp only; omega, by simp only; omega, pk_bytes l, small_pk hl⟩ ⟨hg, by simp only; omega, by simp only; omega, (okB_iff (pk_bytes l)).2 ⟨l, rfl, rfl, hl⟩⟩
  have hsp := r03_Span_eq (s := s) hsm (by omega)
  unfold spanS at hsp
  rw [if_pos ⟨hF, h0, h1⟩] at hsp
  have ht := r03_Total_eq hsm
  obtain ⟨_, ht1, ht2⟩ := totS_pos hF
  obtain ⟨a0, a1, a2⟩ := span_ok hF h0 h1
  have hgw := good_wide hg
  unfold putR
  generalize C.getD s.toNat 0 = a at hsp a0 a1 ⊢
  generalize C.getD (s.toNat + 1) 0 = b at hsp a1 a2 ⊢
  generalize totS C = t at ht ht1 ht2 a2 ⊢
  obtain ⟨f1, f2, f3, f4, f5, f6, f7⟩ := nar_facts (r := hi - lo + 1) (a := a) (b := b) (t := t) (by omega) (by omega) a0 a1 a2 ht1 ht2
  have d1 : ((hi - lo + 1) * a).tdiv t = (hi - lo + 1) * a / t := Int.tdiv_eq_ediv_of_nonneg f1
  have d2 : ((hi - lo + 1) * b).tdiv t = (hi - lo + 1) * b / t := Int.tdiv_eq_ediv_of_nonneg f3
  have hL : narL lo hi a t = lo + (hi - lo + 1) * a / t := rfl
  have hH : narH lo hi b t = lo + (hi - lo + 1) * b / t - 1 := rfl
  rw [hL, hH]
  generalize (hi - lo + 1) * a / t = qa at *
  generalize (hi - lo + 1) * b / t = qb at *
  have hit := r04_widen (n := 32) (lo := lo + qa) (hi := lo + qb - 1) (w := w) (l := l) (roomy_start (by omega) (by omega) (by omega)) hl (by omega) (by omega)
  simp (disch := omega) only [g_r04_Put, g_r04_narrow, e1, e2, hce, hsp, ht, Bool.not_true, cond_false, Option.bind_some, nF, nT, wrap_u64, d1, d2, Copy_eq hl, hit, flip3]

theorem coder_Put_bad {e : EncT} {C : List Int} {s : Int} (he : wfE e) (hC : small C) (hs : s < 2 ^ 63) (h : ¬ (okE e ∧ okSpan C s)) : g_coder_Put e C s = some ((0, (0, (0, ([], 0)))), 1) := by
  obtain ⟨lo, hi, w, B, N⟩ := e
  obtain ⟨h1, h2, h3, h4⟩ := he
  have h1 : 0 ≤ lo ∧ lo < 4294967296 := h1
  have h2 : 0 ≤ hi ∧ hi < 4294967296 := h2
  have e1 := wrap_u64 (n := lo) (by omega) (by omega)
  have e2 := wrap_u64 (n := hi) (by omega) (by omega)
  have hgd := good_eq (lo := lo) (hi := hi)
  have h3 : bytes B := h3
  have h4 : small B := h4
  have hc := bits_Check_eq (N := N) h3 h4
  have hsp := freq_Span_eq hC hs
  unfold spanS at hsp
  have eg : ∀ {α : Type} (x y : α), (bif (!((1 : Int) == 0)) then x else y) = x := fun x y => rfl
  have eg0 : ∀ {α : Type} (x y : α), (bif (!((0 : Int) == 0)) then x else y) = y := fun x y => rfl
  by_cases g : goodP lo hi
  · rw [decide_eq_true g] at hgd
    by_cases g1 : 0 ≤ w
    · by_cases g2 : w ≤ 65536
      · unfold ck at hc
        by_cases g3 : okB B N
        · rw [if_pos g3] at hc
          rw [if_neg (show ¬ (okF C ∧ 0 ≤ s ∧ s + 2 ≤ C.length) from fun hh => h ⟨⟨g, g1, g2, g3⟩, hh⟩)] at hsp
          simp (disch := omega) only [g_coder_Put, e1, e2, hgd, hc, hsp, cond_true, dT, Option.bind_some, eg0, nT]
        · rw [if_neg g3] at hc
          simp (disch := omega) only [g_coder_Put, e1, e2, hgd, hc, hsp, cond_true, dT, Option.bind_some, eg]
      · simp (disch := omega) only [g_coder_Put, e1, e2, hgd, hsp, cond_true, dT, dF, Option.bind_some, Bool.not_false]
    · simp (disch := omega) only [g_coder_Put, e1, e2, hgd, hsp, cond_true, dF, Option.bind_some, Bool.not_false]
  · rw [decide_eq_false g] at hgd
    simp (disch := omega) only [g_coder_Put, e1, e2, hgd, hsp, cond_true, cond_false, Option.bind_some, Bool.not_false]
theorem r04_Put_bad {e : EncT} {C : List Int} {s : Int} (he : wfE e) (hC : small C) (hs : s < 2 ^ 63) (h : ¬ (okE e ∧ okSpan C s)) : g_r04_Put e C s = some ((0, (0, (0, ([], 0)))), 1) := by
  have hsp := r03_Span_eq hC hs
  unfold spanS at hsp
  by_cases g : okE e
  · have hce := CheckEnc_t he g
    rw [if_neg (show ¬ (okF C ∧ 0 ≤ s ∧ s + 2 ≤ C.length) from fun hh => h ⟨g, hh⟩)] at hsp
    simp (disch := omega) only [g_r04_Put, hce, hsp, cond_true, cond_false, Bool.not_true, Option.bind_some, nT]
  · have hce := CheckEnc_f he g
    simp (disch := omega) only [g_r04_Put, hce, hsp, cond_true, Bool.not_false, Option.bind_some]
/-- the program's Put is the document's -/
theorem Put_same {e : EncT} {C : List Int} {s : Int} (he : wfE e) (hC : small C) (hs : s < 2 ^ 63) : ∃ r, g_coder_Put e C s = some r ∧ g_r04_Put e C s = some r ∧
    ((r = ((0, (0, (0, ([], 0)))), 1) ∧ ¬ (okE e ∧ okSpan C s)) ∨ ∃ (lo hi : Int) (w : Nat) (l : List Bool), e = (lo, (hi, ((w : Int), (pk l, (l.length : Int))))) ∧ okE e ∧ okSpan C s ∧ w ≤ 65536 ∧ l.length ≤ 65536 ∧ r = putR lo hi w l C s) := by
  by_cases h : okE e ∧ okSpan C s
  · obtain ⟨lo, hi, w, B, N⟩ := e
    obtain ⟨⟨g1, g2, g3, g4⟩, h2⟩ := h
    have g2 : 0 ≤ w := g2
    have g3 : w ≤ 65536 := g3
    obtain ⟨l, hB, hN, hl⟩ := (okB_iff he.2.2.1).1 g4
    have hB : B = pk l := hB
    have hN : N = l.length := hN
    subst hB; subst hN
    obtain ⟨n, rfl⟩ : ∃ n : Nat, w = n := ⟨w.toNat, by omega⟩
    have a1 : 0 ≤ lo := he.1.1
    have a2 : hi < 4294967296 := he.2.1.2
    exact ⟨_, coder_Put_ok a1 a2 g1 (by omega) hl h2, r04_Put_ok a1 a2 g1 (by omega) hl h2, .inr ⟨lo, hi, n, l, rfl, ⟨g1, g2, g3, g4⟩, h2, by omega, hl, rfl⟩⟩
  · exact ⟨_, coder_Put_bad he hC hs h, r04_Put_bad he hC hs h, .inl ⟨rfl, h⟩⟩
end Go.Sq
/- The coder: End; what is the same. -/
namespace Go.Sq
open Go.Rx

theorem End_r1_eq : g_coder_End_r1 = g_coder_Put_r1 := rfl
theorem End_r2_eq : g_coder_End_r2 = g_coder_Put_r1 := rfl
theorem coder_End_ok {lo hi : Int} {w : Nat} {l : List Bool} (hlo : 0 ≤ lo) (hhi : hi < 4294967296) (hg : goodP lo hi) (hw : w ≤ 65536) (hl : l.length ≤ 65536) :
    g_coder_End (lo, (hi, ((w : Int), (pk l, (l.length : Int))))) = some (outS l (decide (1073741824 ≤ lo)) (w + 1)) := by
  have hgl := hg.1
  have e1 := wrap_u64 (n := lo) (by omega) (by omega)
  have e2 := wrap_u64 (n := hi) (by omega) (by omega)
  have hgd := good_eq (lo := lo) (hi := hi)
  rw [decide_eq_true hg] at hgd
  have hc := bits_Check_eq (N := l.length) (pk_bytes l) (small_pk hl)
  rw [ck_pk hl] at hc
  have eg : ∀ {α : Type} (x y : α), (bif (!((0 : Int) == 0)) then x else y) = y := fun x y => rfl
  unfold outS
  by_cases h1 : lo < 1073741824
  · rw [decide_eq_false (by omega)]
    by_cases h2 : l.length + (w + 1) + 1 > 65536
    · rw [if_pos h2]
      simp (disch := omega) only [g_coder_End, e1, e2, hgd, hc, cond_true, dT, Option.bind_some, eg, wrap_i64]
    · rw [if_neg h2]
      have e3 := fun (K : Int × ((Int × Int) × Int × (List Int × Int) × Int) × Unit → Option ((List Int × Int) × Int)) => emits0 (l := l) (w := w + 1) (x := lo) (y := hi) (wt := (w : Int) + 1) (by omega) K
      have ew : ((w + 1 : Nat) : Int) = (w : Int) + 1 := by omega
      rw [ew] at e3
      simp (disch := omega) only [g_coder_End, e1, e2, hgd, hc, cond_true, dT, dF, Option.bind_some, eg, wrap_i64, End_r1_eq, e3, nF]
  · rw [decide_eq_true (by omega)]
    by_cases h2 : l.length + (w + 1) + 1 > 65536
    · rw [if_pos h2]
      simp (disch := omega) only [g_coder_End, e1, e2, hgd, hc, cond_true, dT, dF, Option.bind_some, eg, wrap_i64]
    · rw [if_neg h2]
      have e3 := fun (K : Int × ((Int × Int) × Int × (List Int × Int) × Int) × Unit → Option ((List Int × Int) × Int)) => emits1 (l := l) (w := w + 1) (x := lo) (y := hi) (wt := (w : Int) + 1) (by omega) K
      have ew : ((w + 1 : Nat) : Int) = (w : Int) + 1 := by omega
      rw [ew] at e3
      simp (disch := omega) only [g_coder_End, e1, e2, hgd, hc, cond_true, dT, dF, Option.bind_some, eg, wrap_i64, End_r2_eq, e3, nF]
theorem r04_End_ok {lo hi : Int} {w : Nat} {l : List Bool} (hlo : 0 ≤ lo) (hhi : hi < 4294967296) (hg : goodP lo hi) (hw : w ≤ 65536) (hl : l.length ≤ 65536) :
    g_r04_End (lo, (hi, ((w : Int), (pk l, (l.length : Int))))) = some (outS l (decide (1073741824 ≤ lo)) (w + 1)) := by
  have hgl := hg.1
  have hce := CheckEnc_t (e := (lo, (hi, ((w : Int), (pk l, (l.length : Int)))))) ⟨by simp only; omega, by simp only; omega, pk_bytes l, small_pk hl⟩ ⟨hg, by simp only; omega, by simp only; omega, (okB_iff (pk_bytes l)).2 ⟨l, rfl, rfl, hl⟩⟩
  have ew : ((w + 1 : Nat) : Int) = (w : Int) + 1 := by omega
  by_cases h1 : lo < 1073741824
  · rw [decide_eq_false (by omega)]
    have e := out_eq0 (l := l) (w := w + 1) hl (by omega)
    rw [ew] at e
    simp (disch := omega) only [g_r04_End, hce, Bool.not_true, cond_false, dT, Option.bind_some, wrap_i64, e]
  · rw [decide_eq_true (by omega)]
    have e := out_eq1 (l := l) (w := w + 1) hl (by omega)
    rw [ew] at e
    simp (disch := omega) only [g_r04_End, hce, Bool.not_true, cond_false, dF, Option.bind_some, wrap_i64, e]
theorem coder_End_bad {e : EncT} (he : wfE e) (h : ¬ okE e) : g_coder_End e = some (([], 0), 1) := by
  obtain ⟨lo, hi, w, B, N⟩ := e
  obtain ⟨h1, h2, h3, h4⟩ := he
  have h1 : 0 ≤ lo ∧ lo < 4294967296 := h1
  have h2 : 0 ≤ hi ∧ hi < 4294967296 := h2
  have e1 := wrap_u64 (n := lo) (by omega) (by omega)
  have e2 := wrap_u64 (n := hi) (by omega) (by omega)
  have hgd := good_eq (lo := lo) (hi := hi)
  have h3 : bytes B := h3
  have h4 : small B := h4
  have hc := bits_Check_eq (N := N) h3 h4
  have eg : ∀ {α : Type} (x y : α), (bif (!((1 : Int) == 0)) then x else y) = x := fun x y => rfl
  by_cases g : goodP lo hi
  · rw [decide_eq_true g] at hgd
    by_cases g1 : 0 ≤ w
    · by_cases g2 : w ≤ 65536
      · unfold ck at hc
        rw [if_neg (fun g3 => h ⟨g, g1, g2, g3⟩)] at hc
        simp (disch := omega) only [g_coder_End, e1, e2, hgd, hc, cond_true, dT, Option.bind_some, eg]
      · simp (disch := omega) only [g_coder_End, e1, e2, hgd, cond_true, dT, dF, Option.bind_some, Bool.not_false]
    · simp (disch := omega) only [g_coder_End, e1, e2, hgd, cond_true, dF, Option.bind_some, Bool.not_false]
  · rw [decide_eq_false g] at hgd
    simp (disch := omega) only [g_coder_End, e1, e2, hgd, cond_true, cond_false, Option.bind_some, Bool.not_false]
theorem r04_End_bad {e : EncT} (he : wfE e) (h : ¬ okE e) : g_r04_End e = some (([], 0), 1) := by
  have hce := CheckEnc_f he h
  simp (disch := omega) only [g_r04_End, hce, Bool.not_false, cond_true, Option.bind_some]
theorem End_same {e : EncT} (he : wfE e) : ∃ r, g_coder_End e = some r ∧ g_r04_End e = some r ∧ ((r = (([], 0), 1) ∧ ¬ okE e) ∨
    ∃ (lo hi : Int) (w : Nat) (l : List Bool), e = (lo, (hi, ((w : Int), (pk l, (l.length : Int))))) ∧ okE e ∧ w ≤ 65536 ∧ l.length ≤ 65536 ∧ r = outS l (decide (1073741824 ≤ lo)) (w + 1)) := by
  by_cases h : okE e
  · obtain ⟨lo, hi, w, B, N⟩ := e
    obtain ⟨g1, g2, g3, g4⟩ := h
    have g2 : 0 ≤ w := g2
    have g3 : w ≤ 65536 := g3
    obtain ⟨l, hB, hN, hl⟩ := (okB_iff he.2.2.1).1 g4
    have hB : B = pk l := hB
    have hN : N = l.length := hN
    subst hB; subst hN
    obtain ⟨n, rfl⟩ : ∃ n : Nat, w = n := ⟨w.toNat, by omega⟩
    have a1 : 0 ≤ lo := he.1.1
    have a2 : hi < 4294967296 := he.2.1.2
    exact ⟨_, coder_End_ok a1 a2 g1 (by omega) hl, r04_End_ok a1 a2 g1 (by omega) hl, .inr ⟨lo, hi, n, l, rfl, ⟨g1, g2, g3, g4⟩, by omega, hl, rfl⟩⟩
  · exact ⟨_, coder_End_bad he h, r04_End_bad he h, .inl ⟨rfl, h⟩⟩

/-! ### The same -/
theorem Same_refl (a : List Int × Int) : g_r01_Same a a = some true := by
  simp only [g_r01_Same, beq_self_eq_true, cond_true, strEq]
theorem SameEnc_refl (a : EncT) : g_r04_SameEnc a a = some true := by
  have h := Same_refl (a.2.2.2.1, a.2.2.2.2)
  simp only [g_r04_SameEnc, beq_self_eq_true, cond_true, h, Option.bind_some]
theorem few_eq {B : List Int} {N : Int} {F : List (List Int)} (hF : small F) (hB : small B) : g_law04_few (B, N) F = some (decide ((∀ C ∈ F, C.length ≤ 400) ∧ B.length ≤ 9000 ∧ F.length ≤ 100)) := by
  unfold small at hF hB
  have loop : ∃ r, iter g_law04_few_r1 (F, F, (F.length : Int), 0, (B, N), ()) = some r ∧ ((r = (.inl (F, (B, N), ()) : (List (List Int) × (List Int × Int) × Unit) ⊕ (Bool × Unit)) ∧ ∀ C ∈ F, C.length ≤ 400) ∨ (r = .inr (false, ()) ∧ ¬ ∀ C ∈ F, C.length ≤ 400)) := by
    refine iter_ex (fun x => ((F.length : Int) - x.2.2.2.1).toNat) (fun x => ∃ i : Nat, x = (F, F, (F.length : Int), (i : Int), (B, N), ()) ∧ i ≤ F.length ∧ ∀ j, j < i → (F.getD j []).length ≤ 400)
      (fun r => (r = (.inl (F, (B, N), ()) : (List (List Int) × (List Int × Int) × Unit) ⊕ (Bool × Unit)) ∧ ∀ C ∈ F, C.length ≤ 400) ∨ (r = .inr (false, ()) ∧ ¬ ∀ C ∈ F, C.length ≤ 400)) ?_ _ ⟨0, rfl, Nat.zero_le _, fun j hj => by omega⟩
    rintro x ⟨i, rfl, h1, h2⟩
    by_cases h3 : i < F.length
    · have hm : F.getD i [] ∈ F := by
        rw [List.getD_eq_getElem?_getD, List.getElem?_eq_getElem h3]; exact List.getElem_mem h3
      by_cases h4 : (F.getD i []).length > 400
      · right
        refine ⟨_, ?_, .inr ⟨rfl, fun h => by have := h _ hm; omega⟩⟩
        simp (disch := omega) only [g_law04_few_r1, dT, wT, Int.toNat_natCast]
      · left
        refine ⟨(F, F, (F.length : Int), ((i + 1 : Nat) : Int), (B, N), ()), ?_, ⟨i + 1, rfl, h3, fun j hj => ?_⟩, by simp only; omega⟩
        · simp (disch := omega) only [g_law04_few_r1, dT, dF, wT, Int.toNat_natCast, wrap_i64]
          rfl
        · rcases Nat.lt_or_eq_of_le (Nat.lt_succ_iff.1 hj) with h | rfl
          · exact h2 j h
          · omega
    · right
      refine ⟨_, ?_, .inl ⟨rfl, fun C hC => ?_⟩⟩
      · simp (disch := omega) only [g_law04_few_r1, dF]
      · obtain ⟨j, hj, e⟩ := List.getElem_of_mem hC
        have := h2 j (by omega)
        rw [List.getD_eq_getElem?_getD, List.getElem?_eq_getElem hj] at this
        rw [← e]; exact this
  obtain ⟨r, h1, h2⟩ := loop
  rcases h2 with ⟨rfl, h2⟩ | ⟨rfl, h2⟩
  · by_cases h3 : B.length ≤ 9000
    · simp (disch := omega) only [g_law04_few, h1, Option.bind_some, dT]
      congr 1
      rw [decide_eq_decide]
      exact ⟨fun h => ⟨h2, h3, by omega⟩, fun h => by omega⟩
    · simp (disch := omega) only [g_law04_few, h1, Option.bind_some, dF]
      rw [decide_eq_false (fun h => h3 h.2.1)]
  · simp (disch := omega) only [g_law04_few, h1, Option.bind_some]
    rw [decide_eq_false (fun h => h2 h.1)]
end Go.Sq
