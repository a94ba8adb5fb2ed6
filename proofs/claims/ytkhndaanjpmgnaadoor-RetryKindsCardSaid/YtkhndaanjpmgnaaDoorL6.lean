/- Parts of a proof: evaluation of Go code over typed values, and what it computes. -/
import Derived.Test.YtkhndaanjpmgnaaDoorF
import Derived.Test.YtkhndaanjpmgnaaDoorL3
import Derived.Test.YtkhndaanjpmgnaaDoorX4
set_option linter.unusedSimpArgs false
set_option linter.unusedVariables false
set_option linter.unusedSectionVars false
namespace Go.Sq
open Go.Rx
abbrev by8 (s : ByteArray) (i : Nat) : Nat := (s.data.getD i 0).toNat
theorem by8_lt (s : ByteArray) (i : Nat) : by8 s i < 256 := UInt8.toNat_lt _
abbrev sfx (s : ByteArray) (p : Nat) : ByteArray := s.extract p s.size
theorem sfx_size (s : ByteArray) (p : Nat) : (sfx s p).size = s.size - p := by simp [sfx, ByteArray.size_extract]
theorem by8_sfx (s : ByteArray) (p i : Nat) : by8 (sfx s p) i = by8 s (p + i) := by
 unfold by8 sfx
 congr 1
 rw [Array.getD_eq_getD_getElem?, Array.getD_eq_getD_getElem?]
 congr 1
 rw [ByteArray.data_extract, Array.getElem?_extract]
 split
 ·rfl
 ·rename_i h
  rw [Array.getElem?_eq_none]
  have : s.data.size = s.size := rfl
  omega
theorem sfx_sfx (s : ByteArray) (p q : Nat) : sfx (sfx s p) q = sfx s (p + q) := by
 unfold sfx
 rw [ByteArray.extract_extract]
 congr 1
 have := sfx_size s p
 unfold sfx at this
 rw [this]
 omega
theorem sfx_zero (s : ByteArray) : sfx s 0 = s := by unfold sfx; simp
theorem and_c0 {b : Nat} (h : b < 256) : bitsI .and .u8 (b : Int) 192 = ((b / 64 * 64 : Nat) : Int) := by
 have := and_nat8 (a := b) (b := 192) (by omega) (by decide)
 rw [show (192 : Int) = ((192 : Nat) : Int) from rfl, this]
 congr 1
 revert b; decide +kernel
theorem and_3f {b : Nat} (h : b < 256) : bitsI .and .u8 (b : Int) 63 = ((b % 64 : Nat) : Int) := by
 have := and_nat8 (a := b) (b := 63) (by omega) (by decide)
 rw [show (63 : Int) = ((63 : Nat) : Int) from rfl, this]
 congr 1
 revert b; decide +kernel
theorem or_i64 {a b : Nat} (ha : a < 2 ^ 62) (hb : b < 2 ^ 62) : bitsI .or .i64 (a : Int) (b : Int) = ((a ||| b : Nat) : Int) := by
 have hor : a ||| b < 2 ^ 62 := Nat.or_lt_two_pow ha hb
 have ea : (BitVec.ofInt 64 (a : Int)).toNat = a := by simp; omega
 have eb : (BitVec.ofInt 64 (b : Int)).toNat = b := by simp; omega
 show IntKind.i64.wrap (((BitVec.ofInt 64 (a : Int) ||| BitVec.ofInt 64 (b : Int)).toNat : Nat) : Int) = _
 rw [BitVec.toNat_or, ea, eb]
 exact wrap_i64 (by omega) (by omega)
theorem and_i64 {a b : Nat} (ha : a < 2 ^ 62) (hb : b < 2 ^ 62) : bitsI .and .i64 (a : Int) (b : Int) = ((a &&& b : Nat) : Int) := by
 have hor : a &&& b < 2 ^ 62 := Nat.and_lt_two_pow a hb
 have ea : (BitVec.ofInt 64 (a : Int)).toNat = a := by simp; omega
 have eb : (BitVec.ofInt 64 (b : Int)).toNat = b := by simp; omega
 show IntKind.i64.wrap (((BitVec.ofInt 64 (a : Int) &&& BitVec.ofInt 64 (b : Int)).toNat : Nat) : Int) = _
 rw [BitVec.toNat_and, ea, eb]
 exact wrap_i64 (by omega) (by omega)
theorem six {v b : Nat} (hv : v < 2 ^ 40) (hb : b < 256) : bitsI .or .i64 (shlI .i64 (v : Int) 6) (IntKind.i64.wrap (bitsI .and .u8 (b : Int) 63)) = ((v * 64 + b % 64 : Nat) : Int) := by
 rw [and_3f hb, wrap_i64 (by omega) (by omega)]
 have : shlI .i64 (v : Int) 6 = ((v <<< 6 : Nat) : Int) := by
  show IntKind.i64.wrap ((v : Int) * 2 ^ min (6 : Int).toNat 64) = _
  rw [show min (6 : Int).toNat 64 = 6 from rfl, wrap_i64 (by omega) (by omega), Nat.shiftLeft_eq]
  push_cast; rfl
 rw [this, or_i64 (by rw [Nat.shiftLeft_eq]; omega) (by omega), ← Nat.shiftLeft_add_eq_or_of_lt (by omega : b % 64 < 2 ^ 6), Nat.shiftLeft_eq]
def co (s : ByteArray) (i : Nat) : Prop := i < s.size ∧ by8 s i / 64 = 2
instance (s : ByteArray) (i : Nat) : Decidable (co s i) := by unfold co; infer_instance
def two (s : ByteArray) : Nat := by8 s 0 % 32 * 64 + by8 s 1 % 64
def three (s : ByteArray) : Nat := (by8 s 0 % 16 * 64 + by8 s 1 % 64) * 64 + by8 s 2 % 64
def four (s : ByteArray) : Nat := ((by8 s 0 % 8 * 64 + by8 s 1 % 64) * 64 + by8 s 2 % 64) * 64 + by8 s 3 % 64
def fstR (s : ByteArray) : Nat × Nat :=
 if by8 s 0 < 128 then (by8 s 0, 1)
 else if 194 ≤ by8 s 0 ∧ by8 s 0 < 224 then if co s 1 then (two s, 2) else (0, 0)
 else if 224 ≤ by8 s 0 ∧ by8 s 0 < 240 then if co s 1 ∧ co s 2 ∧ 2048 ≤ three s ∧ ¬ (55296 ≤ three s ∧ three s < 57344) then (three s, 3) else (0, 0)
 else if 240 ≤ by8 s 0 ∧ by8 s 0 < 245 then if co s 1 ∧ co s 2 ∧ co s 3 ∧ 65536 ≤ four s ∧ four s ≤ 1114111 then (four s, 4) else (0, 0)
 else (0, 0)
theorem first_r1 {s : ByteArray} {n v i : Nat} (hi : i < n) (hn : n ≤ s.size) (hv : v < 2 ^ 40) (h4 : n ≤ 4) : g_r15_first_r1 (s, (n : Int), (v : Int), (i : Int), ()) =
  if co s i then some (.inl (s, (n : Int), ((v * 64 + by8 s i % 64 : Nat) : Int), ((i + 1 : Nat) : Int), ())) else some (.inr (.inr (0, 0, ()))) := by
 have hb := by8_lt s i
 have ws : IntKind.i64.wrap ((i : Int) + 1) = ((i + 1 : Nat) : Int) := wrap_succ (by omega)
 simp (disch := omega) only [g_r15_first_r1, dT, wT, Int.toNat_natCast, and_c0 hb, six hv hb, ws]
 by_cases h : by8 s i / 64 = 2
 ·rw [if_pos (show co s i from ⟨by omega, h⟩), nF (by omega)]
 ·rw [if_neg (fun q : co s i => h q.2), nT (by omega)]
theorem first_r1e {s : ByteArray} {n v : Int} : g_r15_first_r1 (s, n, v, n, ()) = some (.inr (.inl (n, v, ()))) := by
 simp only [g_r15_first_r1, Int.lt_irrefl, decide_false, cond_false]
theorem and_low {x m k : Nat} (hx : x < 256) (hm : m < 256) (h : ∀ y, y < 256 → y &&& m = y % k) : bitsI .and .i64 (x : Int) (m : Int) = ((x % k : Nat) : Int) := by
 rw [and_i64 (by omega) (by omega), h x hx]
set_option maxRecDepth 20000 in
theorem first_eq {s : ByteArray} (h : 0 < s.size) : g_r15_first s = some (((fstR s).1 : Int), ((fstR s).2 : Int)) := by
 have hb := by8_lt s 0
 have b1 := by8_lt s 1
 have b2 := by8_lt s 2
 have b3 := by8_lt s 3
 have w0 : IntKind.i64.wrap ((s.data.getD 0 0).toNat : Int) = (by8 s 0 : Int) := wrap_i64 (show (_ : Int) ≤ (by8 s 0 : Int) by omega) (show (by8 s 0 : Int) < _ by omega)
 unfold g_r15_first fstR
 rw [wT (by omega) (by omega)]
 simp only [w0]
 by_cases c1 : by8 s 0 < 128
 ·rw [if_pos c1, dT (by omega)]
  rfl
 ·rw [if_neg c1, dF (by omega)]
  by_cases c2 : 194 ≤ by8 s 0
  ·rw [dT (by omega)]
   by_cases c3 : by8 s 0 < 224
   ·rw [if_pos ⟨c2, c3⟩]
    have a := and_low (k := 32) (m := 31) hb (by decide) (by decide +kernel)
    simp only [Option.bind_some, decide_eq_true (show (by8 s 0 : Int) < 224 by omega), cond_true, show ((2 : Int) == 0) = false from rfl, cond_false]
    by_cases hz : 2 ≤ s.size
    ·simp only [decide_eq_false (show ¬ (s.size : Int) < 2 by omega), cond_false]
     rw [show (31 : Int) = ((31 : Nat) : Int) from rfl, a]
     have r1 := first_r1 (s := s) (n := 2) (v := by8 s 0 % 32) (i := 1) (by omega) hz (by omega) (by omega)
     by_cases k1 : co s 1
     ·rw [if_pos k1] at r1 ⊢
      rw [show iter g_r15_first_r1 (s, 2, ((by8 s 0 % 32 : Nat) : Int), 1, ()) = _ from (iter_inl r1).trans (iter_inr first_r1e)]
      rfl
     ·rw [if_neg k1] at r1 ⊢
      rw [show iter g_r15_first_r1 (s, 2, ((by8 s 0 % 32 : Nat) : Int), 1, ()) = _ from iter_inr r1]
      rfl
    ·rw [if_neg (fun q : co s 1 => by have := q.1; omega)]
     simp only [decide_eq_true (show (s.size : Int) < 2 by omega), cond_true]
     rfl
   ·rw [if_neg (fun q => c3 q.2)]
    simp only [Option.bind_some, decide_eq_false (show ¬ (by8 s 0 : Int) < 224 by omega), cond_false]
    rw [dT (by omega)]
    by_cases c4 : by8 s 0 < 240
    ·rw [if_pos ⟨by omega, c4⟩]
     have a := and_low (k := 16) (m := 15) hb (by decide) (by decide +kernel)
     simp only [Option.bind_some, decide_eq_true (show (by8 s 0 : Int) < 240 by omega), cond_true, show ((3 : Int) == 0) = false from rfl, cond_false]
     by_cases hz : 3 ≤ s.size
     ·simp only [decide_eq_false (show ¬ (s.size : Int) < 3 by omega), cond_false]
      rw [show (15 : Int) = ((15 : Nat) : Int) from rfl, a]
      have r1 := first_r1 (s := s) (n := 3) (v := by8 s 0 % 16) (i := 1) (by omega) hz (by omega) (by omega)
      have r2 := first_r1 (s := s) (n := 3) (v := by8 s 0 % 16 * 64 + by8 s 1 % 64) (i := 2) (by omega) hz (by omega) (by omega)
      by_cases k1 : co s 1
      ·rw [if_pos k1] at r1
       by_cases k2 : co s 2
       ·rw [if_pos k2] at r2
        rw [show iter g_r15_first_r1 (s, 3, ((by8 s 0 % 16 : Nat) : Int), 1, ()) = _ from (iter_inl r1).trans ((iter_inl r2).trans (iter_inr first_r1e))]
        have hv : (by8 s 0 % 16 * 64 + by8 s 1 % 64) * 64 + by8 s 2 % 64 = three s := rfl
        rw [hv]
        simp only [Option.bind_some, show (((3 : Nat) : Int) == 3) = true from rfl, cond_true, show (((3 : Nat) : Int) == 4) = false from rfl, cond_false]
        by_cases d1 : three s < 2048
        ·rw [if_neg (fun q => by omega), dT (by omega)]; rfl
        ·rw [dF (by omega)]
         by_cases d2 : 55296 ≤ three s
         ·rw [dT (by omega)]
          by_cases d3 : three s < 57344
          ·rw [if_neg (fun q => q.2.2.2 ⟨d2, d3⟩), dT (by omega)]; rfl
          ·rw [if_pos ⟨k1, k2, by omega, fun q => d3 q.2⟩, dF (by omega)]; rfl
         ·rw [if_pos ⟨k1, k2, by omega, fun q => d2 q.1⟩, dF (by omega)]; rfl
       ·rw [if_neg k2] at r2
        rw [show iter g_r15_first_r1 (s, 3, ((by8 s 0 % 16 : Nat) : Int), 1, ()) = _ from (iter_inl r1).trans (iter_inr r2), if_neg (fun q => k2 q.2.1)]
        rfl
      ·rw [if_neg k1] at r1
       rw [show iter g_r15_first_r1 (s, 3, ((by8 s 0 % 16 : Nat) : Int), 1, ()) = _ from iter_inr r1, if_neg (fun q => k1 q.1)]
       rfl
     ·rw [if_neg (fun q => by have := q.2.1.1; omega)]
      simp only [decide_eq_true (show (s.size : Int) < 3 by omega), cond_true]
      rfl
    ·rw [if_neg (fun q => c4 q.2)]
     simp only [Option.bind_some, decide_eq_false (show ¬ (by8 s 0 : Int) < 240 by omega), cond_false]
     rw [dT (by omega)]
     by_cases c5 : by8 s 0 < 245
     ·rw [if_pos ⟨by omega, c5⟩]
      have a := and_low (k := 8) (m := 7) hb (by decide) (by decide +kernel)
      simp only [Option.bind_some, decide_eq_true (show (by8 s 0 : Int) < 245 by omega), cond_true, show ((4 : Int) == 0) = false from rfl, cond_false]
      by_cases hz : 4 ≤ s.size
      ·simp only [decide_eq_false (show ¬ (s.size : Int) < 4 by omega), cond_false]
       rw [show (7 : Int) = ((7 : Nat) : Int) from rfl, a]
       have r1 := first_r1 (s := s) (n := 4) (v := by8 s 0 % 8) (i := 1) (by omega) hz (by omega) (by omega)
       have r2 := first_r1 (s := s) (n := 4) (v := by8 s 0 % 8 * 64 + by8 s 1 % 64) (i := 2) (by omega) hz (by omega) (by omega)
       have r3 := first_r1 (s := s) (n := 4) (v := (by8 s 0 % 8 * 64 + by8 s 1 % 64) * 64 + by8 s 2 % 64) (i := 3) (by omega) hz (by omega) (by omega)
       by_cases k1 : co s 1
       ·rw [if_pos k1] at r1
        by_cases k2 : co s 2
        ·rw [if_pos k2] at r2
         by_cases k3 : co s 3
         ·rw [if_pos k3] at r3
          rw [show iter g_r15_first_r1 (s, 4, ((by8 s 0 % 8 : Nat) : Int), 1, ()) = _ from (iter_inl r1).trans ((iter_inl r2).trans ((iter_inl r3).trans (iter_inr first_r1e)))]
          have hv : ((by8 s 0 % 8 * 64 + by8 s 1 % 64) * 64 + by8 s 2 % 64) * 64 + by8 s 3 % 64 = four s := rfl
          rw [hv]
          simp only [Option.bind_some, show (((4 : Nat) : Int) == 3) = false from rfl, cond_true, show (((4 : Nat) : Int) == 4) = true from rfl, cond_false]
          by_cases d1 : four s < 65536
          ·rw [if_neg (fun q => by omega), dT (by omega)]; rfl
          ·rw [dF (by omega)]
           by_cases d2 : four s ≤ 1114111
           ·rw [if_pos ⟨k1, k2, k3, by omega, d2⟩]
            simp only [Option.bind_some, decide_eq_false (show ¬ (four s : Int) > 1114111 by omega), cond_false]
           ·rw [if_neg (fun q => d2 q.2.2.2.2)]
            simp only [Option.bind_some, decide_eq_true (show (four s : Int) > 1114111 by omega), cond_true]; rfl
         ·rw [if_neg k3] at r3
          rw [show iter g_r15_first_r1 (s, 4, ((by8 s 0 % 8 : Nat) : Int), 1, ()) = _ from (iter_inl r1).trans ((iter_inl r2).trans (iter_inr r3)), if_neg (fun q => k3 q.2.2.1)]
          rfl
        ·rw [if_neg k2] at r2
         rw [show iter g_r15_first_r1 (s, 4, ((by8 s 0 % 8 : Nat) : Int), 1, ()) = _ from (iter_inl r1).trans (iter_inr r2), if_neg (fun q => k2 q.2.1)]
         rfl
       ·rw [if_neg k1] at r1
        rw [show iter g_r15_first_r1 (s, 4, ((by8 s 0 % 8 : Nat) : Int), 1, ()) = _ from iter_inr r1, if_neg (fun q => k1 q.1)]
        rfl
      ·rw [if_neg (fun q => by have := q.2.2.1.1; omega)]
       simp only [decide_eq_true (show (s.size : Int) < 4 by omega), cond_true]
       rfl
     ·rw [if_neg (fun q => c5 q.2)]
      simp only [Option.bind_some, decide_eq_false (show ¬ (by8 s 0 : Int) < 245 by omega), cond_false]
      rfl
  ·rw [if_neg (fun q => c2 q.1), if_neg (fun q => by omega), if_neg (fun q => by omega), dF (by omega)]
   simp only [Option.bind_some, cond_false]
   rw [dF (by omega)]
   simp only [Option.bind_some, cond_false]
   rw [dF (by omega)]
   rfl
end Go.Sq
namespace Go.Sq
open Go.Rx
theorem fst_pos {s : ByteArray} (h : (fstR s).2 ≠ 0) : 1 ≤ (fstR s).2 ∧ (fstR s).2 ≤ 4 ∧ (0 < s.size → (fstR s).2 ≤ s.size) := by
 unfold fstR at h ⊢
 split
 ·exact ⟨Nat.le_refl 1, show 1 ≤ 4 by decide, id⟩
 ·split
  ·split
   ·rename_i k; exact ⟨show 1 ≤ 2 by decide, show 2 ≤ 4 by decide, fun _ => k.1⟩
   ·rename_i a b c; rw [if_neg a, if_pos b, if_neg c] at h; exact absurd rfl h
  ·split
   ·split
    ·rename_i k; exact ⟨show 1 ≤ 3 by decide, show 3 ≤ 4 by decide, fun _ => k.2.1.1⟩
    ·rename_i a b c d; rw [if_neg a, if_neg b, if_pos c, if_neg d] at h; exact absurd rfl h
   ·split
    ·split
     ·rename_i k; exact ⟨show 1 ≤ 4 by decide, show 4 ≤ 4 by decide, fun _ => k.2.2.1.1⟩
     ·rename_i a b c d e; rw [if_neg a, if_neg b, if_neg c, if_pos d, if_neg e] at h; exact absurd rfl h
    ·rename_i a b c d; rw [if_neg a, if_neg b, if_neg c, if_neg d] at h; exact absurd rfl h
theorem get_by8 (s : ByteArray) (i : Nat) : (s.get! i).toNat = by8 s i := by
 unfold by8
 congr 1
theorem dec_eq {s : ByteArray} {p : Nat} (hp : p < s.size) (h : (fstR (sfx s p)).2 ≠ 0) : Utf8.decode s p = fstR (sfx s p) := by
 have hb := by8_lt s p
 have hz := sfx_size s p
 have g0 : by8 (sfx s p) 0 = by8 s p := by rw [by8_sfx]; rfl
 have g1 : by8 (sfx s p) 1 = by8 s (p + 1) := by8_sfx s p 1
 have g2 : by8 (sfx s p) 2 = by8 s (p + 2) := by8_sfx s p 2
 have g3 : by8 (sfx s p) 3 = by8 s (p + 3) := by8_sfx s p 3
 have cc : ∀ {i}, co (sfx s p) i → (decide (p + i < s.size) && by8 s (p + i) / 64 == 2) = true := fun {i} k => by
  obtain ⟨k1, k2⟩ := k
  rw [hz] at k1
  rw [by8_sfx] at k2
  simp only [Bool.and_eq_true, decide_eq_true_eq, beq_iff_eq]
  exact ⟨by omega, k2⟩
 unfold Utf8.decode
 simp only [get_by8, Nat.add_zero]
 revert h
 unfold fstR
 rw [g0]
 by_cases c1 : by8 s p < 128
 ·simp only [if_pos c1]; intro _; trivial
 ·simp only [if_neg c1]
  by_cases c2 : 194 ≤ by8 s p ∧ by8 s p < 224
  ·simp only [if_pos c2]
   by_cases k : co (sfx s p) 1
   ·simp only [if_pos k]
    intro _
    have t2 : two (sfx s p) = by8 s p % 32 * 64 + by8 s (p + 1) % 64 := by unfold two; rw [g0, g1]
    rw [cc k, Bool.and_true, show (by8 s p / 32 == 6) = true from beq_iff_eq.2 (by omega), if_pos rfl, t2, if_pos (by omega)]
   ·simp only [if_neg k]; intro h; exact absurd rfl h
  ·simp only [if_neg c2]
   by_cases c3 : 224 ≤ by8 s p ∧ by8 s p < 240
   ·simp only [if_pos c3]
    by_cases k : co (sfx s p) 1 ∧ co (sfx s p) 2 ∧ 2048 ≤ three (sfx s p) ∧ ¬(55296 ≤ three (sfx s p) ∧ three (sfx s p) < 57344)
    ·simp only [if_pos k]
     intro _
     have t3 : three (sfx s p) = by8 s p % 16 * 4096 + by8 s (p + 1) % 64 * 64 + by8 s (p + 2) % 64 := by unfold three; rw [g0, g1, g2]; omega
     obtain ⟨k1, k2, k3, k4⟩ := k
     rw [t3] at k3 k4 ⊢
     rw [cc k1, cc k2, show (by8 s p / 32 == 6) = false from beq_false_of_ne (by omega), show (by8 s p / 16 == 14) = true from beq_iff_eq.2 (by omega)]
     simp only [Bool.false_and, Bool.false_eq_true, if_false, Bool.and_self, if_true]
     rw [if_pos]
     simp only [Bool.and_eq_true, decide_eq_true_eq, Utf8.valid, Bool.or_eq_true]
     omega
    ·simp only [if_neg k]; intro h; exact absurd rfl h
   ·simp only [if_neg c3]
    by_cases c4 : 240 ≤ by8 s p ∧ by8 s p < 245
    ·simp only [if_pos c4]
     by_cases k : co (sfx s p) 1 ∧ co (sfx s p) 2 ∧ co (sfx s p) 3 ∧ 65536 ≤ four (sfx s p) ∧ four (sfx s p) ≤ 1114111
     ·simp only [if_pos k]
      intro _
      have t4 : four (sfx s p) = by8 s p % 8 * 262144 + by8 s (p + 1) % 64 * 4096 + by8 s (p + 2) % 64 * 64 + by8 s (p + 3) % 64 := by unfold four; rw [g0, g1, g2, g3]; omega
      obtain ⟨k1, k2, k3, k4, k5⟩ := k
      rw [t4] at k4 k5 ⊢
      rw [cc k1, cc k2, cc k3, show (by8 s p / 32 == 6) = false from beq_false_of_ne (by omega), show (by8 s p / 16 == 14) = false from beq_false_of_ne (by omega), show (by8 s p / 8 == 30) = true from beq_iff_eq.2 (by omega)]
      simp only [Bool.false_and, Bool.false_eq_true, if_false, Bool.and_self, if_true]
      rw [if_pos]
      simp only [Bool.and_eq_true, decide_eq_true_eq, Utf8.valid, Bool.or_eq_true]
      omega
     ·simp only [if_neg k]; intro h; exact absurd rfl h
    ·simp only [if_neg c4]; intro h; exact absurd rfl h
theorem runeLen_pos (s : ByteArray) (p : Nat) : 1 ≤ runeLen s p ∧ runeLen s p ≤ 4 := by
 have h1 : ∀ v : Nat, 1 ≤ (v, 1).2 ∧ (v, 1).2 ≤ 4 := fun _ => ⟨show 1 ≤ 1 by decide, show 1 ≤ 4 by decide⟩
 have h2 : ∀ v : Nat, 1 ≤ (v, 2).2 ∧ (v, 2).2 ≤ 4 := fun _ => ⟨show 1 ≤ 2 by decide, show 2 ≤ 4 by decide⟩
 have h3 : ∀ v : Nat, 1 ≤ (v, 3).2 ∧ (v, 3).2 ≤ 4 := fun _ => ⟨show 1 ≤ 3 by decide, show 3 ≤ 4 by decide⟩
 have h4 : ∀ v : Nat, 1 ≤ (v, 4).2 ∧ (v, 4).2 ≤ 4 := fun _ => ⟨show 1 ≤ 4 by decide, show 4 ≤ 4 by decide⟩
 unfold runeLen Utf8.decode
 simp only
 split
 ·exact h1 _
 ·split
  ·split
   ·exact h2 _
   ·exact h1 _
  ·split
   ·split
    ·exact h3 _
    ·exact h1 _
   ·split
    ·split
     ·exact h4 _
     ·exact h1 _
    ·exact h1 _
def runes (s : ByteArray) : Option (List Nat) :=
 if _h : s.size = 0 then some [] else
 if k : (fstR s).2 = 0 then none else
 (runes (sfx s (fstR s).2)).map ((fstR s).1 :: ·)
termination_by s.size
decreasing_by
 rw [sfx_size]
 have := (fst_pos k).1
 omega
theorem runes_nil {s : ByteArray} (h : s.size = 0) : runes s = some [] := by rw [runes, dif_pos h]
theorem runes_bad {s : ByteArray} (h : s.size ≠ 0) (k : (fstR s).2 = 0) : runes s = none := by rw [runes, dif_neg h, dif_pos k]
theorem runes_step {s : ByteArray} (h : s.size ≠ 0) (k : (fstR s).2 ≠ 0) : runes s = (runes (sfx s (fstR s).2)).map ((fstR s).1 :: ·) := by
 rw [runes, dif_neg h, dif_neg k]
def cleanR (v : Nat) : Bool := decide (32 ≤ v) && v != 127
def nameP (s : ByteArray) : Bool :=
 match runes s with
 | none => false
 | some l => l.all cleanR && decide (l.length ≤ 16)
theorem r15_Name_eq {s : ByteArray} (hs : s.size ≤ 9223372036854775807) : g_r15_Name s = some (nameP s) := by
 obtain ⟨r, h1, h2⟩ := iter_ex (f := g_r15_Name_r1) (fun x => x.1.size)
  (fun x => ∃ l1 : List Nat, x.2.1 = (l1.length : Int) ∧ l1.length + x.1.size ≤ s.size ∧ l1.all cleanR = true ∧ runes s = (runes x.1).map (l1 ++ ·))
  (fun r => match r with
   | .inl (m, _) => ∃ l : List Nat, runes s = some l ∧ m = (l.length : Int) ∧ l.all cleanR = true
   | .inr (b, _) => b = false ∧ nameP s = false) (fun x hx => by
   obtain ⟨t, m, u⟩ := x
   obtain ⟨l1, hm, hsz, hc, hr⟩ := hx
   have hm : m = (l1.length : Int) := hm
   have hsz : l1.length + t.size ≤ s.size := hsz
   have hr : runes s = (runes t).map (l1 ++ ·) := hr
   subst hm
   by_cases h0 : t.size = 0
   ·right
    refine ⟨.inl ((l1.length : Int), ()), by simp (disch := omega) only [g_r15_Name_r1, dF], l1, ?_, rfl, hc⟩
    rw [hr, runes_nil h0, Option.map_some, List.append_nil]
   ·have hf := first_eq (s := t) (by omega)
    by_cases hk : (fstR t).2 = 0
    ·right
     refine ⟨.inr (false, ()), ?_, rfl, ?_⟩
     ·simp (disch := omega) only [g_r15_Name_r1, dT, hf, Option.bind_some, hk, beq_self_eq_true, cond_true, show ((0 : Nat) : Int) = 0 from rfl]
     ·unfold nameP; rw [hr, runes_bad h0 hk]; rfl
    ·have hp := fst_pos hk
     by_cases hcl : cleanR (fstR t).1 = true
     ·left
      have hcl2 := hcl
      simp only [cleanR, Bool.and_eq_true, decide_eq_true_eq, bne_iff_ne] at hcl2
      have ws : IntKind.i64.wrap ((l1.length : Int) + 1) = ((l1.length + 1 : Nat) : Int) := by rw [wrap_i64 (by omega) (by omega)]; rfl
      refine ⟨(sfx t (fstR t).2, ((l1.length + 1 : Nat) : Int), ()), ?_, ⟨l1 ++ [(fstR t).1], by simp, ?_, ?_, ?_⟩, ?_⟩
      ·have e1 : (((fstR t).2 : Int) == 0) = false := beq_false_of_ne (by omega)
       have e2 : (((fstR t).1 : Int) == 127) = false := beq_false_of_ne (by omega)
       simp (disch := omega) only [g_r15_Name_r1, dT, dF, hf, Option.bind_some, e1, e2, cond_false, gT, Int.toNat_natCast, ws]
      ·have := sfx_size t (fstR t).2
       show (l1 ++ [(fstR t).1]).length + (sfx t (fstR t).2).size ≤ s.size
       rw [List.length_append, List.length_singleton]
       have := hp.2.2 (by omega)
       omega
      ·rw [List.all_append, hc]; simp [hcl]
      ·show runes s = (runes (sfx t (fstR t).2)).map _
       rw [hr, runes_step h0 hk, Option.map_map]
       congr 1
       funext q
       simp
      ·have := sfx_size t (fstR t).2
       show (sfx t (fstR t).2).size < t.size
       omega
     ·right
      refine ⟨.inr (false, ()), ?_, rfl, ?_⟩
      ·have e1 : (((fstR t).2 : Int) == 0) = false := beq_false_of_ne (by omega)
       simp only [cleanR, Bool.and_eq_true, decide_eq_true_eq, bne_iff_ne] at hcl
       by_cases h32 : (fstR t).1 < 32
       ·simp (disch := omega) only [g_r15_Name_r1, dT, hf, Option.bind_some, e1, cond_false, cond_true]
       ·have e2 : (((fstR t).1 : Int) == 127) = true := beq_iff_eq.2 (by omega)
        simp (disch := omega) only [g_r15_Name_r1, dT, dF, hf, Option.bind_some, e1, e2, cond_false, cond_true]
      ·unfold nameP
       rw [hr, runes_step h0 hk]
       cases runes (sfx t (fstR t).2) with
       | none => rfl
       | some q =>
        simp only [Option.map_some, List.all_append, List.all_cons, hc, Bool.true_and]
        rw [Bool.not_eq_true] at hcl
        rw [hcl]; rfl) (s, 0, ()) ⟨[], rfl, by simp, rfl, by cases runes s <;> simp⟩
 unfold g_r15_Name
 rw [h1]
 match r, h2 with
 | .inl (m, ()), ⟨l, e1, e2, e3⟩ =>
  simp only [Option.bind_some, e2]
  unfold nameP
  rw [e1]
  simp only [e3, Bool.true_and]
  congr 1
  apply decide_eq_decide.2
  omega
 | .inr (b, ()), ⟨e1, e2⟩ => simp only [Option.bind_some, e1, e2]
end Go.Sq
namespace Go.Sq
open Go.Rx
def maskU : Nat := 9259542123273814144
def wordN (s : ByteArray) : Nat := ((((((by8 s 0 ||| by8 s 1 <<< 8) ||| by8 s 2 <<< 16) ||| by8 s 3 <<< 24) ||| by8 s 4 <<< 32) ||| by8 s 5 <<< 40) ||| by8 s 6 <<< 48) ||| by8 s 7 <<< 56
theorem shl_byte {b n : Nat} (hb : b < 256) (hn : n ≤ 56) : shlI .u64 (IntKind.u64.wrap (b : Int)) (n : Int) = ((b <<< n : Nat) : Int) ∧ b <<< n < 2 ^ 64 := by
 have h1 : b <<< n < 2 ^ 64 := by
  rw [Nat.shiftLeft_eq]
  calc b * 2 ^ n ≤ 255 * 2 ^ 56 := Nat.mul_le_mul (by omega) (Nat.pow_le_pow_right (by decide) hn)
   _ < 2 ^ 64 := by decide
 rw [wrap_u64 (by omega) (by omega), shl_nat64 (by omega), Nat.mod_eq_of_lt h1]
 exact ⟨rfl, h1⟩
theorem word_eq {s : ByteArray} (h : 8 ≤ s.size) : g_unicode_utf8_word_string s = some ((wordN s : Nat) : Int) ∧ wordN s < 2 ^ 64 := by
 have b := by8_lt s
 have b0 := b 0
 obtain ⟨e1, l1⟩ := shl_byte (n := 8) (b 1) (by decide)
 obtain ⟨e2, l2⟩ := shl_byte (n := 16) (b 2) (by decide)
 obtain ⟨e3, l3⟩ := shl_byte (n := 24) (b 3) (by decide)
 obtain ⟨e4, l4⟩ := shl_byte (n := 32) (b 4) (by decide)
 obtain ⟨e5, l5⟩ := shl_byte (n := 40) (b 5) (by decide)
 obtain ⟨e6, l6⟩ := shl_byte (n := 48) (b 6) (by decide)
 obtain ⟨e7, l7⟩ := shl_byte (n := 56) (b 7) (by decide)
 have l0 : by8 s 0 < 2 ^ 64 := by omega
 have m1 := Nat.or_lt_two_pow l0 l1
 have m2 := Nat.or_lt_two_pow m1 l2
 have m3 := Nat.or_lt_two_pow m2 l3
 have m4 := Nat.or_lt_two_pow m3 l4
 have m5 := Nat.or_lt_two_pow m4 l5
 have m6 := Nat.or_lt_two_pow m5 l6
 have m7 := Nat.or_lt_two_pow m6 l7
 refine ⟨?_, m7⟩
 have e0 : IntKind.u64.wrap ((s.data.getD 0 0).toNat : Int) = (by8 s 0 : Int) := wrap_u64 (show (0 : Int) ≤ (by8 s 0 : Int) by omega) (show (by8 s 0 : Int) < _ by omega)
 unfold g_unicode_utf8_word_string
 iterate 8 rw [wT (by omega) (by omega)]
 rw [e0]
 have e1 : shlI .u64 (IntKind.u64.wrap ((s.data.getD 1 0).toNat : Int)) 8 = _ := e1
 have e2 : shlI .u64 (IntKind.u64.wrap ((s.data.getD 2 0).toNat : Int)) 16 = _ := e2
 have e3 : shlI .u64 (IntKind.u64.wrap ((s.data.getD 3 0).toNat : Int)) 24 = _ := e3
 have e4 : shlI .u64 (IntKind.u64.wrap ((s.data.getD 4 0).toNat : Int)) 32 = _ := e4
 have e5 : shlI .u64 (IntKind.u64.wrap ((s.data.getD 5 0).toNat : Int)) 40 = _ := e5
 have e6 : shlI .u64 (IntKind.u64.wrap ((s.data.getD 6 0).toNat : Int)) 48 = _ := e6
 have e7 : shlI .u64 (IntKind.u64.wrap ((s.data.getD 7 0).toNat : Int)) 56 = _ := e7
 rw [e1, e2, e3, e4, e5, e6, e7, or_nat64 l0 l1, or_nat64 m1 l2, or_nat64 m2 l3, or_nat64 m3 l4, or_nat64 m4 l5, or_nat64 m5 l6, or_nat64 m6 l7]
 rfl
theorem hi_bit {b : Nat} (h : b < 256) (h' : 128 ≤ b) : b.testBit 7 = true := by
 revert h h'; revert b; decide +kernel
theorem and_or0 {a b m : Nat} (h : (a ||| b) &&& m = 0) : a &&& m = 0 ∧ b &&& m = 0 := by
 constructor
 ·apply Nat.eq_of_testBit_eq
  intro i
  have := congrArg (·.testBit i) h
  simp only [Nat.testBit_and, Nat.testBit_or, Nat.zero_testBit] at this ⊢
  cases ha : a.testBit i <;> cases hm : m.testBit i <;> simp [ha, hm] at this ⊢
 ·apply Nat.eq_of_testBit_eq
  intro i
  have := congrArg (·.testBit i) h
  simp only [Nat.testBit_and, Nat.testBit_or, Nat.zero_testBit] at this ⊢
  cases ha : b.testBit i <;> cases hm : m.testBit i <;> simp [ha, hm] at this ⊢
theorem low_of {b n : Nat} (hb : b < 256) (h : b <<< n &&& maskU = 0) (hm : maskU.testBit (n + 7) = true) : b < 128 := by
 refine Nat.lt_of_not_le fun h' => ?_
 have := congrArg (·.testBit (n + 7)) h
 have e : (b <<< n).testBit (n + 7) = true := by rw [Nat.testBit_shiftLeft]; simp [hi_bit hb h']
 simp [Nat.testBit_and, e, hm] at this
theorem word_low {s : ByteArray} (h : wordN s &&& maskU = 0) : ∀ i, i < 8 → by8 s i < 128 := by
 have b := by8_lt s
 unfold wordN at h
 obtain ⟨h, h7⟩ := and_or0 h
 obtain ⟨h, h6⟩ := and_or0 h
 obtain ⟨h, h5⟩ := and_or0 h
 obtain ⟨h, h4⟩ := and_or0 h
 obtain ⟨h, h3⟩ := and_or0 h
 obtain ⟨h, h2⟩ := and_or0 h
 obtain ⟨h, h1⟩ := and_or0 h
 intro i hi
 match i, hi with
 | 0, _ => exact low_of (n := 0) (b 0) (by simpa using h) (by decide +kernel)
 | 1, _ => exact low_of (b 1) h1 (by decide +kernel)
 | 2, _ => exact low_of (b 2) h2 (by decide +kernel)
 | 3, _ => exact low_of (b 3) h3 (by decide +kernel)
 | 4, _ => exact low_of (b 4) h4 (by decide +kernel)
 | 5, _ => exact low_of (b 5) h5 (by decide +kernel)
 | 6, _ => exact low_of (b 6) h6 (by decide +kernel)
 | 7, _ => exact low_of (b 7) h7 (by decide +kernel)
theorem test_mask {w : Nat} (h : w < 2 ^ 64) : ((bitsI .and .u64 (w : Int) 9259542123273814144) == 0) = decide (w &&& maskU = 0) := by
 have := and_nat64 (a := w) (b := maskU) h (by decide)
 rw [show (9259542123273814144 : Int) = ((maskU : Nat) : Int) from rfl, this]
 by_cases k : w &&& maskU = 0
 ·rw [k, decide_eq_true rfl]; rfl
 ·rw [decide_eq_false k]; exact beq_false_of_ne (by omega)
theorem fst_low {s : ByteArray} (h : by8 s 0 < 128) : fstR s = (by8 s 0, 1) := if_pos h
theorem runes_skip {s : ByteArray} : ∀ k, k ≤ s.size → (∀ i, i < k → by8 s i < 128) → (runes s).isSome = (runes (sfx s k)).isSome
 | 0, _, _ => by rw [sfx_zero]
 | k + 1, hk, h => by
  have hz := sfx_size s k
  have h0 : by8 (sfx s k) 0 < 128 := by rw [by8_sfx]; exact h k (by omega)
  have e := fst_low h0
  rw [runes_skip k (by omega) (fun i hi => h i (by omega)), runes_step (s := sfx s k) (by omega) (by rw [e]; exact Nat.one_ne_zero), Option.isSome_map, e, sfx_sfx]
theorem valid_r1 (s : ByteArray) : ∃ t : ByteArray, iter g_unicode_utf8_ValidString_r1 (s, ()) = some (t, ()) ∧ t.size ≤ s.size ∧ (runes t).isSome = (runes s).isSome := by
 obtain ⟨r, h1, h2⟩ := iter_ex (f := g_unicode_utf8_ValidString_r1) (fun x => x.1.size) (fun x => x.1.size ≤ s.size ∧ (runes x.1).isSome = (runes s).isSome) (fun r => r.1.size ≤ s.size ∧ (runes r.1).isSome = (runes s).isSome) (fun x hx => by
  obtain ⟨t, u⟩ := x
  obtain ⟨hz, hr⟩ := hx
  have hz : t.size ≤ s.size := hz
  have hr : (runes t).isSome = (runes s).isSome := hr
  by_cases h : 32 < t.size
  ·have z8 := sfx_size t 8
   have z16 := sfx_size t 16
   have z24 := sfx_size t 24
   have z32 := sfx_size t 32
   obtain ⟨w0, l0⟩ := word_eq (s := t) (by omega)
   obtain ⟨w1, l1⟩ := word_eq (s := sfx t 8) (by omega)
   obtain ⟨w2, l2⟩ := word_eq (s := sfx t 16) (by omega)
   obtain ⟨w3, l3⟩ := word_eq (s := sfx t 24) (by omega)
   have m := test_mask (Nat.or_lt_two_pow (Nat.or_lt_two_pow l0 l1) (Nat.or_lt_two_pow l2 l3))
   have e1 := or_nat64 l0 l1
   have e2 := or_nat64 l2 l3
   have e3 := or_nat64 (Nat.or_lt_two_pow l0 l1) (Nat.or_lt_two_pow l2 l3)
   by_cases k : ((wordN t ||| wordN (sfx t 8)) ||| (wordN (sfx t 16) ||| wordN (sfx t 24))) &&& maskU = 0
   ·left
    refine ⟨(sfx t 32, ()), ?_, ⟨by show (sfx t 32).size ≤ _; omega, ?_⟩, by show (sfx t 32).size < t.size; omega⟩
    ·simp (disch := omega) only [g_unicode_utf8_ValidString_r1, dT, w0, w1, w2, w3, Option.bind_some, gT, Int.toNat_natCast, e1, e2, e3, m, decide_eq_true k, cond_true]
    ·obtain ⟨ka, kb⟩ := and_or0 k
     obtain ⟨k0, k1⟩ := and_or0 ka
     obtain ⟨k2, k3⟩ := and_or0 kb
     show (runes (sfx t 32)).isSome = _
     rw [← runes_skip (s := t) 32 (by omega) (fun i hi => ?_)]
     ·exact hr
     ·by_cases i0 : i < 8
      ·exact word_low k0 i i0
      ·by_cases i1 : i < 16
       ·have := word_low k1 (i - 8) (by omega); rw [by8_sfx, show 8 + (i - 8) = i by omega] at this; exact this
       ·by_cases i2 : i < 24
        ·have := word_low k2 (i - 16) (by omega); rw [by8_sfx, show 16 + (i - 16) = i by omega] at this; exact this
        ·have := word_low k3 (i - 24) (by omega); rw [by8_sfx, show 24 + (i - 24) = i by omega] at this; exact this
   ·right
    refine ⟨(t, ()), ?_, hz, hr⟩
    simp (disch := omega) only [g_unicode_utf8_ValidString_r1, dT, w0, w1, w2, w3, Option.bind_some, gT, Int.toNat_natCast, e1, e2, e3, m, decide_eq_false k, cond_false]
  ·right
   refine ⟨(t, ()), ?_, hz, hr⟩
   simp (disch := omega) only [g_unicode_utf8_ValidString_r1, dF, Option.bind_some, cond_false]) (s, ()) ⟨Nat.le_refl _, rfl⟩
 exact ⟨r.1, h1, h2⟩
end Go.Sq
namespace Go.Sq
open Go.Rx
theorem skip_word {s : ByteArray} (h : 8 ≤ s.size) (k : wordN s &&& maskU = 0) : (runes (sfx s 8)).isSome = (runes s).isSome := (runes_skip 8 h (word_low k)).symm
theorem valid_low {s : ByteArray} (h0 : 0 < s.size) (hx : by8 s 0 < 128) : ∃ t : ByteArray, g_unicode_utf8_ValidString_r2 (s, ()) = some (.inl (t, ())) ∧ t.size < s.size ∧ (runes t).isSome = (runes s).isSome := by
 have z1 := sfx_size s 1
 have q1 : (runes (sfx s 1)).isSome = (runes s).isSome := (runes_skip 1 h0 (fun i hi => by rw [show i = 0 by omega]; exact hx)).symm
 obtain ⟨u, eu⟩ : ∃ u, sfx s 1 = u := ⟨_, rfl⟩
 have e1 : s.extract 1 s.size = u := eu
 have hxi : ((s.data.getD 0 0).toNat : Int) < 128 := by show (by8 s 0 : Int) < 128; omega
 rw [eu] at z1 q1
 by_cases h8 : 8 < u.size
 ·obtain ⟨w0, l0⟩ := word_eq (s := u) (by omega)
  have m0 := test_mask l0
  by_cases k0 : wordN u &&& maskU = 0
  ·have z2 := sfx_size u 8
   have q2 := skip_word (s := u) (by omega) k0
   obtain ⟨v, ev⟩ : ∃ v, sfx u 8 = v := ⟨_, rfl⟩
   have e2 : u.extract 8 u.size = v := ev
   rw [ev] at z2 q2
   by_cases h16 : 16 < v.size
   ·have z3 := sfx_size v 8
    obtain ⟨w1, l1⟩ := word_eq (s := v) (by omega)
    obtain ⟨w2, l2⟩ := word_eq (s := sfx v 8) (by omega)
    have o := or_nat64 l1 l2
    have m := test_mask (Nat.or_lt_two_pow l1 l2)
    by_cases k : (wordN v ||| wordN (sfx v 8)) &&& maskU = 0
    ·obtain ⟨k1, k2⟩ := and_or0 k
     have z4 := sfx_size v 16
     have q3 : (runes (sfx v 16)).isSome = (runes v).isSome := by
      rw [← skip_word (s := v) (by omega) k1, ← skip_word (s := sfx v 8) (by omega) k2, sfx_sfx]
     obtain ⟨t, r1, r2, r3⟩ := valid_r1 (sfx v 16)
     refine ⟨t, ?_, by omega, r3.trans (q3.trans (q2.trans q1))⟩
     simp (disch := omega) only [g_unicode_utf8_ValidString_r2, dT, wT, gT, Int.toNat_natCast, e1, w0, Option.bind_some, m0, decide_eq_true k0, cond_true, e2, w1, w2, o, m, decide_eq_true k, r1]
    ·refine ⟨v, ?_, by omega, q2.trans q1⟩
     simp (disch := omega) only [g_unicode_utf8_ValidString_r2, dT, wT, gT, Int.toNat_natCast, e1, w0, Option.bind_some, m0, decide_eq_true k0, cond_true, e2, w1, w2, o, m, decide_eq_false k, cond_false]
   ·refine ⟨v, ?_, by omega, q2.trans q1⟩
    simp (disch := omega) only [g_unicode_utf8_ValidString_r2, dT, dF, wT, gT, Int.toNat_natCast, e1, w0, Option.bind_some, m0, decide_eq_true k0, cond_true, e2, cond_false]
  ·refine ⟨u, ?_, by omega, q1⟩
   simp (disch := omega) only [g_unicode_utf8_ValidString_r2, dT, wT, gT, Int.toNat_natCast, e1, w0, Option.bind_some, m0, decide_eq_false k0, cond_false]
 ·refine ⟨u, ?_, by omega, q1⟩
  simp (disch := omega) only [g_unicode_utf8_ValidString_r2, dT, dF, wT, gT, Int.toNat_natCast, e1, Option.bind_some, cond_false]
def clsN (x : Nat) : Nat := (tb_first.getD x 0).toNat % 8
def accN (x : Nat) : Nat := (tb_first.getD x 0).toNat / 16
theorem tb_facts : ∀ x, x < 256 → IntKind.i64.wrap (bitsI .and .u8 (tb_first.getD x 0) 7) = (clsN x : Int) ∧ shrI .u8 (tb_first.getD x 0) 4 = (accN x : Int) ∧ accN x < 16 := by decide +kernel
theorem tb_c1 : ∀ x, x < 256 → 194 ≤ x → x < 224 → clsN x = 2 ∧ accN x = 0 := by decide +kernel
theorem tb_c3 : ∀ x, x < 256 → 224 < x → x < 240 → x ≠ 237 → clsN x = 3 ∧ accN x = 0 := by decide +kernel
theorem tb_c6 : ∀ x, x < 256 → 240 < x → x < 244 → clsN x = 4 ∧ accN x = 0 := by decide +kernel
theorem tb_c8 : ∀ x, x < 256 → 128 ≤ x → (x < 194 ∨ 244 < x) → clsN x = 1 := by decide +kernel
theorem tb_c2 : (clsN 224 = 3 ∧ accN 224 = 1) ∧ (clsN 237 = 3 ∧ accN 237 = 2) ∧ (clsN 240 = 4 ∧ accN 240 = 3) ∧ (clsN 244 = 4 ∧ accN 244 = 4) := by decide +kernel
theorem tb_acc : (tb_accept.getD 0 (0, 0) = (128, 191)) ∧ (tb_accept.getD 1 (0, 0) = (160, 191)) ∧ (tb_accept.getD 2 (0, 0) = (128, 159)) ∧ (tb_accept.getD 3 (0, 0) = (144, 191)) ∧ (tb_accept.getD 4 (0, 0) = (128, 143)) := by decide +kernel
theorem tb_accN : ∀ a, a < 16 → tb_accept.getD a (0, 0) = (((tb_accept.getD a (0, 0)).1.toNat : Int), ((tb_accept.getD a (0, 0)).2.toNat : Int)) := by decide +kernel
def okN (s : ByteArray) (lo hi : Nat) : Nat → Prop
 | 2 => 2 ≤ s.size ∧ lo ≤ by8 s 1 ∧ by8 s 1 ≤ hi
 | 3 => 3 ≤ s.size ∧ lo ≤ by8 s 1 ∧ by8 s 1 ≤ hi ∧ 128 ≤ by8 s 2 ∧ by8 s 2 ≤ 191
 | 4 => 4 ≤ s.size ∧ lo ≤ by8 s 1 ∧ by8 s 1 ≤ hi ∧ 128 ≤ by8 s 2 ∧ by8 s 2 ≤ 191 ∧ 128 ≤ by8 s 3 ∧ by8 s 3 ≤ 191
 | _ => False
instance (s : ByteArray) (lo hi n : Nat) : Decidable (okN s lo hi n) := by unfold okN; split <;> infer_instance
theorem valid_hi {s : ByteArray} (h0 : 0 < s.size) (hx : 128 ≤ by8 s 0) {lo hi : Nat} (ht : tb_accept.getD (accN (by8 s 0)) (0, 0) = ((lo : Int), (hi : Int))) :
  g_unicode_utf8_ValidString_r2 (s, ()) = if okN s lo hi (clsN (by8 s 0)) then some (.inl (sfx s (clsN (by8 s 0)), ())) else some (.inr (.inr (false, ()))) := by
 have b0 := by8_lt s 0
 obtain ⟨f1, f2, f3⟩ := tb_facts (by8 s 0) b0
 have en : (((s.data.getD 0 0).toNat : Int)).toNat = by8 s 0 := rfl
 have hxi : decide (((s.data.getD 0 0).toNat : Int) < 128) = false := decide_eq_false (show ¬ (by8 s 0 : Int) < 128 by omega)
 have hxw : within ((s.data.getD 0 0).toNat : Int) 256 = true := within_iff.2 ⟨show (0 : Int) ≤ (by8 s 0 : Int) by omega, show (by8 s 0 : Int) < _ by omega⟩
 have haw : within ((accN (by8 s 0) : Nat) : Int) 16 = true := within_iff.2 ⟨by omega, by omega⟩
 have ea : (((accN (by8 s 0) : Nat) : Int)).toNat = accN (by8 s 0) := rfl
 have g1 : ((s.data.getD 1 0).toNat : Int) = (by8 s 1 : Int) := rfl
 have g2 : ((s.data.getD 2 0).toNat : Int) = (by8 s 2 : Int) := rfl
 have g3 : ((s.data.getD 3 0).toNat : Int) = (by8 s 3 : Int) := rfl
 have hc : clsN (by8 s 0) < 8 := Nat.mod_lt _ (by decide)
 have step : ∀ {r}, r = g_unicode_utf8_ValidString_r2 (s, ()) → r = g_unicode_utf8_ValidString_r2 (s, ()) := id
 unfold g_unicode_utf8_ValidString_r2
 simp only [decide_eq_true (show (s.size : Int) > 0 by omega), cond_true, within_iff.2 (show (0 : Int) ≤ 0 ∧ (0 : Int) < (s.size : Int) by omega), hxi, cond_false, hxw, en, f1, f2, haw, ea, ht, g1, g2, g3]
 generalize clsN (by8 s 0) = c at hc ⊢
 by_cases c2 : c = 2
 ·subst c2
  rw [eT (show ((2 : Nat) : Int) = 2 from rfl)]
  by_cases hz : s.size < 2
  ·rw [if_neg (fun q => by have := q.1; omega)]
   simp only [decide_eq_true (show (s.size : Int) < 2 by omega), cond_true, Option.bind_some]
  ·simp only [decide_eq_false (show ¬ (s.size : Int) < 2 by omega), cond_false, within_iff.2 (show (0 : Int) ≤ 1 ∧ (1 : Int) < (s.size : Int) by omega), cond_true]
   by_cases h1 : by8 s 1 < lo
   ·rw [if_neg (fun q => by have := q.2.1; omega)]
    simp only [decide_eq_true (show (by8 s 1 : Int) < (lo : Int) by omega), cond_true, Option.bind_some]
   ·simp only [decide_eq_false (show ¬ (by8 s 1 : Int) < (lo : Int) by omega), cond_false, Option.bind_some]
    by_cases h2 : hi < by8 s 1
    ·rw [if_neg (fun q => by have := q.2.2; omega)]
     simp only [decide_eq_true (show (hi : Int) < (by8 s 1 : Int) by omega), cond_true]
    ·rw [if_pos ⟨by omega, by omega, by omega⟩]
     simp only [decide_eq_false (show ¬ (hi : Int) < (by8 s 1 : Int) by omega), cond_false]
     rw [gT (by omega) (by omega) (by omega), Int.toNat_natCast]
 ·rw [eF (by omega)]
  by_cases c3 : c = 3
  ·subst c3
   rw [eT (show ((3 : Nat) : Int) = 3 from rfl)]
   by_cases hz : s.size < 3
   ·rw [if_neg (fun q => by have := q.1; omega)]
    simp only [decide_eq_true (show (s.size : Int) < 3 by omega), cond_true, Option.bind_some]
   ·simp only [decide_eq_false (show ¬ (s.size : Int) < 3 by omega), cond_false, within_iff.2 (show (0 : Int) ≤ 1 ∧ (1 : Int) < (s.size : Int) by omega), within_iff.2 (show (0 : Int) ≤ 2 ∧ (2 : Int) < (s.size : Int) by omega), cond_true]
    by_cases h1 : by8 s 1 < lo
    ·rw [if_neg (fun q => by have := q.2.1; omega)]
     simp only [decide_eq_true (show (by8 s 1 : Int) < (lo : Int) by omega), cond_true, Option.bind_some]
    ·simp only [decide_eq_false (show ¬ (by8 s 1 : Int) < (lo : Int) by omega), cond_false]
     by_cases h2 : hi < by8 s 1
     ·rw [if_neg (fun q => by have := q.2.2.1; omega)]
      simp only [decide_eq_true (show (hi : Int) < (by8 s 1 : Int) by omega), cond_true, Option.bind_some]
     ·simp only [decide_eq_false (show ¬ (hi : Int) < (by8 s 1 : Int) by omega), cond_false]
      by_cases h3 : by8 s 2 < 128
      ·rw [if_neg (fun q => by have := q.2.2.2.1; omega)]
       simp only [decide_eq_true (show (by8 s 2 : Int) < 128 by omega), cond_true, Option.bind_some]
      ·simp only [decide_eq_false (show ¬ (by8 s 2 : Int) < 128 by omega), cond_false, Option.bind_some]
       by_cases h4 : 191 < by8 s 2
       ·rw [if_neg (fun q => by have := q.2.2.2.2; omega)]
        simp only [decide_eq_true (show (191 : Int) < (by8 s 2 : Int) by omega), cond_true]
       ·rw [if_pos ⟨by omega, by omega, by omega, by omega, by omega⟩]
        simp only [decide_eq_false (show ¬ (191 : Int) < (by8 s 2 : Int) by omega), cond_false]
        rw [gT (by omega) (by omega) (by omega), Int.toNat_natCast]
  ·rw [eF (by omega)]
   by_cases c4 : c = 4
   ·subst c4
    rw [eT (show ((4 : Nat) : Int) = 4 from rfl)]
    by_cases hz : s.size < 4
    ·rw [if_neg (fun q => by have := q.1; omega)]
     simp only [decide_eq_true (show (s.size : Int) < 4 by omega), cond_true, Option.bind_some]
    ·simp only [decide_eq_false (show ¬ (s.size : Int) < 4 by omega), cond_false, within_iff.2 (show (0 : Int) ≤ 1 ∧ (1 : Int) < (s.size : Int) by omega), within_iff.2 (show (0 : Int) ≤ 2 ∧ (2 : Int) < (s.size : Int) by omega), within_iff.2 (show (0 : Int) ≤ 3 ∧ (3 : Int) < (s.size : Int) by omega), cond_true]
     by_cases h1 : by8 s 1 < lo
     ·rw [if_neg (fun q => by have := q.2.1; omega)]
      simp only [decide_eq_true (show (by8 s 1 : Int) < (lo : Int) by omega), cond_true, Option.bind_some]
     ·simp only [decide_eq_false (show ¬ (by8 s 1 : Int) < (lo : Int) by omega), cond_false]
      by_cases h2 : hi < by8 s 1
      ·rw [if_neg (fun q => by have := q.2.2.1; omega)]
       simp only [decide_eq_true (show (hi : Int) < (by8 s 1 : Int) by omega), cond_true, Option.bind_some]
      ·simp only [decide_eq_false (show ¬ (hi : Int) < (by8 s 1 : Int) by omega), cond_false]
       by_cases h3 : by8 s 2 < 128
       ·rw [if_neg (fun q => by have := q.2.2.2.1; omega)]
        simp only [decide_eq_true (show (by8 s 2 : Int) < 128 by omega), cond_true, Option.bind_some]
       ·simp only [decide_eq_false (show ¬ (by8 s 2 : Int) < 128 by omega), cond_false]
        by_cases h4 : 191 < by8 s 2
        ·rw [if_neg (fun q => by have := q.2.2.2.2.1; omega)]
         simp only [decide_eq_true (show (191 : Int) < (by8 s 2 : Int) by omega), cond_true, Option.bind_some]
        ·simp only [decide_eq_false (show ¬ (191 : Int) < (by8 s 2 : Int) by omega), cond_false]
         by_cases h5 : by8 s 3 < 128
         ·rw [if_neg (fun q => by have := q.2.2.2.2.2.1; omega)]
          simp only [decide_eq_true (show (by8 s 3 : Int) < 128 by omega), cond_true, Option.bind_some]
         ·simp only [decide_eq_false (show ¬ (by8 s 3 : Int) < 128 by omega), cond_false, Option.bind_some]
          by_cases h6 : 191 < by8 s 3
          ·rw [if_neg (fun q => by have := q.2.2.2.2.2.2; omega)]
           simp only [decide_eq_true (show (191 : Int) < (by8 s 3 : Int) by omega), cond_true]
          ·rw [if_pos ⟨by omega, by omega, by omega, by omega, by omega, by omega, by omega⟩]
           simp only [decide_eq_false (show ¬ (191 : Int) < (by8 s 3 : Int) by omega), cond_false]
           rw [gT (by omega) (by omega) (by omega), Int.toNat_natCast]
   ·rw [eF (by omega), if_neg]
    match c, hc, c2, c3, c4 with
    | 0, _, _, _, _ => exact id
    | 1, _, _, _, _ => exact id
    | 5, _, _, _, _ => exact id
    | 6, _, _, _, _ => exact id
    | 7, _, _, _, _ => exact id
theorem valid_step {s : ByteArray} (h0 : 0 < s.size) (hx : 128 ≤ by8 s 0) : g_unicode_utf8_ValidString_r2 (s, ()) = if (fstR s).2 = 0 then some (.inr (.inr (false, ()))) else some (.inl (sfx s (fstR s).2, ())) := by
 have b0 := by8_lt s 0
 have b1 := by8_lt s 1
 have b2 := by8_lt s 2
 have b3 := by8_lt s 3
 obtain ⟨a0, a1, a2, a3, a4⟩ := tb_acc
 obtain ⟨c2, c4, c5, c7⟩ := tb_c2
 have fin : ∀ {lo hi n : Nat}, tb_accept.getD (accN (by8 s 0)) (0, 0) = ((lo : Int), (hi : Int)) → clsN (by8 s 0) = n → (okN s lo hi n → (fstR s).2 = n ∧ n ≠ 0) → (¬ okN s lo hi n → (fstR s).2 = 0) →
   g_unicode_utf8_ValidString_r2 (s, ()) = if (fstR s).2 = 0 then some (.inr (.inr (false, ()))) else some (.inl (sfx s (fstR s).2, ())) := by
  intro lo hi n ht hc hy hn
  rw [valid_hi h0 hx ht, hc]
  by_cases k : okN s lo hi n
  ·obtain ⟨e1, e2⟩ := hy k
   rw [if_pos k, e1, if_neg e2]
  ·rw [if_neg k, hn k, if_pos rfl]
 have n0 : ¬ by8 s 0 < 128 := by omega
 have f2 : 194 ≤ by8 s 0 → by8 s 0 < 224 → fstR s = if co s 1 then (two s, 2) else (0, 0) := fun p q => by unfold fstR; rw [if_neg n0, if_pos ⟨p, q⟩]
 have f3 : 224 ≤ by8 s 0 → by8 s 0 < 240 → fstR s = if co s 1 ∧ co s 2 ∧ 2048 ≤ three s ∧ ¬ (55296 ≤ three s ∧ three s < 57344) then (three s, 3) else (0, 0) := fun p q => by
  unfold fstR; rw [if_neg n0, if_neg (by omega), if_pos ⟨p, q⟩]
 have f4 : 240 ≤ by8 s 0 → by8 s 0 < 245 → fstR s = if co s 1 ∧ co s 2 ∧ co s 3 ∧ 65536 ≤ four s ∧ four s ≤ 1114111 then (four s, 4) else (0, 0) := fun p q => by
  unfold fstR; rw [if_neg n0, if_neg (by omega), if_neg (by omega), if_pos ⟨p, q⟩]
 have t3 : three s = by8 s 0 % 16 * 4096 + by8 s 1 % 64 * 64 + by8 s 2 % 64 := by unfold three; omega
 have t4 : four s = by8 s 0 % 8 * 262144 + by8 s 1 % 64 * 4096 + by8 s 2 % 64 * 64 + by8 s 3 % 64 := by unfold four; omega
 have three_of : ∀ {lo hi : Nat}, 224 ≤ by8 s 0 → by8 s 0 < 240 → (by8 s 1 / 64 = 2 → by8 s 2 / 64 = 2 → ((lo ≤ by8 s 1 ∧ by8 s 1 ≤ hi) ↔ 2048 ≤ three s ∧ ¬ (55296 ≤ three s ∧ three s < 57344))) → 128 ≤ lo → hi ≤ 191 →
   (okN s lo hi 3 → (fstR s).2 = 3 ∧ 3 ≠ 0) ∧ (¬ okN s lo hi 3 → (fstR s).2 = 0) := by
  intro lo hi p q hh hlo hhi
  rw [f3 p q]
  refine ⟨fun k => ?_, fun k => ?_⟩
  ·obtain ⟨k1, k2, k3, k4, k5⟩ := k
   have := (hh (by omega) (by omega)).1 ⟨k2, k3⟩
   rw [if_pos ⟨⟨by omega, by omega⟩, ⟨by omega, by omega⟩, this⟩]
   exact ⟨rfl, by decide⟩
  ·rw [if_neg fun r => ?_]
   obtain ⟨⟨r1, r2⟩, ⟨r3, r4⟩, r5⟩ := r
   have := (hh r2 r4).2 r5
   exact k ⟨by omega, this.1, this.2, by omega, by omega⟩
 have four_of : ∀ {lo hi : Nat}, 240 ≤ by8 s 0 → by8 s 0 < 245 → (by8 s 1 / 64 = 2 → by8 s 2 / 64 = 2 → by8 s 3 / 64 = 2 → ((lo ≤ by8 s 1 ∧ by8 s 1 ≤ hi) ↔ 65536 ≤ four s ∧ four s ≤ 1114111)) → 128 ≤ lo → hi ≤ 191 →
   (okN s lo hi 4 → (fstR s).2 = 4 ∧ 4 ≠ 0) ∧ (¬ okN s lo hi 4 → (fstR s).2 = 0) := by
  intro lo hi p q hh hlo hhi
  rw [f4 p q]
  refine ⟨fun k => ?_, fun k => ?_⟩
  ·obtain ⟨k1, k2, k3, k4, k5, k6, k7⟩ := k
   have := (hh (by omega) (by omega) (by omega)).1 ⟨k2, k3⟩
   rw [if_pos ⟨⟨by omega, by omega⟩, ⟨by omega, by omega⟩, ⟨by omega, by omega⟩, this⟩]
   exact ⟨rfl, by decide⟩
  ·rw [if_neg fun r => ?_]
   obtain ⟨⟨r1, r2⟩, ⟨r3, r4⟩, ⟨r5, r6⟩, r7⟩ := r
   have := (hh r2 r4 r6).2 r7
   exact k ⟨by omega, this.1, this.2, by omega, by omega, by omega, by omega⟩
 by_cases k1 : by8 s 0 < 194 ∨ 244 < by8 s 0
 ·have hc := tb_c8 _ b0 hx k1
  have hz : (fstR s).2 = 0 := by unfold fstR; rw [if_neg n0, if_neg (by omega), if_neg (by omega), if_neg (by omega)]
  have ht := tb_accN _ (tb_facts _ b0).2.2
  exact fin ht hc (fun k => k.elim) (fun _ => hz)
 ·by_cases k2 : by8 s 0 < 224
  ·obtain ⟨d1, d2⟩ := tb_c1 _ b0 (by omega) k2
   refine fin (lo := 128) (hi := 191) (by rw [d2]; exact a0) d1 (fun k => ?_) (fun k => ?_)
   ·obtain ⟨k1, k2, k3⟩ := k
    rw [f2 (by omega) (by omega), if_pos ⟨by omega, by omega⟩]
    exact ⟨rfl, by decide⟩
   ·rw [f2 (by omega) (by omega), if_neg fun r => k ⟨by have := r.1; omega, by have := r.2; omega, by have := r.2; omega⟩]
  ·by_cases k3 : by8 s 0 < 240
   ·by_cases k4 : by8 s 0 = 224
    ·have hh := three_of (lo := 160) (hi := 191) (by omega) k3 (fun p q => by rw [t3, k4]; omega) (by decide) (by decide)
     exact fin (by rw [k4, c2.2]; exact a1) (by rw [k4]; exact c2.1) hh.1 hh.2
    ·by_cases k5 : by8 s 0 = 237
     ·have hh := three_of (lo := 128) (hi := 159) (by omega) k3 (fun p q => by rw [t3, k5]; omega) (by decide) (by decide)
      exact fin (by rw [k5, c4.2]; exact a2) (by rw [k5]; exact c4.1) hh.1 hh.2
     ·obtain ⟨d1, d2⟩ := tb_c3 _ b0 (by omega) k3 k5
      have hh := three_of (lo := 128) (hi := 191) (by omega) k3 (fun p q => by rw [t3]; omega) (by decide) (by decide)
      exact fin (by rw [d2]; exact a0) d1 hh.1 hh.2
   ·by_cases k4 : by8 s 0 = 240
    ·have hh := four_of (lo := 144) (hi := 191) (by omega) (by omega) (fun p q r => by rw [t4, k4]; omega) (by decide) (by decide)
     exact fin (by rw [k4, c5.2]; exact a3) (by rw [k4]; exact c5.1) hh.1 hh.2
    ·by_cases k5 : by8 s 0 = 244
     ·have hh := four_of (lo := 128) (hi := 143) (by omega) (by omega) (fun p q r => by rw [t4, k5]; omega) (by decide) (by decide)
      exact fin (by rw [k5, c7.2]; exact a4) (by rw [k5]; exact c7.1) hh.1 hh.2
     ·obtain ⟨d1, d2⟩ := tb_c6 _ b0 (by omega) (by omega)
      have hh := four_of (lo := 128) (hi := 191) (by omega) (by omega) (fun p q r => by rw [t4]; omega) (by decide) (by decide)
      exact fin (by rw [d2]; exact a0) d1 hh.1 hh.2
theorem Valid_eq (s : ByteArray) : g_unicode_utf8_ValidString s = some (runes s).isSome := by
 obtain ⟨r, h1, h2⟩ := iter_ex (f := g_unicode_utf8_ValidString_r2) (fun x => x.1.size) (fun x => (runes x.1).isSome = (runes s).isSome)
  (fun r => match r with
   | .inl _ => (runes s).isSome = true
   | .inr (b, _) => b = false ∧ (runes s).isSome = false) (fun x hx => by
  obtain ⟨t, u⟩ := x
  have hx : (runes t).isSome = (runes s).isSome := hx
  by_cases h0 : t.size = 0
  ·right
   refine ⟨.inl (), by simp (disch := omega) only [g_unicode_utf8_ValidString_r2, dF], ?_⟩
   show (runes s).isSome = true
   rw [← hx, runes_nil h0]; rfl
  ·by_cases hl : by8 t 0 < 128
   ·obtain ⟨v, e1, e2, e3⟩ := valid_low (s := t) (by omega) hl
    exact .inl ⟨(v, ()), e1, e3.trans hx, e2⟩
   ·have e := valid_step (s := t) (by omega) (by omega)
    by_cases hk : (fstR t).2 = 0
    ·right
     rw [if_pos hk] at e
     exact ⟨.inr (false, ()), e, rfl, by rw [← hx, runes_bad h0 hk]; rfl⟩
    ·left
     rw [if_neg hk] at e
     have hz := sfx_size t (fstR t).2
     have hp := fst_pos hk
     refine ⟨(sfx t (fstR t).2, ()), e, ?_, by show (sfx t (fstR t).2).size < t.size; omega⟩
     show (runes (sfx t (fstR t).2)).isSome = _
     rw [← hx, runes_step h0 hk, Option.isSome_map]) (s, ()) rfl
 unfold g_unicode_utf8_ValidString
 rw [h1]
 match r, h2 with
 | .inl (), e => simp only [Option.bind_some, show (runes s).isSome = true from e]
 | .inr (b, ()), ⟨e1, e2⟩ => simp only [Option.bind_some, e1, e2]
end Go.Sq
namespace Go.Sq
open Go.Rx
theorem clean_eq (v : Nat) : g_wire_clean (v : Int) = some (cleanR v) := by
 unfold g_wire_clean cleanR
 by_cases h : 32 ≤ v
 ·simp (disch := omega) only [dT, cond_true, decide_eq_true h, Bool.true_and]
  congr 1
  by_cases h2 : v = 127
  ·subst h2; rfl
  ·rw [bne_iff_ne.2 h2]
   exact bne_iff_ne.2 (by omega)
 ·simp (disch := omega) only [dF, cond_false, decide_eq_false h, Bool.false_and]
theorem wire_Name_eq {s : ByteArray} (hs : s.size ≤ 9223372036854775807) : g_wire_Name s = some (nameP s) := by
 obtain ⟨r, h1, h2⟩ := iter_ex (f := g_wire_Name_r1) (fun x => s.size - x.2.2.1.2.toNat)
  (fun x => x.1 = s ∧ x.2.2.1.1 = s ∧ ∃ p m : Nat, x.2.2.1.2 = (p : Int) ∧ x.2.1 = (m : Int) ∧ m ≤ p ∧ (runes s = none ∨ (p ≤ s.size ∧ ∃ l1 : List Nat, m = l1.length ∧ l1.all cleanR = true ∧ runes s = (runes (sfx s p)).map (l1 ++ ·))))
  (fun r => match r with
   | .inl (t, m, _) => t = s ∧ (runes s = none ∨ ∃ l : List Nat, runes s = some l ∧ m = (l.length : Int) ∧ l.all cleanR = true)
   | .inr (b, _) => b = false ∧ nameP s = false) (fun x hx => by
   obtain ⟨t, mm, ⟨t', pp⟩, u⟩ := x
   obtain ⟨e1, e2, p, m, e3, e4, hmp, hI⟩ := hx
   have e1 : t = s := e1
   have e2 : t' = s := e2
   have e3 : pp = (p : Int) := e3
   have e4 : mm = (m : Int) := e4
   subst e1 e2 e3 e4
   by_cases h0 : p < t'.size
   ·have hd : g_wire_clean (runeAt t' p) = some (cleanR (Utf8.decode t' p).1) := clean_eq _
    have hl := runeLen_pos t' p
    by_cases hcl : cleanR (Utf8.decode t' p).1 = true
    ·left
     have ws : IntKind.i64.wrap ((m : Int) + 1) = ((m + 1 : Nat) : Int) := by rw [wrap_i64 (by omega) (by omega)]; rfl
     refine ⟨(t', ((m + 1 : Nat) : Int), (t', ((p + runeLen t' p : Nat) : Int)), ()), ?_, ⟨rfl, rfl, p + runeLen t' p, m + 1, rfl, rfl, by omega, ?_⟩, ?_⟩
     ·simp (disch := omega) only [g_wire_Name_r1, Int.toNat_natCast, decide_eq_true h0, cond_true, hd, Option.bind_some, hcl, Bool.not_true, cond_false, ws, Int.natCast_add]
     ·rcases hI with h | ⟨hp, l1, hm, hc, hr⟩
      ·exact .inl h
      ·have z := sfx_size t' p
       by_cases hk : (fstR (sfx t' p)).2 = 0
       ·left; rw [hr, runes_bad (by omega) hk]; rfl
       ·right
        have hdec := dec_eq h0 hk
        have hp2 := (fst_pos hk).2.2 (by omega)
        have hrl : runeLen t' p = (fstR (sfx t' p)).2 := by unfold runeLen; rw [hdec]
        rw [hdec] at hcl
        refine ⟨by omega, l1 ++ [(fstR (sfx t' p)).1], by simp [hm], by rw [List.all_append, hc]; simp [hcl], ?_⟩
        rw [hr, runes_step (by omega) hk, Option.map_map, sfx_sfx, hrl]
        congr 1
        funext q
        simp
     ·show t'.size - ((p + runeLen t' p : Nat) : Int).toNat < t'.size - (p : Int).toNat
      omega
    ·right
     rw [Bool.not_eq_true] at hcl
     refine ⟨.inr (false, ()), ?_, rfl, ?_⟩
     ·simp (disch := omega) only [g_wire_Name_r1, Int.toNat_natCast, decide_eq_true h0, cond_true, hd, Option.bind_some, hcl, Bool.not_false]
     ·unfold nameP
      rcases hI with h | ⟨hp, l1, hm, hc, hr⟩
      ·rw [h]
      ·have z := sfx_size t' p
       by_cases hk : (fstR (sfx t' p)).2 = 0
       ·rw [hr, runes_bad (by omega) hk]; rfl
       ·rw [dec_eq h0 hk] at hcl
        rw [hr, runes_step (by omega) hk]
        cases runes (sfx (sfx t' p) (fstR (sfx t' p)).2) with
        | none => rfl
        | some q =>
         simp only [Option.map_some, List.all_append, List.all_cons, hc, Bool.true_and, hcl, Bool.false_and]
   ·right
    refine ⟨.inl (t', (m : Int), ()), ?_, rfl, ?_⟩
    ·simp (disch := omega) only [g_wire_Name_r1, Int.toNat_natCast, decide_eq_false h0, cond_false]
    ·rcases hI with h | ⟨hp, l1, hm, hc, hr⟩
     ·exact .inl h
     ·right
      have z := sfx_size t' p
      exact ⟨l1, by rw [hr, runes_nil (by omega), Option.map_some, List.append_nil], by omega, hc⟩) (s, 0, (s, 0), ()) ⟨rfl, rfl, 0, 0, rfl, rfl, Nat.le_refl _, .inr ⟨Nat.zero_le _, [], rfl, rfl, by rw [sfx_zero]; cases runes s <;> simp⟩⟩
 unfold g_wire_Name
 rw [h1]
 match r, h2 with
 | .inl (t, m, ()), ⟨e0, h⟩ =>
  subst e0
  simp only [Option.bind_some, Valid_eq]
  unfold nameP
  rcases h with h | ⟨l, e1, e2, e3⟩
  ·rw [h]; cases decide (m ≤ 16) <;> rfl
  ·rw [e1, e2]
   by_cases h16 : l.length ≤ 16
   ·simp (disch := omega) only [dT, cond_true, decide_eq_true h16, e3]; rfl
   ·simp (disch := omega) only [dF, cond_false, decide_eq_false h16, Bool.and_false]
 | .inr (b, ()), ⟨e1, e2⟩ => simp only [Option.bind_some, e1, e2]
end Go.Sq
namespace Go.Sq
open Go.Rx
abbrev Msg := Int × Int × Int × Int × Int × Int × Int × Int × ByteArray × List Int
def nO (x : Int) : Bool := decide (x ≥ 0) && decide (x ≤ 1073741824)
def okM (m : Msg) : Bool :=
 decide (m.1 ≥ 1) && decide (m.1 ≤ 15) && decide ((m.2.2.2.2.2.2.2.2.2.length : Int) ≤ 64) && ((m.1 == 13) == decide ((m.2.2.2.2.2.2.2.2.2.length : Int) > 0)) &&
 nO m.2.1 && nO m.2.2.1 && nO m.2.2.2.1 && nO m.2.2.2.2.1 && nO m.2.2.2.2.2.1 && nO m.2.2.2.2.2.2.1 && nO m.2.2.2.2.2.2.2.1 &&
 (bif m.1 == 1 || m.1 == 9 || m.1 == 5 then nameP m.2.2.2.2.2.2.2.2.1 else strEq m.2.2.2.2.2.2.2.2.1 (ByteArray.mk #[]))
def err (b : Bool) : Int := bif b then 0 else 1
theorem andK {M R : Type} (b p q : Bool) (m : M) (k : Bool × M × Unit → Option R) :
  ((bif b then bif p then some (q, m, ()) else some (false, m, ()) else some (false, m, ())) : Option (Bool × M × Unit)).bind k = k (b && (p && q), m, ()) := by
 cases b <;> cases p <;> rfl
theorem wire_Check_eq {m : Msg} (h : m.2.2.2.2.2.2.2.2.1.size ≤ 9223372036854775807) : g_wire_Check m = some (err (okM m)) := by
 have hn := wire_Name_eq h
 unfold g_wire_Check
 have e1 : ∀ k : Bool × Msg × Unit → Option Int, ((bif (decide (m.1 ≥ 1)) then bif (decide (m.1 ≤ 15)) then bif (decide ((m.2.2.2.2.2.2.2.2.2.length : Int) ≤ 64)) then
   some (((m.1 == 13) == (decide ((m.2.2.2.2.2.2.2.2.2.length : Int) > 0))), m, ()) else some (false, m, ()) else some (false, m, ()) else some (false, m, ())) : Option (Bool × Msg × Unit)).bind k =
   k (decide (m.1 ≥ 1) && decide (m.1 ≤ 15) && decide ((m.2.2.2.2.2.2.2.2.2.length : Int) ≤ 64) && ((m.1 == 13) == decide ((m.2.2.2.2.2.2.2.2.2.length : Int) > 0)), m, ()) := by
  intro k
  cases decide (m.1 ≥ 1) <;> cases decide (m.1 ≤ 15) <;> cases decide ((m.2.2.2.2.2.2.2.2.2.length : Int) ≤ 64) <;> rfl
 rw [e1]
 simp only [andK]
 have e2 : ∀ {R : Type} (b : Bool) (k : Bool × Bool × Msg × Unit → Option R), ((bif (m.1 == 1) then some (b, true, m, ()) else bif (m.1 == 9) then some (b, true, m, ()) else some (b, (m.1 == 5), m, ())) : Option (Bool × Bool × Msg × Unit)).bind k = k (b, m.1 == 1 || m.1 == 9 || m.1 == 5, m, ()) := by
  intro R b k
  cases m.1 == 1 <;> cases m.1 == 9 <;> rfl
 simp only [e2, hn, Option.bind_some]
 unfold okM nO err
 generalize (decide (m.1 ≥ 1) && decide (m.1 ≤ 15) && decide ((m.2.2.2.2.2.2.2.2.2.length : Int) ≤ 64) && ((m.1 == 13) == decide ((m.2.2.2.2.2.2.2.2.2.length : Int) > 0)) &&
  (decide (m.2.1 ≥ 0) && decide (m.2.1 ≤ 1073741824)) && (decide (m.2.2.1 ≥ 0) && decide (m.2.2.1 ≤ 1073741824)) && (decide (m.2.2.2.1 ≥ 0) && decide (m.2.2.2.1 ≤ 1073741824)) && (decide (m.2.2.2.2.1 ≥ 0) && decide (m.2.2.2.2.1 ≤ 1073741824)) && (decide (m.2.2.2.2.2.1 ≥ 0) && decide (m.2.2.2.2.2.1 ≤ 1073741824)) && (decide (m.2.2.2.2.2.2.1 ≥ 0) && decide (m.2.2.2.2.2.2.1 ≤ 1073741824)) && (decide (m.2.2.2.2.2.2.2.1 ≥ 0) && decide (m.2.2.2.2.2.2.2.1 ≤ 1073741824))) = b
 cases b <;> cases (m.1 == 1 || m.1 == 9 || m.1 == 5) <;> (first | rfl | (simp only [cond_true, cond_false, Bool.true_and, Option.bind_some]; first | rfl | (cases nameP m.2.2.2.2.2.2.2.2.1 <;> rfl) | (cases strEq m.2.2.2.2.2.2.2.2.1 (ByteArray.mk #[]) <;> rfl)))
theorem strEq_nil {s : ByteArray} : strEq s (ByteArray.mk #[]) = decide (s.size = 0) := by
 unfold strEq
 by_cases h : s.size = 0
 ·rw [decide_eq_true h]
  have : s = ByteArray.mk #[] := by
   have h' : s.data.size = 0 := h
   cases s with | mk d => exact congrArg ByteArray.mk (Array.eq_empty_of_size_eq_zero h')
  rw [this]; exact beq_self_eq_true _
 ·rw [decide_eq_false h]
  apply beq_false_of_ne
  intro e
  have e2 := congrArg List.length e
  rw [Go.ByteArray.toList_eq, Go.ByteArray.toList_eq] at e2
  exact h (by simpa using e2)
theorem nameP_nil {s : ByteArray} (h : s.size = 0) : nameP s = true := by unfold nameP; rw [runes_nil h]; rfl
end Go.Sq
namespace Go.Sq
open Go.Rx
def scanL {A S R : Type} (stp : S → A → S ⊕ R) : S → List A → S ⊕ R
 | s, [] => .inl s
 | s, a :: l => match stp s a with
  | .inl s' => scanL stp s' l
  | .inr r => .inr r
theorem iter_scan {X R R' A S : Type} {f : X → Option (X ⊕ R)} (l : List A) (st : Nat → S → X) (stp : S → A → S ⊕ R') (bad : R' → R) (fin : S → R)
  (h : ∀ i a s, l[i]? = some a → f (st i s) = some (match stp s a with
   | .inl s' => .inl (st (i + 1) s')
   | .inr r => .inr (bad r))) (he : ∀ s, f (st l.length s) = some (.inr (fin s))) (s : S) :
  iter f (st 0 s) = some (match scanL stp s l with
   | .inl s' => fin s'
   | .inr r => bad r) := by
 have key : ∀ (l2 l1 : List A) (s : S), l = l1 ++ l2 → iter f (st l1.length s) = some (match scanL stp s l2 with
   | .inl s' => fin s'
   | .inr r => bad r) := by
  intro l2
  induction l2 with
  | nil =>
   intro l1 s e
   rw [List.append_nil] at e
   rw [← e]
   exact iter_inr (he s)
  | cons a l2 ih =>
   intro l1 s e
   have := h l1.length a s (by rw [e]; simp)
   unfold scanL
   cases hs : stp s a with
   | inl s' =>
    rw [hs] at this
    rw [iter_inl this]
    have := ih (l1 ++ [a]) s' (by rw [e]; simp)
    rwa [List.length_append, List.length_singleton] at this
   | inr r =>
    rw [hs] at this
    exact iter_inr this
 exact key l [] s rfl
theorem gD {A : Type} {l : List A} {i : Nat} {a : A} (h : l[i]? = some a) (d : A) : l.getD i d = a := by rw [List.getD_eq_getElem?_getD, h]; rfl
theorem lt_of_get {A : Type} {l : List A} {i : Nat} {a : A} (h : l[i]? = some a) : i < l.length := (List.getElem?_eq_some_iff.1 h).1
theorem scan_all {A : Type} (p : A → Bool) : ∀ l : List A, scanL (fun (_ : Unit) a => bif p a then Sum.inl () else Sum.inr ()) () l = bif l.all p then .inl () else .inr ()
 | [] => rfl
 | a :: l => by
  rw [scanL, List.all_cons]
  cases h : p a with
  | true => simp only [cond_true, Bool.true_and]; exact scan_all p l
  | false => simp only [cond_false, Bool.false_and]
theorem nO_T {a : Int} (h : 0 ≤ a) (h2 : a ≤ 1073741824) : nO a = true := by unfold nO; rw [decide_eq_true h, decide_eq_true h2]; rfl
theorem nO_F {a : Int} (h : a < 0 ∨ 1073741824 < a) : nO a = false := by
 unfold nO
 rcases h with h | h
 ·rw [decide_eq_false (by omega)]; rfl
 ·rw [decide_eq_false (p := a ≤ 1073741824) (by omega), Bool.and_false]
theorem r15_nums {l : List Int} {m : Msg} (hl : l.length ≤ 1000) : iter g_r15_Check_r1 (l, (l.length : Int), 0, m, ()) = some (bif l.all nO then .inl (m, ()) else .inr (1, ())) := by
 have := iter_scan (f := g_r15_Check_r1) l (fun i _ => (l, (l.length : Int), (i : Int), m, ())) (fun (_ : Unit) a => bif nO a then Sum.inl () else Sum.inr ()) (fun _ => .inr (1, ())) (fun _ => .inl (m, ()))
  (fun i a s hi => by
   have hi2 := lt_of_get hi
   have ws : IntKind.i64.wrap ((i : Int) + 1) = ((i + 1 : Nat) : Int) := by rw [wrap_i64 (by omega) (by omega)]; rfl
   simp (disch := omega) only [g_r15_Check_r1, dT, wT, Int.toNat_natCast, gD hi]
   by_cases h1 : a < 0
   ·simp (disch := omega) only [dT, cond_true, cond_false, Option.bind_some, nO_F]
   ·by_cases h2 : a > 1073741824
    ·simp (disch := omega) only [dF, decide_eq_true, cond_true, cond_false, Option.bind_some, nO_F]
    ·simp (disch := omega) only [dF, decide_eq_false, cond_true, cond_false, Option.bind_some, nO_T, ws])
  (fun s => by simp (disch := omega) only [g_r15_Check_r1, dF]) ()
 rw [scan_all] at this
 refine Eq.trans this ?_
 cases l.all nO <;> rfl
theorem r15_Check_eq {m : Msg} (h : m.2.2.2.2.2.2.2.2.1.size ≤ 9223372036854775807) : g_r15_Check m = some (err (okM m)) := by
 have hn := r15_Name_eq h
 have hz := @strEq_nil m.2.2.2.2.2.2.2.2.1
 have hz2 := @nameP_nil m.2.2.2.2.2.2.2.2.1
 unfold g_r15_Check okM err
 have hnum : g_r15_numbers m = some [m.2.1, m.2.2.1, m.2.2.2.1, m.2.2.2.2.1, m.2.2.2.2.2.1, m.2.2.2.2.2.2.1, m.2.2.2.2.2.2.2.1] := rfl
 by_cases h1 : m.1 < 1
 ·simp (disch := omega) only [dT, decide_eq_false, cond_true, cond_false, Option.bind_some, Bool.false_and]
 by_cases h2 : m.1 > 15
 ·simp (disch := omega) only [dT, dF, decide_eq_false, cond_true, cond_false, Option.bind_some, Bool.false_and, Bool.and_false]
 simp (disch := omega) only [dT, dF, decide_eq_true, cond_true, cond_false, Option.bind_some, hn, Bool.true_and]
 by_cases h3 : (m.2.2.2.2.2.2.2.2.2.length : Int) > 64
 ·cases hq : nameP m.2.2.2.2.2.2.2.2.1 <;> simp (disch := omega) only [decide_eq_true, decide_eq_false, cond_true, cond_false, Option.bind_some, Bool.not_true, Bool.not_false, Bool.false_and]
 simp (disch := omega) only [decide_eq_false (p := (m.2.2.2.2.2.2.2.2.2.length : Int) > 64), decide_eq_true (p := (m.2.2.2.2.2.2.2.2.2.length : Int) ≤ 64), hnum, Option.bind_some, Bool.true_and]
 have hnn := r15_nums (l := [m.2.1, m.2.2.1, m.2.2.2.1, m.2.2.2.2.1, m.2.2.2.2.2.1, m.2.2.2.2.2.2.1, m.2.2.2.2.2.2.2.1]) (m := m) (by simp)
 simp only [List.all_cons, List.all_nil, Bool.and_true] at hnn
 rw [hz]
 cases hq : nameP m.2.2.2.2.2.2.2.2.1 with
 | false =>
  have : decide (m.2.2.2.2.2.2.2.2.1.size = 0) = false := decide_eq_false fun e => by rw [hz2 e] at hq; cases hq
  simp only [this, Bool.not_false, cond_true, Option.bind_some]
  cases (m.1 == 1 || m.1 == 9 || m.1 == 5) <;> simp only [cond_true, cond_false, Bool.and_false]
 | true =>
  simp only [Bool.not_true, cond_false, Option.bind_some, hnum, hnn]
  simp only [Bool.and_assoc]
  have ra : ∀ x : Bool, (nO m.2.1 && (nO m.2.2.1 && (nO m.2.2.2.1 && (nO m.2.2.2.2.1 && (nO m.2.2.2.2.2.1 && (nO m.2.2.2.2.2.2.1 && (nO m.2.2.2.2.2.2.2.1 && x))))))) = ((nO m.2.1 && (nO m.2.2.1 && (nO m.2.2.2.1 && (nO m.2.2.2.2.1 && (nO m.2.2.2.2.2.1 && (nO m.2.2.2.2.2.2.1 && nO m.2.2.2.2.2.2.2.1)))))) && x) := fun x => by simp only [Bool.and_assoc]
  rw [ra]
  generalize (nO m.2.1 && (nO m.2.2.1 && (nO m.2.2.2.1 && (nO m.2.2.2.2.1 && (nO m.2.2.2.2.2.1 && (nO m.2.2.2.2.2.2.1 && nO m.2.2.2.2.2.2.2.1)))))) = b at *
  cases b with
  | false => simp only [cond_false, Option.bind_some, Bool.false_and, Bool.and_false]
  | true =>
   have e2 : ∀ {R : Type} (k : Bool × Msg × Unit → Option R), ((bif (m.1 == 1) then some (true, m, ()) else bif (m.1 == 9) then some (true, m, ()) else some ((m.1 == 5), m, ())) : Option (Bool × Msg × Unit)).bind k = k (m.1 == 1 || m.1 == 9 || m.1 == 5, m, ()) := by
    intro R k
    cases m.1 == 1 <;> cases m.1 == 9 <;> rfl
   simp only [cond_true, Option.bind_some, Bool.true_and, e2, hz]
   generalize decide (m.2.2.2.2.2.2.2.2.1.size = 0) = c
   generalize decide ((m.2.2.2.2.2.2.2.2.2.length : Int) > 0) = d
   generalize (m.1 == 13) = g
   generalize (m.1 == 1 || m.1 == 9 || m.1 == 5) = e
   cases e <;> cases c <;> cases d <;> cases g <;> rfl
end Go.Sq
namespace Go.Sq
open Go.Rx
theorem iter_scanI {X R R' A S : Type} {f : X → Option (X ⊕ R)} (Inv : S → Prop) (l : List A) (st : Nat → S → X) (stp : S → A → S ⊕ R') (bad : R' → R) (fin : S → R)
  (h : ∀ i a s, l[i]? = some a → Inv s → f (st i s) = some (match stp s a with
   | .inl s' => .inl (st (i + 1) s')
   | .inr r => .inr (bad r))) (hI : ∀ (i : Nat) a s s', l[i]? = some a → Inv s → stp s a = .inl s' → Inv s') (he : ∀ s, f (st l.length s) = some (.inr (fin s))) (s : S) (h0 : Inv s) :
  iter f (st 0 s) = some (match scanL stp s l with
   | .inl s' => fin s'
   | .inr r => bad r) := by
 have key : ∀ (l2 l1 : List A) (s : S), Inv s → l = l1 ++ l2 → iter f (st l1.length s) = some (match scanL stp s l2 with
   | .inl s' => fin s'
   | .inr r => bad r) := by
  intro l2
  induction l2 with
  | nil =>
   intro l1 s _ e
   rw [List.append_nil] at e
   rw [← e]
   exact iter_inr (he s)
  | cons a l2 ih =>
   intro l1 s h0 e
   have hg : l[l1.length]? = some a := by rw [e]; simp
   have := h l1.length a s hg h0
   unfold scanL
   cases hs : stp s a with
   | inl s' =>
    rw [hs] at this
    rw [iter_inl this]
    have := ih (l1 ++ [a]) s' (hI _ _ _ _ hg h0 hs) (by rw [e]; simp)
    rwa [List.length_append, List.length_singleton] at this
   | inr r =>
    rw [hs] at this
    exact iter_inr this
 exact key l [] s h0 rfl
def okL {P A : Type} (q : P → A → Bool) (nxt : A → P) : P → List A → Bool
 | _, [] => true
 | p, a :: l => q p a && okL q nxt (nxt a) l
theorem scan_ok {P A : Type} (q : P → A → Bool) (nxt : A → P) : ∀ (l : List A) (b : Bool) (p : P), ∃ p' : P, scanL (fun (x : Bool × P) a => (Sum.inl (x.1 && q x.2 a, nxt a) : (Bool × P) ⊕ Unit)) (b, p) l = .inl (b && okL q nxt p l, p')
 | [], b, p => ⟨p, by rw [okL, Bool.and_true]; rfl⟩
 | a :: l, b, p => by
  obtain ⟨p', h⟩ := scan_ok q nxt l (b && q p a) (nxt a)
  exact ⟨p', by rw [scanL, okL, ← Bool.and_assoc]; exact h⟩
theorem scan_err {P A : Type} (q : P → A → Bool) (nxt : A → P) : ∀ (l : List A) (p : P), ∃ p' : P, scanL (fun (p : P) a => (bif q p a then Sum.inl (nxt a) else Sum.inr () : P ⊕ Unit)) p l = bif okL q nxt p l then .inl p' else .inr ()
 | [], p => ⟨p, rfl⟩
 | a :: l, p => by
  obtain ⟨p', h⟩ := scan_err q nxt l (nxt a)
  refine ⟨p', ?_⟩
  rw [scanL, okL]
  cases q p a
  ·rfl
  ·simp only [cond_true, Bool.true_and]; exact h
abbrev Snd := Int × Msg × Int × Int
abbrev Hrd := Int × Int × List Int
abbrev RS := Int × List Snd × List Hrd
def okSend (nx p : Int) (s : Snd) : Bool :=
 (decide (p < s.1) && decide (s.1 < nx)) && (s.2.1.2.2.2.2.1 == s.1) && (decide (s.2.2.1 ≥ 0) && decide (s.2.2.1 ≤ 4)) && (decide (s.2.2.2 ≥ 0) && decide (s.2.2.2 ≤ 2199023255552)) && okM s.2.1
def okNo (p x : Int) : Bool := decide (x > p) && decide (x ≤ 1073741824)
def okHrd (p : Int) (h : Hrd) : Bool :=
 decide (h.1 > p) && decide (h.1 ≤ 1073741824) && (decide (h.2.1 ≥ 0) && decide (h.2.1 ≤ 1073741825)) && decide ((h.2.2.length : Int) ≤ 16) && okL okNo (·) h.2.1 h.2.2
def okW (w : RS) : Bool :=
 (decide (w.1 ≥ 1) && decide (w.1 ≤ 1073741824)) && decide ((w.2.1.length : Int) ≤ 64) && decide ((w.2.2.length : Int) ≤ 64) && okL (okSend w.1) (·.1) 0 w.2.1 && okL okHrd (·.1) (-1) w.2.2
def szM (m : Msg) : Prop := m.2.2.2.2.2.2.2.2.1.size ≤ 9223372036854775807 ∧ m.2.2.2.2.2.2.2.2.2.length ≤ 9223372036854775807
def szW (w : RS) : Prop := w.2.1.length ≤ 9223372036854775807 ∧ (∀ s ∈ w.2.1, szM s.2.1) ∧ w.2.2.length ≤ 9223372036854775807 ∧ ∀ h ∈ w.2.2, h.2.2.length ≤ 9223372036854775807
theorem within_eq (a b c : Int) : g_retry_within a b c = some (decide (a ≥ b) && decide (a ≤ c)) := by
 unfold g_retry_within
 by_cases h : a ≥ b
 ·rw [decide_eq_true h]; rfl
 ·rw [decide_eq_false h]; rfl
theorem mem_of_get {A : Type} {l : List A} {i : Nat} {a : A} (h : l[i]? = some a) : a ∈ l := List.mem_of_getElem? h
theorem check_sends {b : Bool} {w : RS} {l : List Snd} (hl : l.length ≤ 9223372036854775807) (hs : ∀ s ∈ l, szM s.2.1) (hw : b = true → 1 ≤ w.1 ∧ w.1 ≤ 1073741824) :
  iter g_retry_Check_r1 (b, 0, l, (l.length : Int), 0, w, ()) = some (b && okL (okSend w.1) (·.1) 0 l, w, ()) := by
 have := iter_scanI (f := g_retry_Check_r1) (fun x : Bool × Int => x.1 = true → (1 ≤ w.1 ∧ w.1 ≤ 1073741824) ∧ 0 ≤ x.2 ∧ x.2 < 1073741824) l (fun i x => (x.1, x.2, l, (l.length : Int), (i : Int), w, ())) (fun (x : Bool × Int) a => (Sum.inl (x.1 && okSend w.1 x.2 a, a.1) : (Bool × Int) ⊕ Unit)) (fun _ => (false, w, ())) (fun x => (x.1, w, ()))
  (fun i a x hi hI => by
   obtain ⟨ok, p⟩ := x
   have hi2 := lt_of_get hi
   have ws : IntKind.i64.wrap ((i : Int) + 1) = ((i + 1 : Nat) : Int) := by rw [wrap_i64 (by omega) (by omega)]; rfl
   have hc := wire_Check_eq (hs a (mem_of_get hi)).1
   cases ok with
   | false => simp (disch := omega) only [g_retry_Check_r1, dT, wT, Int.toNat_natCast, gD hi, cond_false, Option.bind_some, ws, Bool.false_and]
   | true =>
    obtain ⟨⟨w1, w2⟩, p1, p2⟩ := hI rfl
    have p1 : 0 ≤ p := p1
    have p2 : p < 1073741824 := p2
    have wa : IntKind.i64.wrap (p + 1) = p + 1 := wrap_i64 (by omega) (by omega)
    have wb : IntKind.i64.wrap (w.1 - 1) = w.1 - 1 := wrap_i64 (by omega) (by omega)
    simp (disch := omega) only [g_retry_Check_r1, dT, wT, Int.toNat_natCast, gD hi, cond_true, Option.bind_some, ws, Bool.true_and, within_eq, wa, wb, hc]
    have c1 : decide (a.1 ≥ p + 1) = decide (p < a.1) := decide_eq_decide.2 (by omega)
    have c2 : decide (a.1 ≤ w.1 - 1) = decide (a.1 < w.1) := decide_eq_decide.2 (by omega)
    rw [c1, c2, ← ws]
    unfold okSend err
    generalize (decide (p < a.1) && decide (a.1 < w.1)) = b1
    generalize (a.2.1.2.2.2.2.1 == a.1) = b2
    generalize (decide (a.2.2.1 ≥ 0) && decide (a.2.2.1 ≤ 4)) = b3
    generalize (decide (a.2.2.2 ≥ 0) && decide (a.2.2.2 ≤ 2199023255552)) = b4
    generalize okM a.2.1 = b5
    cases b1 <;> cases b2 <;> cases b3 <;> cases b4 <;> cases b5 <;> rfl)
  (fun i a x s' hi hI e => by
   obtain ⟨ok, p⟩ := x
   cases e
   intro ho
   have ho : (ok && okSend w.1 p a) = true := ho
   rw [Bool.and_eq_true] at ho
   obtain ⟨hw', _, _⟩ := hI ho.1
   have h2 := ho.2
   unfold okSend at h2
   simp only [Bool.and_eq_true, decide_eq_true_eq] at h2
   refine ⟨hw', ?_, ?_⟩
   ·show 0 ≤ a.1
    have := (hI ho.1).2.1
    have : 0 ≤ p := this
    omega
   ·show a.1 < 1073741824
    omega)
  (fun s => by simp (disch := omega) only [g_retry_Check_r1, dF]) (b, 0) (fun h => ⟨hw h, Int.le_refl 0, by show (0 : Int) < 1073741824; decide⟩)
 obtain ⟨p', e⟩ := scan_ok (okSend w.1) (·.1) l b 0
 rw [e] at this
 exact this
end Go.Sq
namespace Go.Sq
open Go.Rx
theorem check_had {b : Bool} {a p : Int} {h : List Hrd} {n i : Int} {l : List Int} (hl : l.length ≤ 9223372036854775807) :
  ∃ q, iter g_retry_Check_r2 (b, a, p, h, n, i, l, (l.length : Int), 0, ()) = some (b && okL okNo (·) p l, a, h, n, i, ()) ∧ q = p := by
 have := iter_scan (f := g_retry_Check_r2) l (fun k x => (x.1, a, x.2, h, n, i, l, (l.length : Int), (k : Int), ())) (fun (x : Bool × Int) y => (Sum.inl (x.1 && okNo x.2 y, y) : (Bool × Int) ⊕ Unit)) (fun _ => (false, a, h, n, i, ())) (fun x => (x.1, a, h, n, i, ()))
  (fun k y x hk => by
   obtain ⟨ok, p⟩ := x
   have hk2 := lt_of_get hk
   have ws : IntKind.i64.wrap ((k : Int) + 1) = ((k + 1 : Nat) : Int) := by rw [wrap_i64 (by omega) (by omega)]; rfl
   simp (disch := omega) only [g_retry_Check_r2, dT, wT, Int.toNat_natCast, gD hk]
   rw [← ws]
   unfold okNo
   cases ok <;> cases decide (y > p) <;> rfl)
  (fun s => by simp (disch := omega) only [g_retry_Check_r2, dF]) (b, p)
 obtain ⟨p', e⟩ := scan_ok okNo (·) l b p
 rw [e] at this
 exact ⟨p, this, rfl⟩
theorem check_heard {b : Bool} {l : List Hrd} (hl : l.length ≤ 9223372036854775807) (hs : ∀ s ∈ l, s.2.2.length ≤ 9223372036854775807) :
  iter g_retry_Check_r3 (b, (-1), l, (l.length : Int), 0, ()) = some (b && okL okHrd (·.1) (-1) l, ()) := by
 have := iter_scan (f := g_retry_Check_r3) l (fun i x => (x.1, x.2, l, (l.length : Int), (i : Int), ())) (fun (x : Bool × Int) a => (Sum.inl (x.1 && okHrd x.2 a, a.1) : (Bool × Int) ⊕ Unit)) (fun _ => (false, ())) (fun x => (x.1, ()))
  (fun i a x hi => by
   obtain ⟨ok, p⟩ := x
   have hi2 := lt_of_get hi
   have ws : IntKind.i64.wrap ((i : Int) + 1) = ((i + 1 : Nat) : Int) := by rw [wrap_i64 (by omega) (by omega)]; rfl
   have hh : ∀ b, iter g_retry_Check_r2 (b, a.1, a.2.1, l, (l.length : Int), (i : Int), a.2.2, (a.2.2.length : Int), 0, ()) = some (b && okL okNo (·) a.2.1 a.2.2, a.1, l, (l.length : Int), (i : Int), ()) := by
    intro b
    obtain ⟨_, e, _⟩ := check_had (b := b) (a := a.1) (p := a.2.1) (h := l) (n := l.length) (i := i) (hs a (mem_of_get hi))
    exact e
   simp (disch := omega) only [g_retry_Check_r3, dT, wT, Int.toNat_natCast, gD hi, within_eq, Option.bind_some]
   rw [← ws]
   unfold okHrd
   generalize okL okNo (·) a.2.1 a.2.2 = b5 at *
   generalize (decide (a.2.1 ≥ 0) && decide (a.2.1 ≤ 1073741825)) = b3
   generalize decide ((a.2.2.length : Int) ≤ 16) = b4
   cases ok <;> cases decide (a.1 > p) <;> cases decide (a.1 ≤ 1073741824) <;> cases b3 <;> cases b4 <;> simp only [cond_true, cond_false, Option.bind_some, hh] <;> rfl)
  (fun s => by simp (disch := omega) only [g_retry_Check_r3, dF]) (b, -1)
 obtain ⟨p', e⟩ := scan_ok okHrd (·.1) l b (-1)
 rw [e] at this
 exact this
theorem retry_Check_eq {w : RS} (h : szW w) : g_retry_Check w = some (err (okW w)) := by
 obtain ⟨h1, h2, h3, h4⟩ := h
 have e : ∀ k : Bool × RS × Unit → Option Int, (((g_retry_within w.1 1 1073741824).bind fun y1 => bif y1 then bif (decide ((w.2.1.length : Int) ≤ 64)) then some ((decide ((w.2.2.length : Int) ≤ 64)), w, ()) else some (false, w, ()) else some (false, w, ())) : Option (Bool × RS × Unit)).bind k =
   k ((decide (w.1 ≥ 1) && decide (w.1 ≤ 1073741824)) && decide ((w.2.1.length : Int) ≤ 64) && decide ((w.2.2.length : Int) ≤ 64), w, ()) := by
  intro k
  rw [within_eq, Option.bind_some]
  cases decide (w.1 ≥ 1) && decide (w.1 ≤ 1073741824) <;> cases decide ((w.2.1.length : Int) ≤ 64) <;> rfl
 unfold g_retry_Check okW
 rw [e]
 rw [check_sends h1 h2 (fun hb => by
  simp only [Bool.and_eq_true, decide_eq_true_eq] at hb
  exact hb.1.1), Option.bind_some, check_heard h3 h4, Option.bind_some]
 unfold err
 generalize ((decide (w.1 ≥ 1) && decide (w.1 ≤ 1073741824)) && decide ((w.2.1.length : Int) ≤ 64) && decide ((w.2.2.length : Int) ≤ 64) && okL (okSend w.1) (·.1) 0 w.2.1 && okL okHrd (·.1) (-1) w.2.2) = b
 cases b <;> rfl
theorem r17_sends {w : RS} {l : List Snd} (hl : l.length ≤ 9223372036854775807) (hs : ∀ s ∈ l, szM s.2.1) :
  iter g_r17_Check_r1 (0, l, (l.length : Int), 0, w, ()) = some (bif okL (okSend w.1) (·.1) 0 l then .inl (w, ()) else .inr (1, ())) := by
 have := iter_scan (f := g_r17_Check_r1) l (fun i (p : Int) => (p, l, (l.length : Int), (i : Int), w, ())) (fun (p : Int) a => (bif okSend w.1 p a then Sum.inl a.1 else Sum.inr () : Int ⊕ Unit)) (fun _ => .inr (1, ())) (fun _ => .inl (w, ()))
  (fun i a p hi => by
   have hi2 := lt_of_get hi
   have ws : IntKind.i64.wrap ((i : Int) + 1) = ((i + 1 : Nat) : Int) := by rw [wrap_i64 (by omega) (by omega)]; rfl
   have hc := r15_Check_eq (hs a (mem_of_get hi)).1
   simp (disch := omega) only [g_r17_Check_r1, dT, wT, Int.toNat_natCast, gD hi, hc]
   rw [← ws]
   have c1 : decide (a.1 ≤ p) = !decide (p < a.1) := by rw [← decide_not]; exact decide_eq_decide.2 (by omega)
   have c2 : decide (a.1 ≥ w.1) = !decide (a.1 < w.1) := by rw [← decide_not]; exact decide_eq_decide.2 (by omega)
   have c3 : decide (a.2.2.1 < 0) = !decide (a.2.2.1 ≥ 0) := by rw [← decide_not]; exact decide_eq_decide.2 (by omega)
   have c4 : decide (a.2.2.1 > 4) = !decide (a.2.2.1 ≤ 4) := by rw [← decide_not]; exact decide_eq_decide.2 (by omega)
   have c5 : decide (a.2.2.2 < 0) = !decide (a.2.2.2 ≥ 0) := by rw [← decide_not]; exact decide_eq_decide.2 (by omega)
   have c6 : decide (a.2.2.2 > 2199023255552) = !decide (a.2.2.2 ≤ 2199023255552) := by rw [← decide_not]; exact decide_eq_decide.2 (by omega)
   rw [c1, c2, c3, c4, c5, c6]
   unfold okSend err
   have c7 : (a.2.1.2.2.2.2.1 != a.1) = !(a.2.1.2.2.2.2.1 == a.1) := rfl
   rw [c7]
   generalize decide (p < a.1) = b1
   generalize decide (a.1 < w.1) = b2
   generalize (a.2.1.2.2.2.2.1 == a.1) = b3
   generalize okM a.2.1 = b4
   generalize decide (a.2.2.1 ≥ 0) = b5
   generalize decide (a.2.2.1 ≤ 4) = b6
   generalize decide (a.2.2.2 ≥ 0) = b7
   generalize decide (a.2.2.2 ≤ 2199023255552) = b8
   cases b1; · rfl
   cases b2; · rfl
   cases b3; · rfl
   cases b4
   ·cases b5 <;> cases b6 <;> cases b7 <;> cases b8 <;> rfl
   cases b5; · rfl
   cases b6; · rfl
   cases b7; · rfl
   cases b8 <;> rfl)
  (fun s => by simp (disch := omega) only [g_r17_Check_r1, dF]) 0
 obtain ⟨p', e⟩ := scan_err (okSend w.1) (·.1) l 0
 rw [e] at this
 refine Eq.trans this ?_
 cases okL (okSend w.1) (·.1) 0 l <;> rfl
theorem r17_had {a p : Int} {h : List Hrd} {n i : Int} {l : List Int} (hl : l.length ≤ 9223372036854775807) :
  iter g_r17_Check_r2 (a, p, h, n, i, l, (l.length : Int), 0, ()) = some (bif okL okNo (·) p l then .inl (a, h, n, i, ()) else .inr (1, ())) := by
 have := iter_scan (f := g_r17_Check_r2) l (fun k (x : Int) => (a, x, h, n, i, l, (l.length : Int), (k : Int), ())) (fun (x : Int) y => (bif okNo x y then Sum.inl y else Sum.inr () : Int ⊕ Unit)) (fun _ => .inr (1, ())) (fun x => .inl (a, h, n, i, ()))
  (fun k y x hk => by
   have hk2 := lt_of_get hk
   have ws : IntKind.i64.wrap ((k : Int) + 1) = ((k + 1 : Nat) : Int) := by rw [wrap_i64 (by omega) (by omega)]; rfl
   simp (disch := omega) only [g_r17_Check_r2, dT, wT, Int.toNat_natCast, gD hk]
   rw [← ws]
   have c1 : decide (y ≤ x) = !decide (y > x) := by rw [← decide_not]; exact decide_eq_decide.2 (by omega)
   have c2 : decide (y > 1073741824) = !decide (y ≤ 1073741824) := by rw [← decide_not]; exact decide_eq_decide.2 (by omega)
   rw [c1, c2]
   unfold okNo
   cases decide (y > x) <;> cases decide (y ≤ 1073741824) <;> rfl)
  (fun s => by simp (disch := omega) only [g_r17_Check_r2, dF]) p
 obtain ⟨p', e⟩ := scan_err okNo (·) l p
 rw [e] at this
 refine Eq.trans this ?_
 cases okL okNo (·) p l <;> rfl
theorem r17_heard {l : List Hrd} (hl : l.length ≤ 9223372036854775807) (hs : ∀ s ∈ l, s.2.2.length ≤ 9223372036854775807) :
  iter g_r17_Check_r3 ((-1), l, (l.length : Int), 0, ()) = some (bif okL okHrd (·.1) (-1) l then .inl () else .inr (1, ())) := by
 have := iter_scan (f := g_r17_Check_r3) l (fun i (x : Int) => (x, l, (l.length : Int), (i : Int), ())) (fun (x : Int) a => (bif okHrd x a then Sum.inl a.1 else Sum.inr () : Int ⊕ Unit)) (fun _ => .inr (1, ())) (fun x => .inl ())
  (fun i a p hi => by
   have hi2 := lt_of_get hi
   have ws : IntKind.i64.wrap ((i : Int) + 1) = ((i + 1 : Nat) : Int) := by rw [wrap_i64 (by omega) (by omega)]; rfl
   have hh := r17_had (a := a.1) (p := a.2.1) (h := l) (n := l.length) (i := i) (hs a (mem_of_get hi))
   simp (disch := omega) only [g_r17_Check_r3, dT, wT, Int.toNat_natCast, gD hi]
   rw [← ws]
   have c1 : decide (a.1 ≤ p) = !decide (a.1 > p) := by rw [← decide_not]; exact decide_eq_decide.2 (by omega)
   have c2 : decide (a.1 > 1073741824) = !decide (a.1 ≤ 1073741824) := by rw [← decide_not]; exact decide_eq_decide.2 (by omega)
   have c3 : decide (a.2.1 < 0) = !decide (a.2.1 ≥ 0) := by rw [← decide_not]; exact decide_eq_decide.2 (by omega)
   have c4 : decide (a.2.1 > 1073741825) = !decide (a.2.1 ≤ 1073741825) := by rw [← decide_not]; exact decide_eq_decide.2 (by omega)
   have c5 : decide ((a.2.2.length : Int) > 16) = !decide ((a.2.2.length : Int) ≤ 16) := by rw [← decide_not]; exact decide_eq_decide.2 (by omega)
   rw [c1, c2, c3, c4, c5]
   unfold okHrd
   generalize okL okNo (·) a.2.1 a.2.2 = b5 at *
   generalize decide (a.2.1 ≥ 0) = b3
   generalize decide (a.2.1 ≤ 1073741825) = b6
   generalize decide ((a.2.2.length : Int) ≤ 16) = b4
   cases decide (a.1 > p) <;> cases decide (a.1 ≤ 1073741824) <;> cases b3 <;> cases b6 <;> cases b4 <;> cases b5 <;> simp only [cond_true, cond_false, Option.bind_some, Bool.not_true, Bool.not_false, hh] <;> rfl)
  (fun s => by simp (disch := omega) only [g_r17_Check_r3, dF]) (-1)
 obtain ⟨p', e⟩ := scan_err okHrd (·.1) l (-1)
 rw [e] at this
 refine Eq.trans this ?_
 cases okL okHrd (·.1) (-1) l <;> rfl
theorem r17_Check_eq {w : RS} (h : szW w) : g_r17_Check w = some (err (okW w)) := by
 obtain ⟨h1, h2, h3, h4⟩ := h
 have hs := r17_sends (w := w) h1 h2
 have hh := r17_heard h3 h4
 unfold g_r17_Check okW
 have c1 : decide (w.1 < 1) = !decide (w.1 ≥ 1) := by rw [← decide_not]; exact decide_eq_decide.2 (by omega)
 have c2 : decide (w.1 > 1073741824) = !decide (w.1 ≤ 1073741824) := by rw [← decide_not]; exact decide_eq_decide.2 (by omega)
 have c3 : decide ((w.2.1.length : Int) > 64) = !decide ((w.2.1.length : Int) ≤ 64) := by rw [← decide_not]; exact decide_eq_decide.2 (by omega)
 have c4 : decide ((w.2.2.length : Int) > 64) = !decide ((w.2.2.length : Int) ≤ 64) := by rw [← decide_not]; exact decide_eq_decide.2 (by omega)
 rw [c1, c2, c3, c4]
 generalize decide (w.1 ≥ 1) = b1
 generalize decide (w.1 ≤ 1073741824) = b2
 generalize decide ((w.2.1.length : Int) ≤ 64) = b3
 generalize decide ((w.2.2.length : Int) ≤ 64) = b4
 generalize okL (okSend w.1) (·.1) 0 w.2.1 = b5 at *
 generalize okL okHrd (·.1) (-1) w.2.2 = b6 at *
 cases b1; · rfl
 cases b2; · rfl
 cases b3; · rfl
 cases b4; · rfl
 simp only [cond_true, cond_false, Option.bind_some, Bool.not_true, hs]
 cases b5; · rfl
 simp only [cond_true, Option.bind_some, hh]
 cases b6 <;> rfl
end Go.Sq
namespace Go.Sq
open Go.Rx
theorem clone_bytes {l : List Int} (h : l.length ≤ 1000) : g_slices_Clone_Sbyte_byte l = some l := by
 unfold g_slices_Clone_Sbyte_byte
 rw [List.nil_append, rT (by omega)]
theorem clone_ints {l : List Int} (h : l.length ≤ 1000) : g_slices_Clone_Sint_int l = some l := by
 unfold g_slices_Clone_Sint_int
 rw [List.nil_append, rT (by omega)]
theorem clone_sends {l : List Snd} (h : l.length ≤ 1000) : g_slices_Clone_Sapi_Send_api_Send l = some l := by
 unfold g_slices_Clone_Sapi_Send_api_Send
 rw [List.nil_append, rT (by omega)]
theorem clone_heard {l : List Hrd} (h : l.length ≤ 1000) : g_slices_Clone_Sapi_Heard_api_Heard l = some l := by
 unfold g_slices_Clone_Sapi_Heard_api_Heard
 rw [List.nil_append, rT (by omega)]
theorem letter_eq {m : Msg} (h : m.2.2.2.2.2.2.2.2.2.length ≤ 1000) : g_retry_letter m = some m := by
 unfold g_retry_letter
 rw [clone_bytes h, Option.bind_some]
theorem set_same {A : Type} {l : List A} {i : Nat} {a : A} (h : l[i]? = some a) : l.set i a = l := by
 obtain ⟨h1, h2⟩ := List.getElem?_eq_some_iff.1 h
 rw [← h2, List.set_getElem_self]
def fewW (w : RS) : Prop := w.2.1.length ≤ 64 ∧ (∀ s ∈ w.2.1, s.2.1.2.2.2.2.2.2.2.2.2.length ≤ 64) ∧ w.2.2.length ≤ 64 ∧ ∀ h ∈ w.2.2, h.2.2.length ≤ 16
theorem okL_mem {P A : Type} {q : P → A → Bool} {nxt : A → P} : ∀ {l : List A} {p : P}, okL q nxt p l = true → ∀ a ∈ l, ∃ p', q p' a = true
 | a :: l, p, h, x, hx => by
  rw [okL, Bool.and_eq_true] at h
  rcases List.mem_cons.1 hx with rfl | hx
  ·exact ⟨p, h.1⟩
  ·exact okL_mem h.2 x hx
theorem okSend_M {nx p : Int} {s : Snd} (h : okSend nx p s = true) : p < s.1 ∧ s.1 < nx ∧ s.2.1.2.2.2.2.1 = s.1 ∧ okM s.2.1 = true := by
 unfold okSend at h
 simp only [Bool.and_eq_true, decide_eq_true_eq, beq_iff_eq] at h
 exact ⟨h.1.1.1.1.1, h.1.1.1.1.2, h.1.1.1.2, h.2⟩
theorem okM_few {m : Msg} (h : okM m = true) : m.2.2.2.2.2.2.2.2.2.length ≤ 64 ∧ 1 ≤ m.1 ∧ m.1 ≤ 15 := by
 unfold okM at h
 simp only [Bool.and_eq_true, decide_eq_true_eq] at h
 obtain ⟨⟨⟨⟨⟨⟨⟨⟨⟨⟨⟨a, b⟩, c⟩, _⟩, _⟩, _⟩, _⟩, _⟩, _⟩, _⟩, _⟩, _⟩ := h
 omega
theorem okW_few {w : RS} (h : okW w = true) : fewW w := by
 unfold okW at h
 simp only [Bool.and_eq_true, decide_eq_true_eq] at h
 obtain ⟨⟨⟨⟨_, h1⟩, h2⟩, h3⟩, h4⟩ := h
 refine ⟨by omega, fun s hs => ?_, by omega, fun x hx => ?_⟩
 ·obtain ⟨p, hp⟩ := okL_mem h3 s hs
  exact (okM_few (okSend_M hp).2.2.2).1
 ·obtain ⟨p, hp⟩ := okL_mem h4 x hx
  unfold okHrd at hp
  simp only [Bool.and_eq_true, decide_eq_true_eq] at hp
  have := hp.1.2
  omega
theorem rowned_eq {w : RS} (h : fewW w) : g_retry_owned w = some w := by
 obtain ⟨h1, h2, h3, h4⟩ := h
 have l1 : iter g_retry_owned_r1 ((w.2.1.length : Int), 0, (w.1, (w.2.1, w.2.2)), (0, ([], [])), ()) = some (w, (0, ([], [])), ()) :=
  iter_count (fun i => ((w.2.1.length : Int), (i : Int), (w.1, (w.2.1, w.2.2)), (0, ([], [])), ())) w.2.1.length (fun i hi => by
   obtain ⟨a, ha⟩ : ∃ a, w.2.1[i]? = some a := ⟨_, List.getElem?_eq_getElem hi⟩
   have ws : IntKind.i64.wrap ((i : Int) + 1) = ((i + 1 : Nat) : Int) := by rw [wrap_i64 (by omega) (by omega)]; rfl
   have hl := letter_eq (m := a.2.1) (by have := h2 a (mem_of_get ha); omega)
   simp (disch := omega) only [g_retry_owned_r1, dT, wT, Int.toNat_natCast, gD ha, hl, Option.bind_some, ws]
   rw [set_same ha]) (by simp (disch := omega) only [g_retry_owned_r1, dF])
 have l2 : iter g_retry_owned_r2 ((w.2.2.length : Int), 0, w, (0, ([], [])), ()) = some (w, (0, ([], [])), ()) :=
  iter_count (fun i => ((w.2.2.length : Int), (i : Int), w, (0, ([], [])), ())) w.2.2.length (fun i hi => by
   obtain ⟨a, ha⟩ : ∃ a, w.2.2[i]? = some a := ⟨_, List.getElem?_eq_getElem hi⟩
   have ws : IntKind.i64.wrap ((i : Int) + 1) = ((i + 1 : Nat) : Int) := by rw [wrap_i64 (by omega) (by omega)]; rfl
   have hl := clone_ints (l := a.2.2) (by have := h4 a (mem_of_get ha); omega)
   simp (disch := omega) only [g_retry_owned_r2, dT, wT, Int.toNat_natCast, gD ha, hl, Option.bind_some, ws]
   rw [set_same ha]) (by simp (disch := omega) only [g_retry_owned_r2, dF])
 unfold g_retry_owned
 rw [clone_sends (by omega), Option.bind_some, clone_heard (by omega), Option.bind_some, l1, Option.bind_some, l2]
 rfl
theorem contains_eq {l : List Int} {x : Int} (h : l.length ≤ 1000) : g_slices_Contains_Sint_int l x = some (l.contains x) := by
 have key : ∀ (l2 l1 : List Int), l = l1 ++ l2 → ∃ r, iter g_slices_Index_Sint_int_r1 (l, x, (l.length : Int), (l1.length : Int), ()) = some r ∧ (match r with
  | .inl _ => l2.contains x = false
  | .inr (k, _) => 0 ≤ k ∧ l2.contains x = true) := by
  intro l2
  induction l2 with
  | nil =>
   intro l1 e
   rw [List.append_nil] at e
   subst e
   exact ⟨.inl (), iter_inr (by simp (disch := omega) only [g_slices_Index_Sint_int_r1, dF]), rfl⟩
  | cons a l2 ih =>
   intro l1 e
   have hg : l[l1.length]? = some a := by rw [e]; simp
   have hl := lt_of_get hg
   by_cases hx : x = a
   ·refine ⟨.inr ((l1.length : Int), ()), iter_inr (by simp (disch := omega) only [g_slices_Index_Sint_int_r1, dT, wT, Int.toNat_natCast, gD hg, eT]), by omega, ?_⟩
    rw [hx]; simp
   ·obtain ⟨r, h1, h2⟩ := ih (l1 ++ [a]) (by rw [e]; simp)
    have ws : IntKind.i64.wrap ((l1.length : Int) + 1) = (((l1 ++ [a]).length : Nat) : Int) := by rw [wrap_i64 (by omega) (by omega), List.length_append]; rfl
    refine ⟨r, (iter_inl (by simp (disch := omega) only [g_slices_Index_Sint_int_r1, dT, wT, Int.toNat_natCast, gD hg, eF, ws])).trans h1, ?_⟩
    have : (a :: l2).contains x = l2.contains x := by
     rw [List.contains_cons]
     have : (x == a) = false := beq_false_of_ne hx
     rw [this, Bool.false_or]
    rw [this]
    exact h2
 obtain ⟨r, h1, h2⟩ := key l [] rfl
 have h1 : iter g_slices_Index_Sint_int_r1 (l, x, (l.length : Int), 0, ()) = some r := h1
 unfold g_slices_Contains_Sint_int g_slices_Index_Sint_int
 rw [h1]
 match r, h2 with
 | .inl (), h2 => simp only [Option.bind_some, h2]; rfl
 | .inr (k, ()), h2 => simp only [Option.bind_some, h2.2, decide_eq_true h2.1, ge_iff_le]
def waitP (ks : List Int) (s : Snd) : Bool := ks.length == 0 || ks.contains s.2.1.1
def waitL (ks : List Int) (l : List Snd) : List Int := (l.filter (waitP ks)).map (·.1)
theorem waitL_le (ks : List Int) (l : List Snd) : (waitL ks l).length ≤ l.length := by unfold waitL; rw [List.length_map]; exact List.length_filter_le _ _
theorem waitL_take {ks : List Int} {l : List Snd} {i : Nat} {a : Snd} (h : l[i]? = some a) : waitL ks (l.take (i + 1)) = waitL ks (l.take i) ++ (bif waitP ks a then [a.1] else []) := by
 rw [List.take_add_one, h]
 unfold waitL
 rw [List.filter_append, List.map_append]
 congr 1
 cases hw : waitP ks a <;> simp [hw]
theorem Waiting_eq {w : RS} (hz : szW w) (h : okW w = true) {ks : List Int} (hk : ks.length ≤ 1000) : g_retry_Waiting w ks = some (waitL ks w.2.1) := by
 have hf := okW_few h
 have : iter g_retry_Waiting_r1 (ks, [], w.2.1, (w.2.1.length : Int), 0, ()) = some (waitL ks w.2.1, ()) :=
  iter_count (fun i => (ks, waitL ks (w.2.1.take i), w.2.1, (w.2.1.length : Int), (i : Int), ())) w.2.1.length (fun i hi => by
   obtain ⟨a, ha⟩ : ∃ a, w.2.1[i]? = some a := ⟨_, List.getElem?_eq_getElem hi⟩
   have h64 := hf.1
   have ws : IntKind.i64.wrap ((i : Int) + 1) = ((i + 1 : Nat) : Int) := by rw [wrap_i64 (by omega) (by omega)]; rfl
   have hle := waitL_le ks (w.2.1.take i)
   rw [List.length_take] at hle
   simp (disch := omega) only [g_retry_Waiting_r1, dT, wT, Int.toNat_natCast, gD ha, contains_eq hk, Option.bind_some]
   rw [waitL_take ha, ← ws]
   have hr : ∀ x y : Option ((List Int × List Int × (List Snd) × Int × Int × Unit)), (bif room 8 (waitL ks (w.2.1.take i) ++ [a.1]).length then x else y) = x := fun x y => rT (by rw [List.length_append, List.length_singleton]; omega)
   have hr : room 8 (waitL ks (w.2.1.take i) ++ [a.1]).length = true := room_iff.2 (by rw [List.length_append, List.length_singleton]; omega)
   unfold waitP
   have e0 : ((ks.length : Int) == 0) = (ks.length == 0) := by
    by_cases h0 : ks.length = 0
    ·rw [h0]; rfl
    ·rw [beq_false_of_ne h0]; exact beq_false_of_ne (by omega)
   rw [e0]
   cases ks.length == 0 <;> cases hc : ks.contains a.2.1.1 <;> simp only [cond_true, cond_false, Option.bind_some, hr, Bool.or_true, Bool.or_false, List.append_nil]) (by
    rw [List.take_length]
    simp (disch := omega) only [g_retry_Waiting_r1, dF])
 unfold g_retry_Waiting
 rw [retry_Check_eq hz, h]
 have this' : iter g_retry_Waiting_r1 (ks, [], w.2.1, (w.2.1.length : Int), 0, ()) = some (waitL ks w.2.1, ()) := this
 show (bif ((0 : Int) != 0) then some [] else _) = _
 rw [nF rfl, this']
 rfl
def noM (m : Msg) (n : Int) : Msg := (m.1, m.2.1, m.2.2.1, m.2.2.2.1, n, m.2.2.2.2.2)
def zW : RS := (0, [], [])
def zM : Msg := (0, 0, 0, 0, 0, 0, 0, 0, ByteArray.empty, [])
def postW (w : RS) (m : Msg) (t : Int) : RS × Msg × Int :=
 bif !okM (noM m w.1) then (zW, zM, 1) else
 bif w.1 == 1073741824 || decide ((w.2.1.length : Int) ≥ 64) then (zW, zM, 2) else
 ((w.1 + 1, w.2.1 ++ [(w.1, noM m w.1, 4, t + 5)], w.2.2), noM m w.1, 0)
theorem Post_eq {w : RS} {m : Msg} {t : Int} (hz : szW w) (hm : szM m) (h : okW w = true) (ht : 0 ≤ t) (ht2 : t ≤ 1000000) : g_retry_Post w m t = some (postW w m t) := by
 have hf := okW_few h
 have h1 : g_retry_timely w t = some true := by
  unfold g_retry_timely
  rw [within_eq, decide_eq_true (by omega), decide_eq_true (by omega), retry_Check_eq hz, h]
  rfl
 have hc : g_wire_Check (m.1, (m.2.1, (m.2.2.1, (m.2.2.2.1, (w.1, m.2.2.2.2.2))))) = some (err (okM (noM m w.1))) := wire_Check_eq (m := noM m w.1) hm.1
 have hw1 : 1 ≤ w.1 ∧ w.1 ≤ 1073741824 := by
  unfold okW at h
  simp only [Bool.and_eq_true, decide_eq_true_eq] at h
  exact h.1.1.1.1
 unfold g_retry_Post postW
 rw [h1]
 simp only [Option.bind_some, Bool.not_true, cond_false, hc]
 cases ho : okM (noM m w.1) with
 | false => rfl
 | true =>
  have e0 : (err true != 0) = false := rfl
  simp only [e0, cond_false, Bool.not_true]
  have hl := letter_eq (m := noM m w.1) (by have := (okM_few ho).1; omega)
  have hl : g_retry_letter (m.1, (m.2.1, (m.2.2.1, (m.2.2.2.1, (w.1, m.2.2.2.2.2))))) = some (noM m w.1) := hl
  by_cases ha : w.1 = 1073741824
  ·simp only [eT ha, Option.bind_some, cond_true, beq_iff_eq.2 ha, Bool.true_or]; rfl
  ·simp only [eF ha, Option.bind_some, beq_false_of_ne ha, Bool.false_or]
   by_cases hb : (w.2.1.length : Int) ≥ 64
   ·simp only [cond_false, Option.bind_some, decide_eq_true hb, cond_true]; rfl
   ·simp only [cond_false, Option.bind_some, decide_eq_false hb]
    have hr : room 128 (w.2.1 ++ [(w.1, (noM m w.1, (4, t + 5)))]).length = true := room_iff.2 (by rw [List.length_append, List.length_singleton]; omega)
    simp only [rowned_eq hf, Option.bind_some, hl, hr, cond_true, wrap_i64 (n := t + 5) (by omega) (by omega), wrap_i64 (n := w.1 + 1) (by omega) (by omega)]
end Go.Sq
namespace Go.Sq
open Go.Rx
theorem get_of_drop {A : Type} {l' l : List A} {i : Nat} {a : A} (h : l'.drop i = l.drop i) (hi : l[i]? = some a) : l'[i]? = some a := by
 have e1 : (l'.drop i)[0]? = l'[i]? := by simp
 have e2 : (l.drop i)[0]? = l[i]? := by simp
 rw [← e1, h, e2, hi]
theorem drop_succ_of {A : Type} {l' l : List A} {i : Nat} (h : l'.drop i = l.drop i) : l'.drop (i + 1) = l.drop (i + 1) := by
 have := congrArg (List.drop 1) h
 rwa [List.drop_drop, List.drop_drop] at this
theorem take_succ_of {A : Type} {l : List A} {i : Nat} {a : A} (h : l[i]? = some a) : l.take (i + 1) = l.take i ++ [a] := by
 rw [List.take_add_one, h]; rfl
theorem compact_step {A : Type} {l' l K : List A} {wr i : Nat} {a : A} (hi : l[i]? = some a) (hwr : wr ≤ i) (hlen : l'.length = l.length) (ht : l'.take wr = K) (hd : l'.drop i = l.drop i) :
  (l'.set wr a).take (wr + 1) = K ++ [a] ∧ (l'.set wr a).drop (i + 1) = l.drop (i + 1) ∧ (l'.set wr a).length = l.length := by
 have hl := lt_of_get hi
 refine ⟨?_, ?_, by rw [List.length_set, hlen]⟩
 ·have hg : (l'.set wr a)[wr]? = some a := by rw [List.getElem?_set_self (by omega)]
  rw [take_succ_of hg, List.take_set_of_le (Nat.le_refl wr), ht]
 ·rw [List.drop_set_of_lt (by omega)]
  exact drop_succ_of hd
theorem compact {l : List Snd} {n : Int} (hl : l.length ≤ 1000) {i0 : Nat} (hi0 : i0 ≤ l.length) :
  ∀ (k : Nat) (l' : List Snd) (wr i : Nat), i + k = l.length → wr ≤ i → l'.length = l.length → l'.take wr = (l.take i).filter (fun s => !(s.1 == n)) → l'.drop i = l.drop i →
   ∃ (r : List Snd) (wr' : Nat), iter g_retry_Answered_r2 (l', (wr : Int), (i : Int), n, ()) = some (r, (wr' : Int), n, ()) ∧ r.length = l.length ∧ wr' ≤ l.length ∧ r.take wr' = l.filter (fun s => !(s.1 == n))
 | 0, l', wr, i, hk, hwr, hlen, ht, hd => by
  have : i = l.length := by omega
  subst this
  refine ⟨l', wr, iter_inr (by simp (disch := omega) only [g_retry_Answered_r2, dF]), hlen, hwr, by rw [ht, List.take_length]⟩
 | k + 1, l', wr, i, hk, hwr, hlen, ht, hd => by
  obtain ⟨a, ha⟩ : ∃ a, l[i]? = some a := ⟨_, List.getElem?_eq_getElem (by omega)⟩
  have ha' := get_of_drop hd ha
  have ws : IntKind.i64.wrap ((i : Int) + 1) = ((i + 1 : Nat) : Int) := by rw [wrap_i64 (by omega) (by omega)]; rfl
  have ww : IntKind.i64.wrap ((wr : Int) + 1) = ((wr + 1 : Nat) : Int) := by rw [wrap_i64 (by omega) (by omega)]; rfl
  cases he : (a.1 == n) with
  | true =>
   have hs : g_retry_Answered_r2 (l', (wr : Int), (i : Int), n, ()) = some (.inl (l', (wr : Int), ((i + 1 : Nat) : Int), n, ())) := by
    simp (disch := omega) only [g_retry_Answered_r2, dT, wT, Int.toNat_natCast, gD ha', he, Bool.not_true, cond_false, Option.bind_some, ws]
   rw [iter_inl hs]
   refine compact hl hi0 k l' wr (i + 1) (by omega) (by omega) hlen ?_ (drop_succ_of hd)
   rw [take_succ_of ha, List.filter_append, ht]
   simp [he]
  | false =>
   have hs : g_retry_Answered_r2 (l', (wr : Int), (i : Int), n, ()) = some (.inl (l'.set wr a, ((wr + 1 : Nat) : Int), ((i + 1 : Nat) : Int), n, ())) := by
    simp (disch := omega) only [g_retry_Answered_r2, dT, wT, Int.toNat_natCast, gD ha', he, Bool.not_false, cond_true, Option.bind_some, ws, ww]
   obtain ⟨c1, c2, c3⟩ := compact_step ha hwr hlen ht hd
   rw [iter_inl hs]
   refine compact hl hi0 k _ (wr + 1) (i + 1) (by omega) (by omega) c3 ?_ c2
   rw [c1, take_succ_of ha, List.filter_append]
   simp [he]
theorem find_none {l : List Snd} {n : Int} (hl : l.length ≤ 1000) (h : ∀ s ∈ l, (s.1 == n) = false) : iter g_retry_Answered_r1 (l, (l.length : Int), 0, n, ()) = some (.inl (l, n, ())) :=
 iter_count (fun i => (l, (l.length : Int), (i : Int), n, ())) l.length (fun i hi => by
  obtain ⟨a, ha⟩ : ∃ a, l[i]? = some a := ⟨_, List.getElem?_eq_getElem hi⟩
  have ws : IntKind.i64.wrap ((i : Int) + 1) = ((i + 1 : Nat) : Int) := by rw [wrap_i64 (by omega) (by omega)]; rfl
  simp (disch := omega) only [g_retry_Answered_r1, dT, wT, Int.toNat_natCast, gD ha, h a (mem_of_get ha), cond_false, ws]) (by simp (disch := omega) only [g_retry_Answered_r1, dF])
theorem find_some {l l1 l2 : List Snd} {a : Snd} {n : Int} (e : l = l1 ++ a :: l2) (hl : l.length ≤ 1000) (h : ∀ s ∈ l1, (s.1 == n) = false) (ha : (a.1 == n) = true) :
  iter g_retry_Answered_r1 (l, (l.length : Int), 0, n, ()) = some (.inr (l, (l1.length : Int), n, ())) := by
 have hlen : l.length = l1.length + (l2.length + 1) := by rw [e, List.length_append, List.length_cons]
 refine iter_count (fun i => (l, (l.length : Int), (i : Int), n, ())) l1.length (fun i hi => ?_) ?_
 ·obtain ⟨b, hb⟩ : ∃ b, l1[i]? = some b := ⟨_, List.getElem?_eq_getElem hi⟩
  have hb2 : l[i]? = some b := by rw [e, List.getElem?_append_left hi, hb]
  have ws : IntKind.i64.wrap ((i : Int) + 1) = ((i + 1 : Nat) : Int) := by rw [wrap_i64 (by omega) (by omega)]; rfl
  simp (disch := omega) only [g_retry_Answered_r1, dT, wT, Int.toNat_natCast, gD hb2, h b (mem_of_get hb), cond_false, ws]
 ·have hb2 : l[l1.length]? = some a := by rw [e]; simp
  simp (disch := omega) only [g_retry_Answered_r1, dT, wT, Int.toNat_natCast, gD hb2, ha, cond_true]
theorem split_first {A : Type} (p : A → Bool) : ∀ l : List A, (∀ s ∈ l, p s = false) ∨ ∃ l1 a l2, l = l1 ++ a :: l2 ∧ (∀ s ∈ l1, p s = false) ∧ p a = true
 | [] => .inl fun _ h => by cases h
 | a :: l => by
  cases ha : p a with
  | true => exact .inr ⟨[], a, l, rfl, (fun _ h => by cases h), ha⟩
  | false =>
   rcases split_first p l with h | ⟨l1, b, l2, e, h1, h2⟩
   ·left
    intro s hs
    rcases List.mem_cons.1 hs with rfl | hs
    ·exact ha
    ·exact h s hs
   ·refine .inr ⟨a :: l1, b, l2, by rw [e]; rfl, ?_, h2⟩
    intro s hs
    rcases List.mem_cons.1 hs with rfl | hs
    ·exact ha
    ·exact h1 s hs
def answerW (w : RS) (n : Int) : RS := (w.1, w.2.1.filter (fun s => !(s.1 == n)), w.2.2)
theorem copyL_take {A : Type} (l z : List A) (i : Nat) (hi : i ≤ l.length) : (copyL l i z).take i = l.take i := by
 unfold copyL
 exact List.take_left' (by rw [List.length_take]; omega)
theorem copyL_len {A : Type} (l z : List A) (i : Nat) (hi : i + z.length = l.length) : (copyL l i z).length = l.length := by
 unfold copyL
 simp only [List.length_append, List.length_take, List.length_drop]; omega
theorem Answered_eq {w : RS} {n : Int} (hz : szW w) (h : okW w = true) : g_retry_Answered w n = some (answerW w n, decide ((answerW w n).2.1.length < w.2.1.length), 0) := by
 have hf := okW_few h
 have h64 := hf.1
 unfold g_retry_Answered
 rw [retry_Check_eq hz, h, Option.bind_some]
 rw [show (err true != 0) = false from rfl, cond_false, rowned_eq hf, Option.bind_some]
 rcases split_first (fun s : Snd => s.1 == n) w.2.1 with h1 | ⟨l1, a, l2, e, h1, h2⟩
 ·have ef : w.2.1.filter (fun s => !(s.1 == n)) = w.2.1 := List.filter_eq_self.2 fun s hs => by rw [h1 s hs]; rfl
  have ea : answerW w n = w := by unfold answerW; rw [ef]
  simp only [find_none (by omega) h1, Option.bind_some]
  rw [ea]
  simp only [beq_self_eq_true, cond_true, Option.bind_some]
  rw [decide_eq_false (Int.lt_irrefl _), decide_eq_false (Nat.lt_irrefl _)]
 ·have hlen : w.2.1.length = l1.length + (l2.length + 1) := by rw [e, List.length_append, List.length_cons]
  have ws : IntKind.i64.wrap ((l1.length : Int) + 1) = ((l1.length + 1 : Nat) : Int) := by rw [wrap_i64 (by omega) (by omega)]; rfl
  have hb2 : w.2.1[l1.length]? = some a := by rw [e]; simp
  obtain ⟨r, wr, c1, c2, c3, c4⟩ := compact (l := w.2.1) (n := n) (by omega) (i0 := 0) (by omega) l2.length w.2.1 l1.length (l1.length + 1) (by omega) (by omega) rfl (by
   rw [take_succ_of hb2, List.filter_append, e, List.take_left]
   have : l1.filter (fun s => !(s.1 == n)) = l1 := List.filter_eq_self.2 fun s hs => by rw [h1 s hs]; rfl
   rw [this]; simp [h2]) rfl
  simp only [find_some e (by omega) h1 h2, Option.bind_some, eF (x := (l1.length : Int)) (y := -1) (by omega), ws, c1]
  have hcl := copyL_len r (List.replicate (((r.length : Int)).toNat - ((wr : Int)).toNat) ((0, ((0, (0, (0, (0, (0, (0, (0, (0, (ByteArray.empty, []))))))))), (0, 0))) : Snd)) wr (by rw [List.length_replicate]; omega)
  have hct := copyL_take r (List.replicate (((r.length : Int)).toNat - ((wr : Int)).toNat) ((0, ((0, (0, (0, (0, (0, (0, (0, (0, (ByteArray.empty, []))))))))), (0, 0))) : Snd)) wr (by omega)
  simp (disch := omega) only [gT, Int.toNat_natCast] at *
  simp only [Option.bind_some, List.drop_zero, Nat.sub_zero, hct, c4]
  have e3 : decide (((w.2.1.filter (fun s => !(s.1 == n))).length : Int) < (w.2.1.length : Int)) = decide ((w.2.1.filter (fun s => !(s.1 == n))).length < w.2.1.length) := decide_eq_decide.2 Int.ofNat_lt
  rw [e3]; rfl
end Go.Sq
namespace Go.Sq
open Go.Rx
def exN : ByteArray := ByteArray.mk #[97]
theorem exN_name : nameP exN = true := by
 unfold nameP
 have h1 : exN.size = 1 := rfl
 have h2 : by8 exN 0 = 97 := rfl
 rw [runes_step (by omega) (by rw [fst_low (by omega)]; decide), fst_low (by omega)]
 rw [runes_nil (by rw [sfx_size]; omega)]
 rw [h2]; rfl
def exM : Msg := (1, 0, 0, 0, 1, 0, 0, 0, exN, [])
theorem exM_ok : okM exM = true := by
 unfold okM
 have : nameP exM.2.2.2.2.2.2.2.2.1 = true := exN_name
 rw [this]; rfl
theorem sz_one (x y t u : Int) : szW (x, [(y, exM, t, u)], []) := ⟨by show 1 ≤ _; decide, by
 intro s hs
 rcases List.mem_singleton.1 hs with rfl
 exact ⟨by show exN.size ≤ _; decide, by show ([] : List Int).length ≤ _; decide⟩, Nat.zero_le _, fun _ h => by cases h⟩
theorem ok_one {t u : Int} (h1 : 0 ≤ t) (h2 : t ≤ 4) (h3 : 0 ≤ u) (h4 : u ≤ 1000) : okW (2, [(1, exM, t, u)], []) = true := by
 unfold okW okL okL okSend
 rw [exM_ok]
 simp only [decide_eq_true (show t ≥ 0 from h1), decide_eq_true h2, decide_eq_true (show u ≥ 0 from h3), decide_eq_true (show u ≤ 2199023255552 by omega)]
 rfl
theorem live17 : g_law17_live = some true := by
 have n1 : g_retry_New = some (1, [], []) := rfl
 have p1 : g_retry_Post (1, [], []) (1, 0, 0, 0, 0, 0, 0, 0, exN, []) 10 = some ((2, [(1, exM, 4, 15)], []), exM, 0) := by
  rw [Post_eq (by exact ⟨by decide, (fun _ h => by cases h), by decide, (fun _ h => by cases h)⟩) ⟨by show exN.size ≤ _; decide, by show ([] : List Int).length ≤ _; decide⟩ (by rfl) (by decide) (by decide)]
  unfold postW
  have : okM (noM (1, 0, 0, 0, 0, 0, 0, 0, exN, []) 1) = true := exM_ok
  rw [this]; rfl
 have t1 : g_retry_Tick (2, [(1, exM, 4, 15)], []) 15 = some ((2, [(1, exM, 3, 20)], []), [exM], [], 0) := by
  have e0 : g_retry_timely (2, [(1, exM, 4, 15)], []) 15 = some true := by
   unfold g_retry_timely
   rw [within_eq, retry_Check_eq (sz_one _ _ _ _), ok_one (by decide) (by decide) (by decide) (by decide)]
   rfl
  unfold g_retry_Tick
  rw [e0, Option.bind_some, Bool.not_true, cond_false, rowned_eq (okW_few (ok_one (by decide) (by decide) (by decide) (by decide))), Option.bind_some]
  have i1 : iter g_retry_Tick_r1 ([(1, exM, 4, 15)], 1, 0, 15, [], ()) = some (.inl ([(1, exM, 4, 15)], 15, [], ())) := iter_n 3 (by kernel_rfl)
  simp only [List.length_singleton, Int.natCast_one, i1, Option.bind_some, beq_self_eq_true, cond_true]
  have i2 : iter g_retry_Tick_r3 ([], 1, 0, (2, [(1, exM, 4, 15)], []), 15, (0, [], []), [], ()) = some ([exM], (2, [(1, exM, 3, 20)], []), (0, [], []), [], ()) := iter_n 3 (by kernel_rfl)
  simp only [i2, Option.bind_some]
 have a1 : g_retry_Answered (2, [(1, exM, 3, 20)], []) 1 = some ((2, [], []), true, 0) := by
  rw [Answered_eq (sz_one _ _ _ _) (ok_one (by decide) (by decide) (by decide) (by decide))]
  rfl
 have hz : szW (2, [], []) := ⟨Nat.zero_le _, (fun _ h => by cases h), Nat.zero_le _, (fun _ h => by cases h)⟩
 have t2 : g_retry_Tick (2, [], []) 100 = some ((2, [], []), [], [], 0) := by
  have e0 : g_retry_timely (2, [], []) 100 = some true := by
   unfold g_retry_timely
   rw [within_eq, retry_Check_eq hz]
   rfl
  unfold g_retry_Tick
  rw [e0, Option.bind_some, Bool.not_true, cond_false, rowned_eq (okW_few (by rfl)), Option.bind_some]
  have i1 : iter g_retry_Tick_r1 ([], 0, 0, 100, [], ()) = some (.inl ([], 100, [], ())) := iter_n 3 (by kernel_rfl)
  simp only [List.length_nil, Int.natCast_zero, i1, Option.bind_some, beq_self_eq_true, cond_true]
  have i2 : iter g_retry_Tick_r3 ([], 0, 0, (2, [], []), 100, (0, [], []), [], ()) = some ([], (2, [], []), (0, [], []), [], ()) := iter_n 3 (by kernel_rfl)
  simp only [i2, Option.bind_some]
 unfold g_law17_live
 rw [n1, Option.bind_some]
 have p1 : g_retry_Post (1, [], []) (1, (0, (0, (0, (0, (0, (0, (0, ((ByteArray.mk #[97]), []))))))))) 10 = some ((2, [(1, exM, 4, 15)], []), exM, 0) := p1
 rw [p1, Option.bind_some]
 simp only [t1, Option.bind_some]
 have a1 : g_retry_Answered (2, [(1, exM, 3, 20)], []) exM.2.2.2.2.1 = some ((2, [], []), true, 0) := a1
 simp only [a1, t2, Option.bind_some]
 rfl
end Go.Sq
namespace Go.Sq
open Go.Rx
theorem Big_tot (m : Msg) : ∃ b, g_r15_Big m = some b := ⟨_, rfl⟩
theorem few_tot {w : RS} (hz : szW w) : ∃ b, g_law17_few w = some b := by
 obtain ⟨h1, _, h3, _⟩ := hz
 have l1 : ∃ r, iter g_law17_few_r1 (w.2.1, (w.2.1.length : Int), 0, w, ()) = some r ∧ (r = .inl (w, ()) ∨ ∃ b, r = .inr (b, ())) := by
  have := iter_scan (f := g_law17_few_r1) w.2.1 (fun i (_ : Unit) => (w.2.1, (w.2.1.length : Int), (i : Int), w, ())) (fun _ a => if g_r15_Big a.2.1 = some true then Sum.inr () else Sum.inl ()) (fun _ => .inr (false, ())) (fun _ => .inl (w, ()))
   (fun i a s hi => by
    have hi2 := lt_of_get hi
    have ws : IntKind.i64.wrap ((i : Int) + 1) = ((i + 1 : Nat) : Int) := by rw [wrap_i64 (by omega) (by omega)]; rfl
    obtain ⟨b, hb⟩ := Big_tot a.2.1
    cases b with
    | true => simp (disch := omega) only [g_law17_few_r1, dT, wT, Int.toNat_natCast, gD hi, hb, Option.bind_some, cond_true, if_true]
    | false => simp (disch := omega) only [g_law17_few_r1, dT, wT, Int.toNat_natCast, gD hi, hb, Option.bind_some, cond_false, Option.some.injEq, Bool.false_eq_true, if_false, ws])
   (fun s => by simp (disch := omega) only [g_law17_few_r1, dF]) ()
  cases hs : scanL (fun (_ : Unit) (a : Snd) => (if g_r15_Big a.2.1 = some true then Sum.inr () else Sum.inl () : Unit ⊕ Unit)) () w.2.1 with
  | inl _ => rw [hs] at this; exact ⟨_, this, .inl rfl⟩
  | inr _ => rw [hs] at this; exact ⟨_, this, .inr ⟨false, rfl⟩⟩
 have l2 : ∃ r, iter g_law17_few_r2 (w.2.2, (w.2.2.length : Int), 0, w, ()) = some r ∧ (r = .inl (w, ()) ∨ ∃ b, r = .inr (b, ())) := by
  have := iter_scan (f := g_law17_few_r2) w.2.2 (fun i (_ : Unit) => (w.2.2, (w.2.2.length : Int), (i : Int), w, ())) (fun _ a => if (a.2.2.length : Int) > 100 then Sum.inr () else Sum.inl ()) (fun _ => .inr (false, ())) (fun _ => .inl (w, ()))
   (fun i a s hi => by
    have hi2 := lt_of_get hi
    have ws : IntKind.i64.wrap ((i : Int) + 1) = ((i + 1 : Nat) : Int) := by rw [wrap_i64 (by omega) (by omega)]; rfl
    by_cases hb : (a.2.2.length : Int) > 100
    ·simp (disch := omega) only [g_law17_few_r2, dT, wT, Int.toNat_natCast, gD hi, if_pos]
    ·simp (disch := omega) only [g_law17_few_r2, dT, dF, wT, Int.toNat_natCast, gD hi, if_neg hb, ws])
   (fun s => by simp (disch := omega) only [g_law17_few_r2, dF]) ()
  cases hs : scanL (fun (_ : Unit) (a : Hrd) => (if (a.2.2.length : Int) > 100 then Sum.inr () else Sum.inl () : Unit ⊕ Unit)) () w.2.2 with
  | inl _ => rw [hs] at this; exact ⟨_, this, .inl rfl⟩
  | inr _ => rw [hs] at this; exact ⟨_, this, .inr ⟨false, rfl⟩⟩
 obtain ⟨r1, e1, h1⟩ := l1
 obtain ⟨r2, e2, h2⟩ := l2
 unfold g_law17_few
 rw [e1, Option.bind_some]
 rcases h1 with rfl | ⟨b, rfl⟩
 ·simp only [e2, Option.bind_some]
  rcases h2 with rfl | ⟨b, rfl⟩
  ·show ∃ b, (bif decide ((w.2.1.length : Int) ≤ 100) then some (decide ((w.2.2.length : Int) ≤ 100)) else some false) = some b
   cases decide ((w.2.1.length : Int) ≤ 100)
   ·exact ⟨_, rfl⟩
   ·exact ⟨_, rfl⟩
  ·exact ⟨_, rfl⟩
 ·exact ⟨_, rfl⟩
theorem okW_iff {w : RS} : okW w = true ↔ (1 ≤ w.1 ∧ w.1 ≤ 1073741824) ∧ w.2.1.length ≤ 64 ∧ w.2.2.length ≤ 64 ∧ okL (okSend w.1) (·.1) 0 w.2.1 = true ∧ okL okHrd (·.1) (-1) w.2.2 = true := by
 unfold okW
 simp only [Bool.and_eq_true, decide_eq_true_eq]
 constructor
 ·rintro ⟨⟨⟨⟨a, b⟩, c⟩, d⟩, e⟩
  exact ⟨a, by omega, by omega, d, e⟩
 ·rintro ⟨a, b, c, d, e⟩
  exact ⟨⟨⟨⟨a, by omega⟩, by omega⟩, d⟩, e⟩
theorem sends_lt {n : Int} : ∀ {l : List Snd} {p : Int}, okL (okSend n) (·.1) p l = true → ∀ s ∈ l, p < s.1 ∧ s.1 < n
 | a :: l, p, h, s, hs => by
  rw [okL, Bool.and_eq_true] at h
  have h1 := okSend_M h.1
  rcases List.mem_cons.1 hs with rfl | hs
  ·exact ⟨h1.1, h1.2.1⟩
  ·have := sends_lt h.2 s hs
   have : a.1 < s.1 ∧ s.1 < n := this
   exact ⟨by omega, this.2⟩
end Go.Sq
namespace Go.Sq
open Go.Rx
theorem okL_next {P A : Type} {q : P → A → Bool} {nxt : A → P} : ∀ {l : List A} {p : P} {i : Nat} {a b : A}, okL q nxt p l = true → l[i]? = some b → l[i + 1]? = some a → q (nxt b) a = true
 | [], _, i, _, _, _, h, _ => by simp at h
 | [x], _, i, _, _, _, _, h => by simp at h
 | x :: y :: l, p, 0, a, b, h, hb, ha => by
  rw [okL, okL, Bool.and_eq_true, Bool.and_eq_true] at h
  cases hb; cases ha
  exact h.2.1
 | x :: y :: l, p, i + 1, a, b, h, hb, ha => by
  rw [okL, Bool.and_eq_true] at h
  exact okL_next (l := y :: l) h.2 (by simpa using hb) (by simpa using ha)
theorem okL_after {P A : Type} {q : P → A → Bool} {nxt : A → P} : ∀ {l : List A} {p : P} {i : Nat} {b : A}, okL q nxt p l = true → l[i]? = some b → okL q nxt (nxt b) (l.drop (i + 1)) = true
 | [], _, i, _, _, h => by simp at h
 | x :: l, p, 0, b, h, hb => by
  rw [okL, Bool.and_eq_true] at h
  cases hb
  exact h.2
 | x :: l, p, i + 1, b, h, hb => by
  rw [okL, Bool.and_eq_true] at h
  exact okL_after (l := l) h.2 (by simpa using hb)
theorem drop_cons_of {A : Type} {l : List A} {i : Nat} {a : A} (h : l[i]? = some a) : l.drop i = a :: l.drop (i + 1) := by
 obtain ⟨h1, h2⟩ := List.getElem?_eq_some_iff.1 h
 rw [← h2]; exact List.drop_eq_getElem_cons h1
def restL (k : Int) (n : Nat) : List Int := ((List.range n).map (fun i : Nat => (i : Int) + 1)).filter (fun x => x != k)
theorem restL_succ (k : Int) (n : Nat) : restL k (n + 1) = restL k n ++ (bif ((n : Int) + 1) != k then [(n : Int) + 1] else []) := by
 unfold restL
 rw [List.range_succ, List.map_append, List.filter_append]
 cases h : ((n : Int) + 1) != k <;> simp [h]
theorem restL_le (k : Int) (n : Nat) : (restL k n).length ≤ n := by
 unfold restL
 refine Nat.le_trans (List.length_filter_le _ _) ?_
 simp
theorem kinds_r1 {k : Int} {w : RS} : iter g_law17_RetryKinds_r1 (k, true, [], 1, w, ()) = some (k, true, restL k 15, w, ()) :=
 iter_count (fun j => (k, true, restL k j, (j : Int) + 1, w, ())) 15 (fun j hj => by
  have ws : IntKind.i64.wrap ((j : Int) + 1 + 1) = ((j + 1 : Nat) : Int) + 1 := by rw [wrap_i64 (by omega) (by omega)]; rfl
  have hle := restL_le k j
  have hr : room 8 (restL k j ++ [(j : Int) + 1]).length = true := room_iff.2 (by rw [List.length_append, List.length_singleton]; omega)
  simp (disch := omega) only [g_law17_RetryKinds_r1, dT, hr, cond_true]
  rw [restL_succ, ← ws]
  cases h : ((j : Int) + 1) != k
  ·simp only [cond_false, Option.bind_some, List.append_nil]
  ·simp only [cond_true, Option.bind_some]) (by simp (disch := omega) only [g_law17_RetryKinds_r1, dF])
theorem rest_wait {k : Int} (hk : 1 ≤ k) (hk2 : k ≤ 15) {s : Snd} (hs : 1 ≤ s.2.1.1) (hs2 : s.2.1.1 ≤ 15) : waitP (restL k 15) s = !waitP [k] s := by
 have e1 : waitP [k] s = (s.2.1.1 == k) := by
  unfold waitP
  simp
  rfl
 have key : ∀ k x : Int, 1 ≤ k → k ≤ 15 → 1 ≤ x → x ≤ 15 → ((restL k 15).length == 0 || (restL k 15).contains x) = !(x == k) := by
  have : ∀ k x : Fin 15, ((restL ((k.1 : Int) + 1) 15).length == 0 || (restL ((k.1 : Int) + 1) 15).contains ((x.1 : Int) + 1)) = !(((x.1 : Int) + 1) == ((k.1 : Int) + 1)) := by decide +kernel
  intro k x h1 h2 h3 h4
  have := this ⟨(k - 1).toNat, by omega⟩ ⟨(x - 1).toNat, by omega⟩
  simp only [] at this
  rw [show (((k - 1).toNat : Nat) : Int) + 1 = k by omega, show (((x - 1).toNat : Nat) : Int) + 1 = x by omega] at this
  exact this
 rw [e1]
 exact key k s.2.1.1 hk hk2 hs hs2
theorem waitL_cons (ks : List Int) (a : Snd) (l : List Snd) : waitL ks (a :: l) = bif waitP ks a then a.1 :: waitL ks l else waitL ks l := by
 unfold waitL
 cases h : waitP ks a <;> simp [h]
theorem waitL_mem {ks : List Int} {l : List Snd} {x : Int} (h : x ∈ waitL ks l) : ∃ s ∈ l, s.1 = x := by
 unfold waitL at h
 obtain ⟨s, h1, h2⟩ := List.mem_map.1 h
 exact ⟨s, (List.mem_filter.1 h1).1, h2⟩
theorem waitL_nil (l : List Snd) : waitL [] l = l.map (·.1) := by
 have h : l.filter (waitP []) = l := List.filter_eq_self.2 fun s _ => rfl
 unfold waitL
 rw [h]
theorem waitL_two {ks ks' : List Int} : ∀ {l : List Snd}, (∀ s ∈ l, waitP ks' s = !waitP ks s) → (waitL ks l).length + (waitL ks' l).length = l.length
 | [], _ => rfl
 | a :: l, h => by
  have ih := waitL_two (l := l) fun s hs => h s (List.mem_cons_of_mem _ hs)
  rw [waitL_cons, waitL_cons, h a List.mem_cons_self]
  cases waitP ks a
  ·simp only [cond_false, Bool.not_false, cond_true, List.length_cons]; omega
  ·simp only [cond_true, Bool.not_true, cond_false, List.length_cons]; omega
theorem kinds_r2 {k nx p : Int} {l : List Snd} (hl : l.length ≤ 64) (ho : okL (okSend nx) (·.1) p l = true) (hw : ∀ s ∈ l, waitP (restL k 15) s = !waitP [k] s) :
  iter g_law17_RetryKinds_r2 (true, l.map (·.1), waitL [k] l, waitL (restL k 15) l, ((l.map (·.1)).length : Int), 0, ()) = some (.inl (true, ())) := by
 refine iter_count (fun i => (true, l.map (·.1), waitL [k] (l.drop i), waitL (restL k 15) (l.drop i), ((l.map (·.1)).length : Int), (i : Int), ())) l.length (fun i hi => ?_) ?_
 ·obtain ⟨a, ha⟩ : ∃ a, l[i]? = some a := ⟨_, List.getElem?_eq_getElem hi⟩
  have hm : (l.map (·.1))[i]? = some a.1 := by rw [List.getElem?_map, ha]; rfl
  have hml : (l.map (fun x : Snd => x.1)).length = l.length := List.length_map _
  have ws : IntKind.i64.wrap ((i : Int) + 1) = ((i + 1 : Nat) : Int) := by rw [wrap_i64 (by omega) (by omega)]; rfl
  have hd := drop_cons_of ha
  have hgt : ∀ ks, ∀ x ∈ waitL ks (l.drop (i + 1)), x ≠ a.1 := by
   intro ks x hx e
   obtain ⟨s, h1, h2⟩ := waitL_mem hx
   have := sends_lt (okL_after ho ha) s h1
   have : a.1 < s.1 ∧ _ := this
   omega
  have hprev : ∀ b : Snd, 0 < i → l[i - 1]? = some b → b.1 < a.1 := by
   intro b h0 hb
   have := okL_next ho hb (show l[i - 1 + 1]? = some a by rw [show i - 1 + 1 = i by omega]; exact ha)
   exact (okSend_M this).1
  have fin : ∀ (x y : List Int), ((bif (decide ((i : Int) > 0)) then bif (within (IntKind.i64.wrap ((i : Int) - 1)) (l.map (·.1)).length) then
    some (true, l.map (·.1), x, y, ((l.map (·.1)).length : Int), (i : Int), (decide (((l.map (·.1)).getD ((IntKind.i64.wrap ((i : Int) - 1)).toNat) 0) ≥ a.1)), ()) else none
    else some (true, l.map (·.1), x, y, ((l.map (·.1)).length : Int), (i : Int), false, ()) : Option (Bool × List Int × List Int × List Int × Int × Int × Bool × Unit)) = some (true, l.map (·.1), x, y, ((l.map (·.1)).length : Int), (i : Int), false, ())) := by
   intro x y
   by_cases h0 : 0 < i
   ·obtain ⟨b, hb⟩ : ∃ b, l[i - 1]? = some b := ⟨_, List.getElem?_eq_getElem (by omega)⟩
    have hb2 : (l.map (·.1))[i - 1]? = some b.1 := by rw [List.getElem?_map, hb]; rfl
    have w1 : IntKind.i64.wrap ((i : Int) - 1) = ((i - 1 : Nat) : Int) := by rw [wrap_i64 (by omega) (by omega)]; omega
    have := hprev b h0 hb
    rw [w1]
    simp (disch := omega) only [dT, wT, Int.toNat_natCast, gD hb2, decide_eq_false]
   ·simp (disch := omega) only [dF]
  have tk : ∀ (x : Int) (l : List Int), ((x :: l).drop 1).take ((x :: l).length - 1) = l := by
   intro x l
   rw [List.drop_succ_cons, List.drop_zero, List.length_cons, Nat.add_sub_cancel, List.take_length]
  simp (disch := omega) only [g_law17_RetryKinds_r2, dT, wT, Int.toNat_natCast, gD hm]
  rw [hd, waitL_cons, waitL_cons, hw a (mem_of_get ha)]
  have g1 := hgt [k]
  have g2 := hgt (restL k 15)
  rw [← ws]
  generalize waitL [k] (l.drop (i + 1)) = one at *
  generalize waitL (restL k 15) (l.drop (i + 1)) = oth at *
  have lc : ∀ (x : Int) (l : List Int), (((x :: l).length : Nat) : Int) > 0 := fun x l => by rw [List.length_cons]; omega
  have cg : ∀ (x : Int) (l : List Int), cutG 1 (((x :: l).length : Nat) : Int) (x :: l).length = true := fun x l => cutG_iff.2 ⟨by decide, by have := lc x l; omega, Int.le_refl _⟩
  have wi : ∀ (x : Int) (l : List Int), within 0 (x :: l).length = true := fun x l => within_iff.2 ⟨by decide, by have := lc x l; omega⟩
  cases hk : waitP [k] a with
  | true =>
   simp only [Bool.not_true, cond_true, cond_false, decide_eq_true (lc _ _), wi, List.getD_cons_zero, beq_self_eq_true, Option.bind_some, cg, tk, fin]
  | false =>
   simp only [Bool.not_false, cond_true, cond_false]
   cases one with
   | nil =>
    simp only [List.length_nil, Int.natCast_zero, decide_eq_false (Int.lt_irrefl 0), gt_iff_lt, cond_false, Option.bind_some]
    simp only [cond_true, decide_eq_true (show (0 : Int) < _ from lc _ _), wi, List.getD_cons_zero, beq_self_eq_true, Option.bind_some, cg, tk]
    simp only [fin, Option.bind_some, cond_false]
   | cons y one =>
    have hy : (y == a.1) = false := beq_false_of_ne (g1 y List.mem_cons_self)
    simp only [decide_eq_true (lc _ _), wi, cond_true, List.getD_cons_zero, hy, Option.bind_some, cond_false, beq_self_eq_true, cg, tk, fin]
 ·have hml : (l.map (fun x : Snd => x.1)).length = l.length := List.length_map _
  simp (disch := omega) only [g_law17_RetryKinds_r2, dF]
theorem law_Kinds {w : RS} {n : Int} (hz : szW w) : g_law17_RetryKinds w n = some true := by
 have hk : 1 ≤ 1 + (IntKind.i64.wrap ((n.tmod 15) + 15)).tmod 15 ∧ 1 + (IntKind.i64.wrap ((n.tmod 15) + 15)).tmod 15 ≤ 15 := by
  have h1 := Int.tmod_lt_of_pos n (show (0 : Int) < 15 by decide)
  have h2 := Int.lt_tmod_of_pos n (show (0 : Int) < 15 by decide)
  rw [wrap_i64 (by omega) (by omega)]
  have h3 := Int.tmod_lt_of_pos (n.tmod 15 + 15) (show (0 : Int) < 15 by decide)
  have h4 := Int.tmod_nonneg 15 (show (0 : Int) ≤ n.tmod 15 + 15 by omega)
  omega
 unfold g_law17_RetryKinds
 obtain ⟨b, hb⟩ := few_tot hz
 simp only [live17, Option.bind_some, hb, r17_Check_eq hz]
 cases b with
 | false => rfl
 | true =>
  cases ho : okW w with
  | false => rfl
  | true =>
   simp only [Bool.not_true, cond_false, show (err true != 0) = false from rfl, Option.bind_some]
   rw [wrap_i64 (n := 1 + (IntKind.i64.wrap ((n.tmod 15) + 15)).tmod 15) (by omega) (by omega)]
   generalize 1 + (IntKind.i64.wrap ((n.tmod 15) + 15)).tmod 15 = k at *
   have hwi := okW_iff.1 ho
   have hs : ∀ s ∈ w.2.1, waitP (restL k 15) s = !waitP [k] s := fun s hs => by
    obtain ⟨p, hp⟩ := okL_mem hwi.2.2.2.1 s hs
    have := okM_few (okSend_M hp).2.2.2
    exact rest_wait hk.1 hk.2 this.2.1 this.2.2
   have hle := restL_le k 15
   have w0 := Waiting_eq hz ho (ks := []) (by decide)
   have w1 := Waiting_eq hz ho (ks := [k]) (by simp)
   have w2 := Waiting_eq hz ho (ks := restL k 15) (by omega)
   rw [waitL_nil] at w0
   have h64 := hwi.2.1
   have two := waitL_two hs
   have ml : (w.2.1.map (fun x : Snd => x.1)).length = w.2.1.length := List.length_map _
   have e1 : ((((w.2.1.map (fun x : Snd => x.1)).length : Nat) : Int) != IntKind.i64.wrap (((waitL [k] w.2.1).length : Int) + ((waitL (restL k 15) w.2.1).length : Int))) = false := by
    rw [wrap_i64 (by omega) (by omega)]
    rw [bne_eq_false_iff_eq]; omega
   have e2 : ((((w.2.1.map (fun x : Snd => x.1)).length : Nat) : Int) != (w.2.1.length : Int)) = false := by
    rw [bne_eq_false_iff_eq]; omega
   have r2 := kinds_r2 (k := k) h64 hwi.2.2.2.1 hs
   simp only [kinds_r1, Option.bind_some, w0, w1, w2, e1, e2, cond_false, r2]
end Go.Sq
namespace Go.Sq
open Go.Rx
abbrev MsgTy : Ty := .pair (.int .i64) (.pair (.int .i64) (.pair (.int .i64) (.pair (.int .i64) (.pair (.int .i64) (.pair (.int .i64) (.pair (.int .i64) (.pair (.int .i64) (.pair .str (.sl (.int .u8))))))))))
abbrev PostTy : Ty := .pair (.int .i64) (.pair (.sl (.pair (.int .i64) (.pair MsgTy (.pair (.int .i64) (.int .i64))))) (.sl (.pair (.int .i64) (.pair (.int .i64) (.sl (.int .i64))))))
theorem wf_Msg {m : den MsgTy} (h : wf MsgTy m) : szM m := by
 obtain ⟨_, _, _, _, _, _, _, _, h9, h10, _⟩ := h
 exact ⟨h9, h10⟩
theorem wf_Post {w : den PostTy} (h : wf PostTy w) : szW w := by
 obtain ⟨_, ⟨h1, h2⟩, h3, h4⟩ := h
 exact ⟨h1, fun s hs => wf_Msg (h2 s hs).2.1, h3, fun x hx => (h4 x hx).2.2.1⟩
theorem pure_RKinds (x : denL [(true, PostTy), (false, .int .i64)]) (h : wfL _ x) : g_law17_RetryKinds x.1 x.2 = some true := law_Kinds (wf_Post h.1)
end Go.Sq
